/- The document's answer for paths: Up, Ahead, Longest, Below. -/
import Derived.Test.YtbfhppafffhlkaaPathRef3
namespace Go.Proofs.Ytbfhppafffhlkaa
open Go.RowKit
open Go.Proofs
set_option linter.unusedVariables false

theorem ahead_pre (p q : List (List UInt8)) : aheadL p q = true ↔ ∀ (k : Nat) (l : List UInt8), p[k]? = some l → q[k]? = some l := by
  unfold aheadL
  rw [decide_eq_true_iff]
  constructor
  · intro e k l h
    rw [e, List.getElem?_take] at h
    split at h
    · exact h
    · cases h
  · intro h
    apply List.ext_getElem?
    intro k
    rw [List.getElem?_take]
    by_cases hk : k < p.length
    · rw [if_pos hk, List.getElem?_eq_getElem hk]
      exact (h k _ (List.getElem?_eq_getElem hk)).symm
    · rw [if_neg hk, List.getElem?_eq_none (by omega)]

set_option maxHeartbeats 1000000 in
theorem rAhead_any (x y : Nat) (w : World) (hx : x < 18446744073709551616) (hy : y < 18446744073709551616) : Calls Try.prog 47 #[.int .u64 (x : Nat), .int .u64 (y : Nat)] w (Ret (.bool (aheadB x y)) w) := by
  have hRx := fun W => rRight_any x W hx
  have hRy := fun W => rRight_any y W hy
  unfold aheadB
  cases h : rd x with
  | none =>
    rw [h] at hRx
    have HRX := hid hRx
    clear hRx hRy h
    dsimp only
    go_enter Try.func47, Try.ntmps47
    go_wp2_with (go_at_call 10; refine (HRX.out _).mono ?_; rintro e w1 ⟨rfl, hb1⟩)
    go_ret
    exact ⟨rfl, hb1⟩
  | some p =>
    rw [h] at hRx
    have HRX := hid hRx
    cases h' : rd y with
    | none =>
      rw [h'] at hRy
      have HRY := hid hRy
      clear hRx hRy h h'
      dsimp only
      go_enter Try.func47, Try.ntmps47
      go_wp2_with fail
      refine (HRX.out _).mono ?_
      rintro e w1 ⟨rfl, hb1⟩
      go_wp2_with fail
      refine (HRY.out _).mono ?_
      rintro e w2 ⟨rfl, hb2⟩
      go_wp2
      go_ret
      exact ⟨rfl, step hb1 hb2⟩
    | some q =>
      rw [h'] at hRy
      have HRY := hid hRy
      have HPX := hid fun W => rParts_any x p W hx h
      have HPY := hid fun W => rParts_any y q W hy h'
      have HPRE := hid (ahead_pre p q)
      clear hRx hRy h h'
      dsimp only
      generalize aheadL p q = B at *
      go_enter Try.func47, Try.ntmps47
      go_wp2_with fail
      refine (HRX.out _).mono ?_
      rintro e w1 ⟨rfl, hb1⟩
      go_wp2_with fail
      refine (HRY.out _).mono ?_
      rintro e w2 ⟨rfl, hb2⟩
      go_wp2_with fail
      refine (HPX.out _).mono ?_
      rintro e w3 ⟨v, xs, rfl, hd, ho, hb3⟩
      obtain ⟨n, hn⟩ : ∃ n, xs.length = n := ⟨_, rfl⟩
      rw [hn] at ho
      obtain ⟨a, c, rfl, hld⟩ := Leads.of_own ho
      have hln := hld.len.1
      have HLD := hid hld
      have HD := hid hd
      have HN := hid hn
      clear hld hd hn ho
      go_wp2_with fail
      refine (HPY.out _).mono ?_
      rintro e w4 ⟨v, ys, rfl, hd, ho, hb4⟩
      obtain ⟨m, hm⟩ : ∃ n, ys.length = n := ⟨_, rfl⟩
      rw [hm] at ho
      obtain ⟨a', c', rfl, hld⟩ := Leads.of_own ho
      have hlm := hld.len.1
      have HLD' := hid hld
      have HD' := hid hd
      have HM := hid hm
      have HLDX := hid (HLD.out.grow hb4)
      have hb14 := step (step (step hb1 hb2) hb3) hb4
      clear hld hd hm ho hb1 hb2 hb3 hb4
      go_wp2
      go_loopg [7, 8, 23] n (fun g _ _ i wr => ∃ k : Nat, g + k = n ∧ i = .int .i64 (k : Nat) ∧ Hid (∀ j l, j < k → p[j]? = some l → q[j]? = some l) ∧ Below w4.heap.size w4 wr)
      case atStart => exact ⟨0, rfl, rfl, hid (fun j l h => absurd h (Nat.not_lt_zero j)), Below.refl _ _⟩
      case round =>
        obtain ⟨k, hk, rfl, hpre, hb⟩ := hrel
        have HK := hid hk
        clear hk
        by_cases hlt : k < n
        · obtain ⟨s, hs⟩ : ∃ s, xs[k]? = some s := ⟨_, List.getElem?_eq_getElem (by rw [HN.out]; exact hlt)⟩
          obtain ⟨b, off, rfl, hc⟩ := HLDX.out.at hlt (by unfold tcells; rw [List.getElem?_map, hs]; rfl)
          have hc1 := hc wr hb
          have hps : p[k]? = some s.data.toList := by rw [← HD.out]; unfold dl; rw [List.getElem?_map, hs]; rfl
          by_cases hkm : k < m
          · obtain ⟨t, ht⟩ : ∃ s, ys[k]? = some s := ⟨_, List.getElem?_eq_getElem (by rw [HM.out]; exact hkm)⟩
            obtain ⟨b', off', rfl, hc'⟩ := HLD'.out.at hkm (by unfold tcells; rw [List.getElem?_map, ht]; rfl)
            have hc2 := hc' wr hb
            have hqt : q[k]? = some t.data.toList := by rw [← HD'.out]; unfold dl; rw [List.getElem?_map, ht]; rfl
            by_cases he : t.data.toList = s.data.toList
            · have hnext : Hid (∀ j l, j < k + 1 → p[j]? = some l → q[j]? = some l) := hid (by
                intro j l hj hl
                by_cases e : j = k
                · subst e; rw [hps] at hl; rw [hqt, he]; exact hl
                · exact hpre.out j l (by omega) hl)
              obtain rfl : t = s := by cases t; cases s; congr 1; exact Array.toList_inj.1 he
              clear hc hc' hs ht hps hqt hpre
              go_wp2
              go_roundg (gk - 1)
              case measure => have := HK.out; omega
              case rel => exact ⟨k + 1, by have := HK.out; omega, by go_num, hnext, hb⟩
            · have HB : Hid (B = false) := hid (by
                refine Bool.eq_false_iff.2 fun h => he ?_
                have := HPRE.out.1 h k _ hps
                rw [hqt] at this
                exact Option.some.inj this)
              have hq2 : (t.toList == s.toList) = false := by rw [Lib.toList_data, Lib.toList_data]; simpa using he
              clear hc hc' hs ht hps hqt hpre he
              go_wp2
              go_ret
              exact ⟨retb HB.out.symm, step hb14 hb⟩
          · have HB : Hid (B = false) := hid (by
              refine Bool.eq_false_iff.2 fun h => ?_
              have h2 := HPRE.out.1 h k _ hps
              obtain ⟨h3, _⟩ := List.getElem?_eq_some_iff.1 h2
              rw [← HD'.out, dl_len, HM.out] at h3
              omega)
            have hmk : (m : Int) ≤ k := by omega
            clear hc hs hps hpre hkm
            go_wp2
            go_ret
            exact ⟨retb HB.out.symm, step hb14 hb⟩
        · have HB : Hid (B = true) := hid (by
            refine HPRE.out.2 fun j l hl => hpre.out j l ?_ hl
            obtain ⟨h3, _⟩ := List.getElem?_eq_some_iff.1 hl
            rw [← HD.out, dl_len, HN.out] at h3
            have := HK.out
            omega)
          clear HK hpre
          go_wp2
          go_ret
          exact ⟨retb HB.out.symm, step hb14 hb⟩

theorem belowR_snoc (l : List Nat) (x k y : Nat) (h : l[k]? = some y) : belowL (l.take (k + 1)) x = belowL (l.take k) x ++ (if (decide (y ≠ x) && aheadB x y) = true then [y] else []) := belowL_snoc l x k y h
end Go.Proofs.Ytbfhppafffhlkaa
