/- PathLongest: the walk of the law. -/
import Derived.Test.YtdjckgcjdbdeiaaPathLaw
import Derived.Deep.DeepCutAuto
import Derived.Deep.CutBlock
namespace Go.Proofs.Ytdjckgcjdbdeiaa
open Go.RowKit
open Go.Proofs
set_option linter.unusedVariables false

theorem long_ways (l : List Nat) (x : Nat) (ps : List (List UInt8)) (h : rd x = some ps) : ∃ (B : Nat) (E : Int), longV l x = .tuple #[.int .u64 ((B : Nat) : Int), .int .i64 E] ∧
    ((E = 4 ∧ ∀ u ∈ ups ps, u ∉ l) ∨ (E = 0 ∧ ∃ k0 : Nat, (ups ps)[k0]? = some B ∧ B ∈ l ∧ ∀ j u, j < k0 → (ups ps)[j]? = some u → u ∉ l)) := by
  unfold longV
  rw [h]
  dsimp only
  cases hf : (ups ps).find? (fun u => decide (u ∈ l)) with
  | none => exact ⟨0, 4, rfl, .inl ⟨rfl, fun u hu hl => List.find?_eq_none.1 hf u hu (decide_eq_true hl)⟩⟩
  | some u =>
    refine ⟨u, 0, rfl, .inr ⟨rfl, ?_⟩⟩
    obtain ⟨h1, i, hi, e, hall⟩ := List.find?_eq_some_iff_getElem.1 hf
    refine ⟨i, by rw [List.getElem?_eq_getElem hi, e], of_decide_eq_true h1, fun j v hj hv hl => ?_⟩
    obtain ⟨hj2, rfl⟩ := List.getElem?_eq_some_iff.1 hv
    have := hall j hj
    rw [decide_eq_true hl] at this
    cases this
theorem Leads.wfront {w : World} {a : Option Addr} {n cap m : Nat} {xs : List Nat} (h : Leads w a n cap (wcells xs)) (hx : xs.length = n) (hm : m ≤ n) : Leads w a m cap (wcells (xs.take m)) := by
  obtain ⟨h1, h2, ⟨h, h'⟩ | ⟨b, off, rfl, h3, h4⟩⟩ := h
  · exact ⟨by omega, by omega, .inl ⟨by omega, by rw [show xs = [] from List.eq_nil_of_length_eq_zero (by omega)]; simp [wcells]⟩⟩
  · refine ⟨by omega, by omega, .inr ⟨b, off, rfl, h3, fun i v hv => h4 i v ?_⟩⟩
    unfold wcells at *
    rw [List.map_take, List.getElem?_take] at hv
    split at hv
    · exact hv
    · cases hv

set_option maxRecDepth 100000 in
set_option maxHeartbeats 2000000 in
theorem pathLongest.walk (a0 : Option Addr) (cap0 : Nat) (xs0 : List Nat) (x : Nat) (w : World) (h0 : Leads w a0 xs0.length cap0 (wcells xs0)) (ok0 : wok xs0) (hx : x < 18446744073709551616) :
    Calls Try.prog 5 #[.slice a0 xs0.length cap0, .int .u64 (x : Nat)] w (Ret (.bool true) w) := by
  obtain ⟨n0, en0⟩ : ∃ n, xs0.length = n := ⟨_, rfl⟩
  rw [en0] at h0 ⊢
  obtain ⟨n, hn⟩ : ∃ n : Nat, min (n0 : Int) 12 = (n : Int) := ⟨min n0 12, by omega⟩
  have hn12 : n ≤ 12 := by omega
  have hl0 := h0.len
  obtain ⟨hl1, hl2⟩ := hl0
  have hnc := h0.1
  have hnn : n ≤ n0 := by omega
  obtain ⟨l, hl⟩ : ∃ l, l = xs0.take n := ⟨_, rfl⟩
  have hll : l.length = n := by rw [hl, List.length_take, en0]; omega
  have hlk : wok l := fun f hf => ok0 f (List.mem_of_mem_take (hl ▸ hf))
  have H0 := hid (h0.wfront en0 hnn)
  rw [← hl] at H0
  have HLL := hid hll
  have HLK := hid hlk
  clear h0 en0 hl ok0 hll hlk
  cases hr : rd x with
  | none =>
    have HU := hid fun W => Up_none x W hx hr
    clear hr
    go_enter Try.func5, Try.ntmps5
    go_wp2_with fail
    refine (wakes_any _).mono ?_
    rintro e w1 ⟨rfl, hb1⟩
    go_wp2_with fail
    refine (HU.out _).mono ?_
    rintro e w2 ⟨rfl, hb2⟩
    go_wp2
    go_ret
    exact ⟨rfl, step hb1 hb2⟩
  | some ps =>
    obtain ⟨-, -, -, hok, hnum, htot, hlen⟩ := rd_some hr
    have HU := hid fun W => Up_some x ps W hx hr
    have HUL := hid (ups_len ps)
    have hab := ahead_ups x ps hr
    have HAB := hid hab
    have hA := fun (u : Nat) (hu : u < 18446744073709551616) W => Ahead_any u x W hu hx
    have HA := hid hA
    have HUP := hid (ups_lt x ps hr)
    obtain ⟨B, E, eL, hL⟩ := long_ways l x ps hr
    have hLong := fun W a c h => Longest_any l a n c x W hx HLL.out h
    rw [eL] at hLong
    have HLG := hid hLong
    have HL := hid hL
    obtain ⟨m, hm⟩ : ∃ m, ps.length = m := ⟨_, rfl⟩
    have HPM := hid hm
    rw [hm] at hlen
    clear eL hL hLong hok hnum htot hA hab hm hr
    go_enter Try.func5, Try.ntmps5
    go_wp2_with fail
    refine (wakes_any _).mono ?_
    rintro e w1 ⟨rfl, hb1⟩
    go_wp2_with fail
    refine (HU.out _).mono ?_
    rintro e w2 ⟨v, rfl, ho, hb2⟩
    rw [HUL.out, HPM.out] at ho
    obtain ⟨a2, c2, rfl, hld⟩ := Leads.of_own ho
    have HLD := hid hld
    clear ho hld
    go_wp2_with fail
    refine (HLG.out _ _ _ (H0.out.grow (step hb1 hb2))).mono ?_
    rintro e w3 ⟨rfl, hb3⟩
    have hb13 := step (step hb1 hb2) hb3
    have HLD3 := hid (HLD.out.grow hb3)
    have H03 := hid (H0.out.grow hb13)
    clear hb1 hb2 hb3
    go_upto_block 0 with (fail)
    go_cut [] (fun wr => Below w3.heap.size w3 wr)
    case first =>
      go_wp2
      go_loopg [10, 39] (m + 1) (fun g _ i wr => ∃ k : Nat, g + k = m + 1 ∧ i = .int .i64 (k : Nat) ∧ Below w3.heap.size w3 wr ∧ Hid (E = 4 ∨ ∃ k0 : Nat, k ≤ k0 ∧ (ups ps)[k0]? = some B ∧ B ∈ l ∧ ∀ j u, j < k0 → (ups ps)[j]? = some u → u ∉ l))
      case atStart =>
        refine ⟨0, rfl, rfl, Below.refl _ _, hid ?_⟩
        rcases HL.out with ⟨h, _⟩ | ⟨_, k0, h1, h2, h3⟩
        · exact .inl h
        · exact .inr ⟨k0, Nat.zero_le _, h1, h2, h3⟩
      case round =>
        obtain ⟨k, hk, rfl, hb, hbest⟩ := hrel
        have HK := hid hk
        clear hk
        by_cases hlt : k < m + 1
        · obtain ⟨u, hu⟩ : ∃ u, (ups ps)[k]? = some u := ⟨_, List.getElem?_eq_getElem (by rw [HUL.out, HPM.out]; exact hlt)⟩
          obtain ⟨b, off, rfl, hc⟩ := HLD3.out.at hlt (wcell_at hu)
          have hc1 := hc wr hb
          have hC := fun W hW => ContU_any l a0 n cap0 u W HLL.out (H03.out.grow hW)
          by_cases hul : u ∈ l
          · -- the first one of the ways up that is there
            have hEB : E = 0 ∧ B = u := by
              rcases HL.out with ⟨_, h⟩ | ⟨h, k0, h1, h2, h3⟩
              · exact absurd hul (h u (List.mem_of_getElem? hu))
              · refine ⟨h, ?_⟩
                rcases hbest.out with h4 | ⟨k1, h5, h6, _, h7⟩
                · omega
                · by_cases e : k = k1
                  · subst e; rw [hu] at h6; cases h6; rfl
                  · exact absurd hul (h7 k u (by omega) hu)
            obtain ⟨rfl, rfl⟩ := hEB
            rw [decide_eq_true hul] at hC
            have HC := hid hC
            clear hC hu hc hul hbest
            go_wp2_with (go_at_call 20; refine (HC.out _ hb).mono ?_; rintro e w5 ⟨rfl, hb5⟩)
            go_meet
            exact step hb hb5
          · rw [decide_eq_false hul] at hC
            have HC := hid hC
            have hnext : Hid (E = 4 ∨ ∃ k0 : Nat, k + 1 ≤ k0 ∧ (ups ps)[k0]? = some B ∧ B ∈ l ∧ ∀ j u, j < k0 → (ups ps)[j]? = some u → u ∉ l) := by
              rcases hbest.out with h4 | ⟨k1, h5, h6, h8, h7⟩
              · exact .inl h4
              · refine .inr ⟨k1, ?_, h6, h8, h7⟩
                rcases Nat.lt_or_ge k k1 with h | h
                · exact h
                · obtain rfl : k = k1 := by omega
                  rw [hu] at h6; cases h6
                  exact absurd h8 hul
            rcases HL.out with ⟨h4, _⟩ | ⟨h0, k0, h1, h2, h3⟩
            · subst h4
              clear hC hu hc hul hbest
              go_wp2_with (go_at_call 20; refine (HC.out _ hb).mono ?_; rintro e w5 ⟨rfl, hb5⟩)
              go_roundg (gk - 1)
              case measure => have := HK.out; omega
              case rel => exact ⟨k + 1, by have := HK.out; omega, by go_num, step hb hb5, hnext⟩
            · subst h0
              have hBu : (((B : Nat) : Int) == ((u : Nat) : Int)) = false := by
                have : B ≠ u := by rintro rfl; exact hul h2
                simp; omega
              clear hC hu hc hul hbest h1 h2 h3
              go_wp2_with (go_at_call 20; refine (HC.out _ hb).mono ?_; rintro e w5 ⟨rfl, hb5⟩)
              go_roundg (gk - 1)
              case measure => have := HK.out; omega
              case rel => exact ⟨k + 1, by have := HK.out; omega, by go_num, step hb hb5, hnext⟩
        · clear HK hbest
          go_wp2
          go_meet
          exact hb
    case rest =>
      go_wp2
      go_loopg [12, 14, 63, 69] n (fun g _ _ i _ wr => ∃ k : Nat, g + k = n ∧ i = .int .i64 (k : Nat) ∧ Below w3.heap.size w3 wr)
      case atStart => exact ⟨0, rfl, rfl, hcut⟩
      case round =>
        obtain ⟨k, hk, rfl, hb⟩ := hrel
        obtain ⟨G, hG⟩ : ∃ G, G = gk - 1 := ⟨_, rfl⟩
        have HK := hid hk
        have HG := hid hG
        clear hk hG
        by_cases hlt : k < n
        · obtain ⟨p, hp⟩ : ∃ u, l[k]? = some u := ⟨_, List.getElem?_eq_getElem (by rw [HLL.out]; exact hlt)⟩
          obtain ⟨b, off, rfl, hc⟩ := H03.out.at hlt (wcell_at hp)
          have hc1 := hc wr hb
          have hpl := List.mem_of_getElem? hp
          have hpw := HLK.out p hpl
          have hP := HA.out p hpw
          have hE0 : aheadB p x = true → E = 0 := by
            intro h
            rw [HAB.out] at h
            rcases HL.out with ⟨_, h2⟩ | ⟨h2, _⟩
            · exact absurd hpl (h2 p (of_decide_eq_true h))
            · exact h2
          have HE0 := hid hE0
          clear hc hp hE0
          obtain ⟨wo, rfl⟩ : ∃ wo : World, wo = wr := ⟨_, rfl⟩
          go_upto_block 4 with (fail)
          go_cut [12] (fun q wr => q = .int .u64 ((p : Nat) : Int) ∧ Below wo.heap.size wo wr)
          case first =>
            go_wp2
            go_loopg [14, 69] n (fun g _ i wr => ∃ j : Nat, g + j = n ∧ i = .int .i64 (j : Nat) ∧ Below wo.heap.size wo wr)
            case atStart => exact ⟨0, rfl, rfl, Below.refl _ _⟩
            case round =>
              obtain ⟨j, hj, rfl, hb2⟩ := hrel
              have HJ := hid hj
              clear hj
              by_cases hjt : j < n
              · obtain ⟨q, hq⟩ : ∃ u, l[j]? = some u := ⟨_, List.getElem?_eq_getElem (by rw [HLL.out]; exact hjt)⟩
                obtain ⟨b', off', e, hc⟩ := H03.out.at hjt (wcell_at hq)
                cases e
                have hc2 := hc wr (step hb hb2)
                have hqw := HLK.out q (List.mem_of_getElem? hq)
                have hQ := HA.out q hqw
                have hPQ := fun W => Ahead_any p q W hpw hqw
                have hQP := fun W => Ahead_any q p W hqw hpw
                have hT := ahead_two x p q
                clear hc hq
                cases hpx : aheadB p x with
                | false =>
                  rw [hpx] at hP
                  have HP := hid hP
                  clear hP hpx hQ hPQ hQP hT
                  go_wp2_with fail
                  refine (HP.out _).mono ?_
                  rintro e y0 ⟨rfl, hy0⟩
                  go_wp2
                  go_roundg (gk - 1)
                  case measure => have := HJ.out; omega
                  case rel => exact ⟨j + 1, by have := HJ.out; omega, by go_num, (step hb2 hy0)⟩
                | true =>
                  rw [hpx] at hP hT
                  have HP := hid hP
                  cases hqx : aheadB q x with
                  | false =>
                    rw [hqx] at hQ
                    have HQ := hid hQ
                    clear hP hpx hQ hPQ hQP hT hqx
                    go_wp2_with fail
                    refine (HP.out _).mono ?_
                    rintro e y0 ⟨rfl, hy0⟩
                    go_wp2_with fail
                    refine (HQ.out _).mono ?_
                    rintro e y1 ⟨rfl, hy1⟩
                    go_wp2
                    go_roundg (gk - 1)
                    case measure => have := HJ.out; omega
                    case rel => exact ⟨j + 1, by have := HJ.out; omega, by go_num, (step (step hb2 hy0) hy1)⟩
                  | true =>
                    rw [hqx] at hQ hT
                    have HQ := hid hQ
                    cases hpq : aheadB p q with
                    | true =>
                      rw [hpq] at hPQ
                      have HPQ := hid hPQ
                      clear hP hpx hQ hPQ hQP hT hqx hpq
                      go_wp2_with fail
                      refine (HP.out _).mono ?_
                      rintro e y0 ⟨rfl, hy0⟩
                      go_wp2_with fail
                      refine (HQ.out _).mono ?_
                      rintro e y1 ⟨rfl, hy1⟩
                      go_wp2_with fail
                      refine (HPQ.out _).mono ?_
                      rintro e y2 ⟨rfl, hy2⟩
                      go_wp2
                      go_roundg (gk - 1)
                      case measure => have := HJ.out; omega
                      case rel => exact ⟨j + 1, by have := HJ.out; omega, by go_num, (step (step (step hb2 hy0) hy1) hy2)⟩
                    | false =>
                      have hqp : aheadB q p = true := by
                        rcases hT rfl rfl with h | h
                        · rw [hpq] at h; cases h
                        · exact h
                      rw [hpq] at hPQ
                      rw [hqp] at hQP
                      have HPQ := hid hPQ
                      have HQP := hid hQP
                      clear hP hpx hQ hPQ hQP hT hqx hpq hqp
                      go_wp2_with fail
                      refine (HP.out _).mono ?_
                      rintro e y0 ⟨rfl, hy0⟩
                      go_wp2_with fail
                      refine (HQ.out _).mono ?_
                      rintro e y1 ⟨rfl, hy1⟩
                      go_wp2_with fail
                      refine (HPQ.out _).mono ?_
                      rintro e y2 ⟨rfl, hy2⟩
                      go_wp2_with fail
                      refine (HQP.out _).mono ?_
                      rintro e y3 ⟨rfl, hy3⟩
                      go_wp2
                      go_roundg (gk - 1)
                      case measure => have := HJ.out; omega
                      case rel => exact ⟨j + 1, by have := HJ.out; omega, by go_num, (step (step (step (step hb2 hy0) hy1) hy2) hy3)⟩
              · clear HJ
                go_wp2
                go_meet
                exact ⟨rfl, hb2⟩
          case rest =>
            obtain ⟨rfl, hb2⟩ := hcut
            cases hpx : aheadB p x with
            | false =>
              rw [hpx] at hP
              have HP := hid hP
              clear hP hpx
              go_wp2_with fail
              refine (HP.out _).mono ?_
              rintro e y0 ⟨rfl, hy0⟩
              go_wp2
              go_roundg G
              case measure => have := HG.out; have := HK.out; omega
              case rel => exact ⟨k + 1, by have := HG.out; have := HK.out; omega, by go_num, step (step hb hb2) hy0⟩
            | true =>
              have hE := HE0.out hpx
              subst hE
              rw [hpx] at hP
              have HP := hid hP
              clear hP hpx
              go_wp2_with fail
              refine (HP.out _).mono ?_
              rintro e y0 ⟨rfl, hy0⟩
              go_wp2
              go_roundg G
              case measure => have := HG.out; have := HK.out; omega
              case rel => exact ⟨k + 1, by have := HG.out; have := HK.out; omega, by go_num, step (step hb hb2) hy0⟩
        · clear HK HG
          have hB := Below_any l a0 n cap0 x wr hx HLL.out HLK.out (by omega) (H03.out.grow hb)
          have HB := hid hB
          clear hB
          go_wp2_with fail
          refine HB.out.mono ?_
          rintro e w4 ⟨v, rfl, ho, hb4⟩
          obtain ⟨r, hr⟩ : ∃ r, belowL l x = r := ⟨_, rfl⟩
          rw [hr] at ho
          obtain ⟨t, ht⟩ : ∃ t, r.length = t := ⟨_, rfl⟩
          rw [ht] at ho
          have htn : t ≤ n := by
            rw [← ht, ← hr]; unfold belowL
            exact Nat.le_trans (List.length_filter_le _ _) (by rw [HLL.out]; exact Nat.le_refl _)
          obtain ⟨a4, c4, rfl, hld⟩ := Leads.of_own ho
          have HLD4 := hid hld
          have HR := hid hr
          have HT := hid ht
          clear ho hld hr ht
          go_wp2
          go_loopg [16, 106] t (fun g _ i wr => ∃ j : Nat, g + j = t ∧ i = .int .i64 (j : Nat) ∧ Below w4.heap.size w4 wr)
          case atStart => exact ⟨0, rfl, rfl, Below.refl _ _⟩
          case round =>
            obtain ⟨j, hj, rfl, hb5⟩ := hrel
            have HJ := hid hj
            clear hj
            by_cases hjt : j < t
            · obtain ⟨q, hq⟩ : ∃ u, r[j]? = some u := ⟨_, List.getElem?_eq_getElem (by rw [HT.out]; exact hjt)⟩
              obtain ⟨b, off, rfl, hc⟩ := HLD4.out.at hjt (wcell_at hq)
              have hc2 := hc _ hb5
              have hmem := List.mem_of_getElem? hq
              rw [← HR.out] at hmem
              unfold belowL at hmem
              obtain ⟨hql, hqx⟩ := List.mem_filter.1 hmem
              rw [Bool.and_eq_true, decide_eq_true_eq] at hqx
              have hQ := fun W => Ahead_any x q W hx (HLK.out q hql)
              rw [hqx.2] at hQ
              have hne : (((q : Nat) : Int) == ((x : Nat) : Int)) = false := by have := hqx.1; simp; omega
              have hC := fun W hW => ContU_any l a0 n cap0 q W HLL.out (H03.out.grow (step (step hb hb4) hW))
              rw [decide_eq_true hql] at hC
              have HQ := hid hQ
              have HC := hid hC
              clear hc hq hmem hql hqx hQ hC
              go_wp2_with fail
              refine (HQ.out _).mono ?_
              rintro e y0 ⟨rfl, hy0⟩
              go_wp2_with fail
              refine (HC.out _ (step hb5 hy0)).mono ?_
              rintro e y1 ⟨rfl, hy1⟩
              go_wp2
              go_roundg (gk - 1)
              case measure => have := HJ.out; omega
              case rel => exact ⟨j + 1, by have := HJ.out; omega, by go_num, step (step hb5 hy0) hy1⟩
            · clear HJ
              go_wp2
              go_ret
              exact ⟨rfl, step (step (step hb13 hb) hb4) hb5⟩
end Go.Proofs.Ytdjckgcjdbdeiaa
