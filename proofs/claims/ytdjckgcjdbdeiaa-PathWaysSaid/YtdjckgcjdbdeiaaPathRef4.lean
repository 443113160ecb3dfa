/- The document's answer for paths: Up, Ahead, Longest, Below. -/
import Derived.Test.YtdjckgcjdbdeiaaPathRef3
namespace Go.Proofs.Ytdjckgcjdbdeiaa
open Go.RowKit
open Go.Proofs
set_option linter.unusedVariables false

set_option maxHeartbeats 1000000 in
theorem rUp_any (x : Nat) (ps : List (List UInt8)) (w : World) (hx : x < 18446744073709551616) (h : rd x = some ps) : Calls Try.prog 24 #[.int .u64 (x : Nat)] w (fun e w' => ∃ v, Words (ups ps) (fun v => v) w e w' v) := by
  have HR := hid fun W => rParts_any x ps W hx h
  obtain ⟨-, -, -, hok, -, htot, hlen⟩ := rd_some h
  have HOK := hid hok
  clear h hok
  go_enter Try.func24, Try.ntmps24
  go_wp2_with fail
  refine (HR.out _).mono ?_
  rintro e w1 ⟨v, xs, rfl, hd, ho, hb1⟩
  obtain ⟨n, hn⟩ : ∃ n, xs.length = n := ⟨_, rfl⟩
  have hpn : ps.length = n := by rw [← hd, dl_len]; exact hn
  rw [hn] at ho
  obtain ⟨a, c, rfl, hld⟩ := Leads.of_own ho
  have hn4 : n ≤ 4 := by omega
  have hnc := hld.1
  have hcm := hld.len.2
  have HL := hid hld
  have HD := hid hd
  have HN := hid hn
  have HP := hid hpn
  have HTT := hid htot
  clear hd ho hn hld hpn htot hlen
  go_wp2
  go_loopg [4, 5, 6, 7] (n + 1) (fun g v i _ _ wr => ∃ k : Nat, g + k = n + 1 ∧ i = .int .i64 ((n : Int) - (k : Nat)) ∧ wr.ownsRow w1.heap.size 25 1 v k (wcells (upsTo ps k)) ∧ Below w1.heap.size w1 wr)
  case atStart => exact ⟨0, rfl, by simp, World.ownsRow_nil _ _ _ _, Below.refl _ _⟩
  case round =>
    obtain ⟨k, hk, rfl, hown, hb⟩ := hrel
    have HK := hid hk
    have hbs := hb.size
    by_cases hlt : k ≤ n
    · obtain ⟨m, hm⟩ : ∃ m : Nat, (n : Int) - (k : Nat) = (m : Nat) := ⟨n - k, by omega⟩
      have hmn : m ≤ n := by omega
      have hmc : m ≤ c := by omega
      rw [hm]
      have hpk : ps.length - k = m := by rw [HP.out]; omega
      have hdt : dl (xs.take m) = ps.take m := by rw [← HD.out]; unfold dl; rw [List.map_take]
      have hxm : (xs.take m).length = m := by rw [List.length_take, HN.out]; omega
      have hW := rJoin_any (xs.take m) a m c wr hxm ((HL.out.grow hb).cut HN.out hmn) (by rw [hdt]; have := tot_take ps m; have := HTT.out; omega)
      rw [hdt] at hW
      unfold rJoinV at hW
      rw [okL_take ps m HOK.out, if_pos rfl] at hW
      have hup := upsTo_succ ps k
      rw [hpk] at hup
      obtain ⟨N, hN⟩ : ∃ N, numL (ps.take m) = N := ⟨_, rfl⟩
      rw [hN] at hW hup
      have HW := hid hW
      have HU : Hid (wcells (upsTo ps k) ++ [.int .u64 ((N : Nat) : Int)] = wcells (upsTo ps (k + 1))) := hid (by rw [hup]; unfold wcells; simp)
      have HM := hid hm
      have HO := hid hown
      clear hW hup hpk hdt hxm hN hm hown hk
      go_wp2_with fail
      refine HW.out.mono ?_
      rintro e w3 ⟨rfl, hb3⟩
      obtain ⟨w4, hw4, hb4, hs4, hl4⟩ := laid w3 #[.int .u64 ((N : Nat) : Int)] 25
      have HL4 := hid hl4
      have hb34 := step hb3 hb4
      have h34 := hb34.size
      have hs5 : w1.heap.size ≤ w4.heap.size := by omega
      clear hl4 hs4
      go_wp2_with ((with_reducible show wpList _ _ _ _ _ _); refine wp_append1 elemWords rfl (.tmp 23) (.tmp 25) rfl w1.heap.size u4 k _ rfl (own_grow HO.out hb34) w3.heap.size [.int .u64 ((N : Nat) : Int)] rfl rfl ?c1 ?c2 ?c3 ?c4 ?c5)
      case c1 =>
        intro j u hj
        exact cell_laid HL4.out (by simpa using hj)
      case c2 => intro u hu; simp at hu; subst hu; rfl
      case c3 => omega
      case c4 => exact hs5
      case c5 =>
        intro v' w5 hown' hb5 hs6
        rw [HU.out] at hown'
        have HO' := hid hown'
        clear hown'
        go_wp2
        go_roundg (gk - 1)
        case measure => have := HK.out; omega
        case rel => exact ⟨k + 1, by have := HK.out; omega, by have := HM.out; go_num, HO'.out, (step hb hb34).trans hb5⟩
    · obtain rfl : k = n + 1 := by have := HK.out; omega
      have hm : (n : Int) - ((n + 1 : Nat) : Int) = -1 := by omega
      rw [hm]
      have HU : Hid (upsTo ps (n + 1) = ups ps) := hid (by unfold upsTo ups; rw [HP.out])
      have HO := hid hown
      clear hown hm hk
      go_wp2
      go_ret
      refine ⟨_, rfl, ?_, step hb1 hb⟩
      have := HO.out
      rw [HU.out] at this
      rw [← HU.out, upsTo_len, HU.out]
      exact own_base this hb1.size

theorem ahead_pre (p q : List (List UInt8)) : aheadL p q = true ↔ ∀ (k : Nat) (l : List UInt8), p[k]? = some l → q[k]? = some l := by
  unfold aheadL
  rw [decide_eq_true_iff]
  constructor
  · intro e k l h
    rw [e, List.getElem?_take] at h
    split at h
    · exact h
    · cases h
  · intro h
    apply List.ext_getElem?
    intro k
    rw [List.getElem?_take]
    by_cases hk : k < p.length
    · rw [if_pos hk, List.getElem?_eq_getElem hk]
      exact (h k _ (List.getElem?_eq_getElem hk)).symm
    · rw [if_neg hk, List.getElem?_eq_none (by omega)]

set_option maxHeartbeats 1000000 in
theorem rAhead_any (x y : Nat) (w : World) (hx : x < 18446744073709551616) (hy : y < 18446744073709551616) : Calls Try.prog 27 #[.int .u64 (x : Nat), .int .u64 (y : Nat)] w (Ret (.bool (aheadB x y)) w) := by
  have hRx := fun W => rRight_any x W hx
  have hRy := fun W => rRight_any y W hy
  unfold aheadB
  cases h : rd x with
  | none =>
    rw [h] at hRx
    have HRX := hid hRx
    clear hRx hRy h
    dsimp only
    go_enter Try.func27, Try.ntmps27
    go_wp2_with (go_at_call 11; refine (HRX.out _).mono ?_; rintro e w1 ⟨rfl, hb1⟩)
    go_ret
    exact ⟨rfl, hb1⟩
  | some p =>
    rw [h] at hRx
    have HRX := hid hRx
    cases h' : rd y with
    | none =>
      rw [h'] at hRy
      have HRY := hid hRy
      clear hRx hRy h h'
      dsimp only
      go_enter Try.func27, Try.ntmps27
      go_wp2_with fail
      refine (HRX.out _).mono ?_
      rintro e w1 ⟨rfl, hb1⟩
      go_wp2_with fail
      refine (HRY.out _).mono ?_
      rintro e w2 ⟨rfl, hb2⟩
      go_wp2
      go_ret
      exact ⟨rfl, step hb1 hb2⟩
    | some q =>
      rw [h'] at hRy
      have HRY := hid hRy
      have HPX := hid fun W => rParts_any x p W hx h
      have HPY := hid fun W => rParts_any y q W hy h'
      have HPRE := hid (ahead_pre p q)
      clear hRx hRy h h'
      dsimp only
      generalize aheadL p q = B at *
      go_enter Try.func27, Try.ntmps27
      go_wp2_with fail
      refine (HRX.out _).mono ?_
      rintro e w1 ⟨rfl, hb1⟩
      go_wp2_with fail
      refine (HRY.out _).mono ?_
      rintro e w2 ⟨rfl, hb2⟩
      go_wp2_with fail
      refine (HPX.out _).mono ?_
      rintro e w3 ⟨v, xs, rfl, hd, ho, hb3⟩
      obtain ⟨n, hn⟩ : ∃ n, xs.length = n := ⟨_, rfl⟩
      rw [hn] at ho
      obtain ⟨a, c, rfl, hld⟩ := Leads.of_own ho
      have hln := hld.len.1
      have HLD := hid hld
      have HD := hid hd
      have HN := hid hn
      clear hld hd hn ho
      go_wp2_with fail
      refine (HPY.out _).mono ?_
      rintro e w4 ⟨v, ys, rfl, hd, ho, hb4⟩
      obtain ⟨m, hm⟩ : ∃ n, ys.length = n := ⟨_, rfl⟩
      rw [hm] at ho
      obtain ⟨a', c', rfl, hld⟩ := Leads.of_own ho
      have hlm := hld.len.1
      have HLD' := hid hld
      have HD' := hid hd
      have HM := hid hm
      have HLDX := hid (HLD.out.grow hb4)
      have hb14 := step (step (step hb1 hb2) hb3) hb4
      clear hld hd hm ho hb1 hb2 hb3 hb4
      go_wp2
      go_loopg [7, 8, 23] n (fun g _ _ i wr => ∃ k : Nat, g + k = n ∧ i = .int .i64 (k : Nat) ∧ Hid (∀ j l, j < k → p[j]? = some l → q[j]? = some l) ∧ Below w4.heap.size w4 wr)
      case atStart => exact ⟨0, rfl, rfl, hid (fun j l h => absurd h (Nat.not_lt_zero j)), Below.refl _ _⟩
      case round =>
        obtain ⟨k, hk, rfl, hpre, hb⟩ := hrel
        have HK := hid hk
        clear hk
        by_cases hlt : k < n
        · obtain ⟨s, hs⟩ : ∃ s, xs[k]? = some s := ⟨_, List.getElem?_eq_getElem (by rw [HN.out]; exact hlt)⟩
          obtain ⟨b, off, rfl, hc⟩ := HLDX.out.at hlt (by unfold tcells; rw [List.getElem?_map, hs]; rfl)
          have hc1 := hc wr hb
          have hps : p[k]? = some s.data.toList := by rw [← HD.out]; unfold dl; rw [List.getElem?_map, hs]; rfl
          by_cases hkm : k < m
          · obtain ⟨t, ht⟩ : ∃ s, ys[k]? = some s := ⟨_, List.getElem?_eq_getElem (by rw [HM.out]; exact hkm)⟩
            obtain ⟨b', off', rfl, hc'⟩ := HLD'.out.at hkm (by unfold tcells; rw [List.getElem?_map, ht]; rfl)
            have hc2 := hc' wr hb
            have hqt : q[k]? = some t.data.toList := by rw [← HD'.out]; unfold dl; rw [List.getElem?_map, ht]; rfl
            by_cases he : t.data.toList = s.data.toList
            · have hnext : Hid (∀ j l, j < k + 1 → p[j]? = some l → q[j]? = some l) := hid (by
                intro j l hj hl
                by_cases e : j = k
                · subst e; rw [hps] at hl; rw [hqt, he]; exact hl
                · exact hpre.out j l (by omega) hl)
              obtain rfl : t = s := by cases t; cases s; congr 1; exact Array.toList_inj.1 he
              clear hc hc' hs ht hps hqt hpre
              go_wp2
              go_roundg (gk - 1)
              case measure => have := HK.out; omega
              case rel => exact ⟨k + 1, by have := HK.out; omega, by go_num, hnext, hb⟩
            · have HB : Hid (B = false) := hid (by
                refine Bool.eq_false_iff.2 fun h => he ?_
                have := HPRE.out.1 h k _ hps
                rw [hqt] at this
                exact Option.some.inj this)
              have hq2 : (t.toList == s.toList) = false := by rw [Lib.toList_data, Lib.toList_data]; simpa using he
              clear hc hc' hs ht hps hqt hpre he
              go_wp2
              go_ret
              exact ⟨retb HB.out.symm, step hb14 hb⟩
          · have HB : Hid (B = false) := hid (by
              refine Bool.eq_false_iff.2 fun h => ?_
              have h2 := HPRE.out.1 h k _ hps
              obtain ⟨h3, _⟩ := List.getElem?_eq_some_iff.1 h2
              rw [← HD'.out, dl_len, HM.out] at h3
              omega)
            have hmk : (m : Int) ≤ k := by omega
            clear hc hs hps hpre hkm
            go_wp2
            go_ret
            exact ⟨retb HB.out.symm, step hb14 hb⟩
        · have HB : Hid (B = true) := hid (by
            refine HPRE.out.2 fun j l hl => hpre.out j l ?_ hl
            obtain ⟨h3, _⟩ := List.getElem?_eq_some_iff.1 hl
            rw [← HD.out, dl_len, HN.out] at h3
            have := HK.out
            omega)
          clear HK hpre
          go_wp2
          go_ret
          exact ⟨retb HB.out.symm, step hb14 hb⟩

theorem belowR_snoc (l : List Nat) (x k y : Nat) (h : l[k]? = some y) : belowL (l.take (k + 1)) x = belowL (l.take k) x ++ (if (decide (y ≠ x) && aheadB x y) = true then [y] else []) := belowL_snoc l x k y h
set_option maxHeartbeats 1000000 in
theorem rBelow_any (l : List Nat) (a : Option Addr) (n cap x : Nat) (w : World) (hx : x < 18446744073709551616) (hl : l.length = n) (hlw : wok l) (hn : n ≤ 1000) (h : Leads w a n cap (wcells l)) :
    Calls Try.prog 28 #[.slice a n cap, .int .u64 (x : Nat)] w (fun e w' => ∃ v, Words (belowL l x) (fun v => v) w e w' v) := by
  have H := hid h
  have HL := hid hl
  have HW := hid hlw
  clear h hl hlw
  go_enter Try.func28, Try.ntmps28
  go_wp2
  go_loopg [5, 7, 10] n (fun g v _ i wr => ∃ k : Nat, g + k = n ∧ i = .int .i64 (k : Nat) ∧ wr.ownsRow w.heap.size 25 1 v (belowL (l.take k) x).length (wcells (belowL (l.take k) x)) ∧ Below w.heap.size w wr)
  case atStart => exact ⟨0, rfl, rfl, World.ownsRow_nil _ _ _ _, Below.refl _ _⟩
  case round =>
    obtain ⟨k, hk, rfl, hown, hb⟩ := hrel
    have HK := hid hk
    have hbs := hb.size
    clear hk
    by_cases hlt : k < n
    · obtain ⟨y, hy⟩ : ∃ x, l[k]? = some x := ⟨_, List.getElem?_eq_getElem (by rw [HL.out]; exact hlt)⟩
      obtain ⟨b, off, rfl, hc⟩ := H.out.at hlt (wcell_at hy)
      have hc1 := hc wr hb
      have hA := fun W => rAhead_any x y W hx (HW.out y (List.mem_of_getElem? hy))
      have hsn := belowL_snoc l x k y hy
      have hml := belowL_len l x k
      obtain ⟨m, hm⟩ : ∃ m, (belowL (l.take k) x).length = m := ⟨_, rfl⟩
      rw [hm] at hown hml
      cases ha : aheadB x y with
      | false =>
        rw [ha, Bool.and_false, if_neg (by simp), List.append_nil] at hsn
        rw [ha] at hA
        have HA := hid hA
        have HO := hid hown
        have HM := hid hm
        have HS := hid hsn
        clear hc hy hA hsn hown hm ha
        go_wp2_with (go_at_call 27; refine (HA.out _).mono ?_; rintro e w1 ⟨rfl, hb1⟩)
        go_roundg (gk - 1)
        case measure => have := HK.out; omega
        case rel => exact ⟨k + 1, by have := HK.out; omega, by go_num, by rw [HS.out, HM.out]; exact own_grow HO.out hb1, step hb hb1⟩
      | true =>
        rw [ha, Bool.and_true] at hsn
        rw [ha] at hA
        by_cases hyx : y = x
        · rw [if_neg (by simpa using hyx), List.append_nil] at hsn
          have hq : (((y : Nat) : Int) != ((x : Nat) : Int)) = false := by simp; omega
          have HA := hid hA
          have HO := hid hown
          have HM := hid hm
          have HS := hid hsn
          clear hc hy hA hsn hown hm ha hyx
          go_wp2_with (go_at_call 27; refine (HA.out _).mono ?_; rintro e w1 ⟨rfl, hb1⟩)
          go_roundg (gk - 1)
          case measure => have := HK.out; omega
          case rel => exact ⟨k + 1, by have := HK.out; omega, by go_num, by rw [HS.out, HM.out]; exact own_grow HO.out hb1, step hb hb1⟩
        · rw [if_pos (by simpa using hyx)] at hsn
          have hq : (((y : Nat) : Int) != ((x : Nat) : Int)) = true := by simp; omega
          have HA := hid hA
          have HO := hid hown
          have HM := hid hm
          have HS := hid hsn
          clear hc hy hA hsn hown hm hyx ha
          go_wp2_with fail
          refine (HA.out _).mono ?_
          rintro e w1 ⟨rfl, hb1⟩
          obtain ⟨w2, hw2, hb2, hs2, hl2⟩ := laid w1 #[.int .u64 ((y : Nat) : Int)] 25
          have HL2 := hid hl2
          have hb12 := step hb1 hb2
          have hs5 : w.heap.size ≤ w2.heap.size := by have := hb12.size; omega
          clear hl2 hs2
          go_wp2_with ((with_reducible show wpList _ _ _ _ _ _); refine wp_append1 elemWords rfl (.tmp 22) (.tmp 24) rfl w.heap.size u5 m _ rfl (own_grow HO.out hb12) w1.heap.size [.int .u64 ((y : Nat) : Int)] rfl rfl ?c1 ?c2 ?c3 ?c4 ?c5)
          case c1 =>
            intro j u hj
            exact cell_laid HL2.out (by simpa using hj)
          case c2 => intro u hu; simp at hu; subst hu; rfl
          case c3 => omega
          case c4 => exact hs5
          case c5 =>
            intro v' w5 hown' hb5 hs6
            have HO' : Hid (w5.ownsRow w.heap.size 25 1 v' (belowL (l.take (k + 1)) x).length (wcells (belowL (l.take (k + 1)) x))) := hid (by
              rw [HS.out, List.length_append, HM.out]
              unfold wcells at *
              rw [List.map_append]
              exact hown')
            clear hown'
            go_wp2
            go_roundg (gk - 1)
            case measure => have := HK.out; omega
            case rel => exact ⟨k + 1, by have := HK.out; omega, by go_num, HO'.out, (step hb hb12).trans hb5⟩
    · have e := HK.out
      obtain rfl : k = n := by omega
      rw [List.take_of_length_le (by rw [HL.out]; exact Nat.le_refl _)] at hown
      have HO := hid hown
      clear hown e
      go_wp2
      go_ret
      exact ⟨_, rfl, HO.out, hb⟩
end Go.Proofs.Ytdjckgcjdbdeiaa
