/- PathWays: the walk of the law. -/
import Derived.Test.YtdjckgcjdbdeiaaPathClone
import Derived.Test.YtdjckgcjdbdeiaaPathLongestWalk
namespace Go.Proofs.Ytdjckgcjdbdeiaa
open Go.RowKit
open Go.Proofs
set_option linter.unusedVariables false

theorem words_int (us : List Nat) : ∀ v ∈ wcells us, ∃ z : Int, v = .int .u64 z := by
  intro v hv
  unfold wcells at hv
  obtain ⟨u, _, rfl⟩ := List.mem_map.1 hv
  exact ⟨_, rfl⟩
theorem words_set {cs : List Value} (j : Nat) (z : Int) (h : ∀ v ∈ cs, ∃ z : Int, v = .int .u64 z) : ∀ v ∈ cs.set j (.int .u64 z), ∃ z : Int, v = .int .u64 z := by
  intro v hv
  rcases List.mem_or_eq_of_mem_set hv with h1 | rfl
  · exact h v h1
  · exact ⟨z, rfl⟩

set_option maxRecDepth 100000 in
set_option maxHeartbeats 2000000 in
theorem pathWays.walk (a0 : Option Addr) (cap0 : Nat) (xs0 : List Nat) (x y : Nat) (w : World) (h0 : Leads w a0 xs0.length cap0 (wcells xs0)) (ok0 : wok xs0) (hx : x < 18446744073709551616) (hy : y < 18446744073709551616) :
    Calls Try.prog 6 #[.slice a0 xs0.length cap0, .int .u64 (x : Nat), .int .u64 (y : Nat)] w (Ret (.bool true) w) := by
  obtain ⟨n0, en0⟩ : ∃ n, xs0.length = n := ⟨_, rfl⟩
  rw [en0] at h0 ⊢
  obtain ⟨n, hn⟩ : ∃ n : Nat, min (n0 : Int) 12 = (n : Int) := ⟨min n0 12, by omega⟩
  have hn12 : n ≤ 12 := by omega
  have hl0 := h0.len
  obtain ⟨hl1, hl2⟩ := hl0
  have hnc := h0.1
  have hnn : n ≤ n0 := by omega
  obtain ⟨l, hl⟩ : ∃ l, l = xs0.take n := ⟨_, rfl⟩
  have hll : l.length = n := by rw [hl, List.length_take, en0]; omega
  have hlk : wok l := fun f hf => ok0 f (List.mem_of_mem_take (hl ▸ hf))
  have H0 := hid (h0.wfront en0 hnn)
  rw [← hl] at H0
  have HLL := hid hll
  have HLK := hid hlk
  clear h0 en0 hl ok0 hll hlk
  have HC := hid fun W h => CloneW_any a0 n cap0 (wcells l) W h (by unfold wcells; rw [List.length_map, HLL.out, Nat.mul_one]) (by omega) (by intro u hu; obtain ⟨z, rfl⟩ := words_int l u hu; rfl)
  have HA := hid fun W => Ahead_any x y W hx hy
  have HRA := hid fun W => rAhead_any x y W hx hy
  have HBW := hid fun W a c h => Below_any l a n c x W hx HLL.out HLK.out (by omega) h
  have HRB := hid fun W a c h => rBelow_any l a n c x W hx HLL.out HLK.out (by omega) h
  have HRR := fun W => rRight_any x W hx
  generalize aheadB x y = A at *
  obtain ⟨bl, hbl⟩ : ∃ bl, belowL l x = bl := ⟨_, rfl⟩
  obtain ⟨nb, hnb⟩ : ∃ nb, bl.length = nb := ⟨_, rfl⟩
  rw [hbl] at HBW HRB
  have HNB := hid hnb
  clear hbl hnb
  cases hr : rd x with
  | none =>
    rw [hr] at HRR
    have HU := hid fun W => Up_none x W hx hr
    have hLong := fun W a c h => Longest_any l a n c x W hx HLL.out h
    rw [show longV l x = .tuple #[.int .u64 0, .int .i64 310] by unfold longV; rw [hr]] at hLong
    have HLG := hid hLong
    have HRG := hid HRR
    clear hLong HRR hr
    go_enter Try.func6, Try.ntmps6
    go_wp2_with fail
    refine (wakes_any _).mono ?_
    rintro e w1 ⟨rfl, hb1⟩
    go_wp2_with fail
    refine (HC.out _ (H0.out.grow hb1)).mono ?_
    rintro e w2 ⟨v, rfl, ho, hb2'⟩
    obtain ⟨a1, c1, rfl, hld⟩ := Leads.of_own ho
    have HL := hid hld
    have hb2 := step hb1 hb2'
    clear ho hld hb1 hb2'
    go_wp2_with fail
    refine (HU.out _).mono ?_
    rintro e w3 ⟨rfl, hb3⟩
    go_wp2_with fail
    refine (HLG.out _ _ _ (HL.out.grow hb3)).mono ?_
    rintro e w4 ⟨rfl, hb4⟩
    go_wp2_with fail
    refine (HRG.out _).mono ?_
    rintro e w5 ⟨rfl, hb5⟩
    go_wp2_with fail
    refine (EqU_any [] [] none none 0 0 0 0 _ rfl rfl ⟨Nat.le_refl _, Nat.zero_le _, .inl ⟨rfl, rfl⟩⟩ ⟨Nat.le_refl _, Nat.zero_le _, .inl ⟨rfl, rfl⟩⟩).mono ?_
    rw [decide_eq_true rfl]
    rintro e w6 ⟨rfl, hb6⟩
    have hb7 := step (step (step hb3 hb4) hb5) hb6
    clear hb3 hb4 hb5 hb6
    have hb67 := hb7
    clear hb7
    go_wp2_with fail
    refine (HA.out _).mono ?_
    rintro e w8 ⟨rfl, hb9⟩
    go_wp2_with fail
    refine (HRA.out _).mono ?_
    rintro e w9 ⟨rfl, hb10⟩
    go_wp2_with fail
    refine (HBW.out _ _ _ (HL.out.grow (step hb67 (step hb9 hb10)))).mono ?_
    rintro e w10 ⟨v, rfl, ho, hb11⟩
    rw [HNB.out] at ho
    obtain ⟨a10, c10, rfl, hld⟩ := Leads.of_own ho
    have HLB := hid hld
    clear ho hld
    go_wp2_with fail
    refine (HRB.out _ _ _ (HL.out.grow (step hb67 (step (step hb9 hb10) hb11)))).mono ?_
    rintro e w11 ⟨v, rfl, ho, hb12⟩
    rw [HNB.out] at ho
    obtain ⟨a11, c11, rfl, hld⟩ := Leads.of_own ho
    have HLB' := hid hld
    clear ho hld
    have HEB := hid (EqU_any bl bl a10 a11 nb nb c10 c11 w11 HNB.out HNB.out (HLB.out.grow hb12) HLB'.out)
    rw [decide_eq_true rfl] at HEB
    go_wp2_with fail
    refine HEB.out.mono ?_
    rintro e w13 ⟨rfl, hb13'⟩
    have hb713 := step (step (step (step hb9 hb10) hb11) hb12) hb13'
    have hb13 := step hb67 hb713
    clear hb9 hb10 hb11 hb12 hb13' hb67
    go_wp2
    refine wp_loop_rounds 1 ?_
    rw [rounds_succ]
    go_wp2_with fail
    refine (EqU_any l l _ _ n n _ _ _ HLL.out HLL.out (HL.out.grow hb13) (H0.out.grow (step hb2 hb13))).mono ?_
    rw [decide_eq_true rfl]
    rintro e w14 ⟨rfl, hb14⟩
    go_wp2
    go_ret
    exact ⟨rfl, step (step hb2 hb13) hb14⟩
  | some ps =>
    rw [hr] at HRR
    have HU := hid fun W => Up_some x ps W hx hr
    have HUL := hid (ups_len ps)
    have HRU := hid fun W => rUp_any x ps W hx hr
    obtain ⟨B, E, eL, -⟩ := long_ways l x ps hr
    have hLong := fun W a c h => Longest_any l a n c x W hx HLL.out h
    rw [eL] at hLong
    have hRL := fun W a c h => rLongest_any l a n c x ps W hx HLL.out HLK.out hr h
    rw [eL] at hRL
    have HLG := hid hLong
    have HRG := hid HRR
    have HRL := hid hRL
    have hlen := (rd_some hr).2.2.2.2.2.2
    obtain ⟨m, hm⟩ : ∃ m, ps.length = m := ⟨_, rfl⟩
    have HPM := hid hm
    rw [hm] at hlen
    clear eL hLong HRR hRL hm hr
    go_enter Try.func6, Try.ntmps6
    go_wp2_with fail
    refine (wakes_any _).mono ?_
    rintro e w1 ⟨rfl, hb1⟩
    go_wp2_with fail
    refine (HC.out _ (H0.out.grow hb1)).mono ?_
    rintro e w2 ⟨v, rfl, ho, hb2'⟩
    obtain ⟨a1, c1, rfl, hld⟩ := Leads.of_own ho
    have HL := hid hld
    have hb2 := step hb1 hb2'
    clear ho hld hb1 hb2'
    go_wp2_with fail
    refine (HU.out _).mono ?_
    rintro e w3 ⟨v, rfl, ho, hb3⟩
    rw [HUL.out, HPM.out] at ho
    obtain ⟨a2, c2, rfl, hld⟩ := Leads.of_own ho
    have HLU := hid hld
    have HO := hid ho
    clear ho hld
    go_wp2_with fail
    refine (HLG.out _ _ _ (HL.out.grow hb3)).mono ?_
    rintro e w4 ⟨rfl, hb4⟩
    go_wp2_with fail
    refine (HRG.out _).mono ?_
    rintro e w5 ⟨rfl, hb5⟩
    go_wp2_with fail
    refine (HRU.out _).mono ?_
    rintro e w5b ⟨v, rfl, ho, hb5b⟩
    rw [HUL.out, HPM.out] at ho
    obtain ⟨a3, c3, rfl, hld⟩ := Leads.of_own ho
    have HLW := hid hld
    clear ho hld
    go_wp2_with fail
    refine (HRL.out _ _ _ (HL.out.grow (step (step (step hb3 hb4) hb5) hb5b))).mono ?_
    rintro e w5c ⟨B', ok, rfl, hBE, hb5c⟩
    obtain ⟨rfl, rfl⟩ : B' = B ∧ E = (if ok then 0 else 4) := by
      simp only [Value.tuple.injEq, Array.mk.injEq, List.cons.injEq, Value.int.injEq, and_true, true_and] at hBE
      exact ⟨by omega, hBE.2⟩
    clear hBE
    have hb45 := step (step (step hb4 hb5) hb5b) hb5c
    have HE5 := hid (EqU_any (ups ps) (ups ps) a2 a3 (m + 1) (m + 1) c2 c3 w5c (by rw [HUL.out, HPM.out]) (by rw [HUL.out, HPM.out]) (HLU.out.grow hb45) (HLW.out.grow hb5c))
    rw [decide_eq_true rfl] at HE5
    clear hb4 hb5 hb5b hb5c
    cases ok
    all_goals
      go_wp2_with fail
      refine HE5.out.mono ?_
      rintro e w6 ⟨rfl, hb6⟩
      have hb7 := step hb3 (step hb45 hb6)
      have hb8 := step hb45 hb6
      clear hb6
      have hb67 := hb7
      clear hb7
      go_wp2_with fail
      refine (HA.out _).mono ?_
      rintro e w8 ⟨rfl, hb9⟩
      go_wp2_with fail
      refine (HRA.out _).mono ?_
      rintro e w9 ⟨rfl, hb10⟩
      go_wp2_with fail
      refine (HBW.out _ _ _ (HL.out.grow (step hb67 (step hb9 hb10)))).mono ?_
      rintro e w10 ⟨v, rfl, ho, hb11⟩
      rw [HNB.out] at ho
      obtain ⟨a10, c10, rfl, hld⟩ := Leads.of_own ho
      have HLB := hid hld
      clear ho hld
      go_wp2_with fail
      refine (HRB.out _ _ _ (HL.out.grow (step hb67 (step (step hb9 hb10) hb11)))).mono ?_
      rintro e w11 ⟨v, rfl, ho, hb12⟩
      rw [HNB.out] at ho
      obtain ⟨a11, c11, rfl, hld⟩ := Leads.of_own ho
      have HLB' := hid hld
      clear ho hld
      have HEB := hid (EqU_any bl bl a10 a11 nb nb c10 c11 w11 HNB.out HNB.out (HLB.out.grow hb12) HLB'.out)
      rw [decide_eq_true rfl] at HEB
      go_wp2_with fail
      refine HEB.out.mono ?_
      rintro e w13 ⟨rfl, hb13'⟩
      have hb713 := step (step (step (step hb9 hb10) hb11) hb12) hb13'
      have hb13 := step hb67 hb713
      clear hb9 hb10 hb11 hb12 hb13' hb67
      have HO13 := hid (own_grow HO.out (step hb8 hb713))
      clear hb713 hb8
      go_wp2
      go_loopg [17, 88] (m + 1) (fun g _ i wr => ∃ (j : Nat) (cs : List Value), g + j = m + 1 ∧ i = .int .i64 (j : Nat) ∧ wr.ownsRow w2.heap.size 25 1 (.slice a2 (m + 1) c2) (m + 1) cs ∧ Hid (∀ v ∈ cs, ∃ z : Int, v = .int .u64 z) ∧ Below w2.heap.size w2 wr)
      case atStart => exact ⟨0, _, rfl, rfl, HO13.out, words_int _, hb13⟩
      case round =>
        obtain ⟨j, cs, hj, rfl, hown, hcs, hb⟩ := hrel
        have HJ := hid hj
        clear hj
        by_cases hjm : j < m + 1
        · have hcl : cs.length = (m + 1) * 1 := hown.1
          rcases hown.2 with ⟨h, _⟩ | ⟨g0, cap, cur, e, hg, hh, -⟩
          · omega
          cases e
          have hcj := hown.cellAt j (by omega)
          rw [List.getElem?_eq_getElem (by omega)] at hcj
          have hfr := hown.frozenAt j
          have HST := hid fun z : Int => (hown.stored j (.int .u64 z)).1
          obtain ⟨z, hz⟩ := hcs.out _ (List.getElem_mem (by omega : j < cs.length))
          rw [hz] at hcj
          have HCS := hid fun z : Int => words_set j z hcs.out
          clear hcl hown hh hz hcs
          go_wp2
          go_roundg (gk - 1)
          case measure => have := HJ.out; omega
          case rel => exact ⟨j + 1, _, by have := HJ.out; omega, by go_num, HST.out _, hid (HCS.out _), hb.setCell (p := ⟨g0, j, none⟩) (by show w2.heap.size ≤ g0; omega) _⟩
        · clear HJ hown hcs
          go_wp2_with fail
          refine (EqU_any l l _ _ n n _ _ _ HLL.out HLL.out (HL.out.grow hb) (H0.out.grow (step hb2 hb))).mono ?_
          rw [decide_eq_true rfl]
          rintro e w14 ⟨rfl, hb14⟩
          go_wp2
          go_ret
          exact ⟨rfl, step (step hb2 hb) hb14⟩
end Go.Proofs.Ytdjckgcjdbdeiaa
