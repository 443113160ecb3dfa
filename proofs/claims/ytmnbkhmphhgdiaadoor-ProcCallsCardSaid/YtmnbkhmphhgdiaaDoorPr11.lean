/- Processes: the law's own, New, Contains (printed by gen_pr11.py). -/
import Derived.Test.YtmnbkhmphhgdiaaDoorPr10
import Derived.Test.YtmnbkhmphhgdiaaDoorPrEqU
namespace Go.Proofs.YtmnbkhmphhgdiaaDoor
open Go.RowKit Go.Shelf
open Go.Proofs
set_option linter.unusedVariables false
attribute [local go_sem] Oper.semAt_some
theorem Index_any (l : List Nat) (a : Option Addr) (n cap q : Nat) (V : World) (h : Leads V a n cap (wcells l)) (hn : l.length = n) :
    Calls Tryd.prog 51 #[.slice a n cap, .int .u64 ((q : Nat) : Int)] V (fun e W => (∃ i : Int, e = .returned (.int .i64 i) ∧ (-1 ≤ i ∧ i ≤ 9223372036854775807) ∧ decide (0 ≤ i) = decide (q ∈ l)) ∧ W = V) := by
  have hl := h.len
  have H := hid h
  have HN := hid hn
  clear h hn
  go_enter Tryd.func51, Tryd.ntmps51
  go_wp2
  go_loopg [8] n (fun g i wr => ∃ k : Nat, g + k = n ∧ i = .int .i64 (k : Nat) ∧ Hid (∀ x ∈ l.take k, x ≠ q) ∧ wr = V)
  case atStart => exact ⟨0, rfl, rfl, hid (by simp), rfl⟩
  case round =>
    obtain ⟨k, hk, rfl, hs, hwr⟩ := hrel
    subst hwr
    have HK := hid hk
    clear hk
    by_cases hlt : k < n
    · obtain ⟨x, hxk⟩ : ∃ x, l[k]? = some x := ⟨_, List.getElem?_eq_getElem (by rw [HN.out]; exact hlt)⟩
      obtain ⟨b, off, rfl, -, hc⟩ := H.out.at hlt (wcell_at hxk)
      have f1 := hc _ (Below.refl _ _)
      have HX := hid hxk
      clear hc hxk
      by_cases he : x = q
      · subst he
        have HE : Hid (decide (x ∈ l) = true) := hid (decide_eq_true (List.mem_of_getElem? HX.out))
        go_wp2
        go_ret
        exact ⟨⟨_, rfl, by omega, by rw [HE.out]; exact decide_eq_true (by omega)⟩, rfl⟩
      · have t0 : (((q : Nat) : Int) == ((x : Nat) : Int)) = false := by simp; omega
        have HTK : Hid (∀ y ∈ l.take (k + 1), y ≠ q) := hid (by
          rw [take_snoc HX.out]
          intro y hy
          rcases List.mem_append.1 hy with hy | hy
          · exact hs.out y hy
          · rw [List.mem_singleton] at hy; subst hy; exact he)
        clear he
        go_wp2
        go_roundg (gk - 1)
        case measure => have := HK.out; omega
        case rel => exact ⟨k + 1, by have := HK.out; omega, by go_num, HTK, rfl⟩
    · have e := HK.out
      obtain rfl : k = n := by omega
      have HE : Hid (decide (q ∈ l) = false) := hid (decide_eq_false fun hm => by
        have := hs.out
        rw [List.take_of_length_le (by rw [HN.out]; exact Nat.le_refl _)] at this
        exact this q hm rfl)
      clear hs e HK
      go_wp2
      go_ret
      exact ⟨⟨_, rfl, by decide, by rw [HE.out]; rfl⟩, rfl⟩
theorem Contains_any (l : List Nat) (a : Option Addr) (n cap q : Nat) (V : World) (h : Leads V a n cap (wcells l)) (hn : l.length = n) :
    Calls Tryd.prog 24 #[.slice a n cap, .int .u64 ((q : Nat) : Int)] V (fun e W => e = .returned (.bool (decide (q ∈ l))) ∧ W = V) := by
  have hl := h.len
  have HI := hid (Index_any l a n cap q V h hn)
  obtain ⟨B, hB⟩ : ∃ b, decide (q ∈ l) = b := ⟨_, rfl⟩
  rw [hB] at HI ⊢
  clear h hn hB
  go_enter Tryd.func24, Tryd.ntmps24
  go_wp2_with fail
  refine HI.out.mono ?_
  rintro e W ⟨⟨i, rfl, hi, ht⟩, hw⟩
  subst hw
  have t0 : decide ((0 : Int) ≤ i) = B := ht
  clear ht
  go_wp2
  go_ret
  exact ⟨rfl, rfl⟩
theorem Leads.ptake {w : World} {a : Option Addr} {n c m : Nat} {L : List Pr} (h : Leads w a n c (prcells L)) (hm : m ≤ n) : Leads w a m c (prcells (L.take m)) := by
  obtain ⟨h1, h2, ⟨h3, h4⟩ | ⟨b, off, h3, h4, h5⟩⟩ := h
  · have e : m = 0 := by omega
    subst e
    exact ⟨by omega, h2, .inl ⟨rfl, rfl⟩⟩
  · refine ⟨by omega, h2, .inr ⟨b, off, h3, h4, fun i v hv => h5 i v ?_⟩⟩
    rw [← prcells_take, List.getElem?_take] at hv
    split at hv
    · exact hv
    · cases hv
theorem own_result {W : World} {b2 : Nat} {v2_0 v2_1 v2_2 v2_3 v2_4 v2_5 v2_6 v2_7 v2_8 v2_9 v2_10 v2_11 v2_12 v2_13 v2_14 v2_15 v2_16 : Value} {tmps : Array Value} (h2 : W.heap[b2]? = some (.cells #[v2_0, v2_1, v2_2, v2_3, v2_4, v2_5, v2_6, v2_7, v2_8, v2_9, v2_10, v2_11, v2_12, v2_13, v2_14, v2_15, v2_16] 25 (0, 0))) (q2 : tmps[2]?.getD undef = .pointer (some ⟨b2, 0, none⟩)) :
    (results Tryd.f8 tmps).run Tryd.prog W = .ok (.agg #[v2_0, v2_1, v2_2, v2_3, v2_4, v2_5, v2_6, v2_7, v2_8, v2_9, v2_10, v2_11, v2_12, v2_13, v2_14, v2_15, v2_16]) W := by
  have e2_0 := cell_laid (i := 0) (v := v2_0) h2 rfl
  have e2_1 := cell_laid (i := 1) (v := v2_1) h2 rfl
  have e2_2 := cell_laid (i := 2) (v := v2_2) h2 rfl
  have e2_3 := cell_laid (i := 3) (v := v2_3) h2 rfl
  have e2_4 := cell_laid (i := 4) (v := v2_4) h2 rfl
  have e2_5 := cell_laid (i := 5) (v := v2_5) h2 rfl
  have e2_6 := cell_laid (i := 6) (v := v2_6) h2 rfl
  have e2_7 := cell_laid (i := 7) (v := v2_7) h2 rfl
  have e2_8 := cell_laid (i := 8) (v := v2_8) h2 rfl
  have e2_9 := cell_laid (i := 9) (v := v2_9) h2 rfl
  have e2_10 := cell_laid (i := 10) (v := v2_10) h2 rfl
  have e2_11 := cell_laid (i := 11) (v := v2_11) h2 rfl
  have e2_12 := cell_laid (i := 12) (v := v2_12) h2 rfl
  have e2_13 := cell_laid (i := 13) (v := v2_13) h2 rfl
  have e2_14 := cell_laid (i := 14) (v := v2_14) h2 rfl
  have e2_15 := cell_laid (i := 15) (v := v2_15) h2 rfl
  have e2_16 := cell_laid (i := 16) (v := v2_16) h2 rfl
  simp [results, Tryd.results8, go_sem, e2_0, e2_1, e2_2, e2_3, e2_4, e2_5, e2_6, e2_7, e2_8, e2_9, e2_10, e2_11, e2_12, e2_13, e2_14, e2_15, e2_16, q2]
theorem new_result {W : World} {b0 : Nat} {v0_0 v0_1 v0_2 v0_3 v0_4 v0_5 v0_6 v0_7 v0_8 v0_9 v0_10 v0_11 v0_12 v0_13 v0_14 v0_15 v0_16 : Value} {tmps : Array Value} (h0 : W.heap[b0]? = some (.cells #[v0_0, v0_1, v0_2, v0_3, v0_4, v0_5, v0_6, v0_7, v0_8, v0_9, v0_10, v0_11, v0_12, v0_13, v0_14, v0_15, v0_16] 25 (0, 0))) (q0 : tmps[0]?.getD undef = .pointer (some ⟨b0, 0, none⟩)) :
    (results Tryd.f25 tmps).run Tryd.prog W = .ok (.agg #[v0_0, v0_1, v0_2, v0_3, v0_4, v0_5, v0_6, v0_7, v0_8, v0_9, v0_10, v0_11, v0_12, v0_13, v0_14, v0_15, v0_16]) W := by
  have e0_0 := cell_laid (i := 0) (v := v0_0) h0 rfl
  have e0_1 := cell_laid (i := 1) (v := v0_1) h0 rfl
  have e0_2 := cell_laid (i := 2) (v := v0_2) h0 rfl
  have e0_3 := cell_laid (i := 3) (v := v0_3) h0 rfl
  have e0_4 := cell_laid (i := 4) (v := v0_4) h0 rfl
  have e0_5 := cell_laid (i := 5) (v := v0_5) h0 rfl
  have e0_6 := cell_laid (i := 6) (v := v0_6) h0 rfl
  have e0_7 := cell_laid (i := 7) (v := v0_7) h0 rfl
  have e0_8 := cell_laid (i := 8) (v := v0_8) h0 rfl
  have e0_9 := cell_laid (i := 9) (v := v0_9) h0 rfl
  have e0_10 := cell_laid (i := 10) (v := v0_10) h0 rfl
  have e0_11 := cell_laid (i := 11) (v := v0_11) h0 rfl
  have e0_12 := cell_laid (i := 12) (v := v0_12) h0 rfl
  have e0_13 := cell_laid (i := 13) (v := v0_13) h0 rfl
  have e0_14 := cell_laid (i := 14) (v := v0_14) h0 rfl
  have e0_15 := cell_laid (i := 15) (v := v0_15) h0 rfl
  have e0_16 := cell_laid (i := 16) (v := v0_16) h0 rfl
  simp [results, Tryd.results25, go_sem, e0_0, e0_1, e0_2, e0_3, e0_4, e0_5, e0_6, e0_7, e0_8, e0_9, e0_10, e0_11, e0_12, e0_13, e0_14, e0_15, e0_16, q0]
/-- Processes in memory of one's own. -/
def GivesPs (G : Nat → Int) (L : List Pr) (V : World) (e : Ending) (W : World) : Prop := ∃ a c, e = .returned (.agg #[.int .i64 (G 0), .int .i64 (G 1), .int .i64 (G 2), .int .i64 (G 3), .int .i64 (G 4), .int .i64 (G 5), .int .i64 (G 6), .int .i64 (G 7), .int .i64 (G 8), .int .i64 (G 9), .int .i64 (G 10), .int .i64 (G 11), .int .i64 (G 12), .int .i64 (G 13), .int .i64 (G 14), .int .i64 (G 15), .slice a L.length c]) ∧ W.ownsRow V.heap.size 45 4 (.slice a L.length c) L.length (prcells L) ∧ Below V.heap.size V W
set_option maxRecDepth 100000 in
set_option maxHeartbeats 4000000 in
theorem Own_any (n c : Nat) (a : Option Addr) (G : Nat → Int) (L : List Pr) (V : World) (hl : Leads V a n c (prcells L)) (hn : L.length = n) :
    Calls Tryd.prog 8 #[.agg #[.int .i64 (G 0), .int .i64 (G 1), .int .i64 (G 2), .int .i64 (G 3), .int .i64 (G 4), .int .i64 (G 5), .int .i64 (G 6), .int .i64 (G 7), .int .i64 (G 8), .int .i64 (G 9), .int .i64 (G 10), .int .i64 (G 11), .int .i64 (G 12), .int .i64 (G 13), .int .i64 (G 14), .int .i64 (G 15), .slice a n c]] V (GivesPs G (L.take 20) V) := by
  obtain ⟨V1, hV1, hbV1, hsV1, hlV1⟩ := laid V #[.int .i64 (G 0), .int .i64 (G 1), .int .i64 (G 2), .int .i64 (G 3), .int .i64 (G 4), .int .i64 (G 5), .int .i64 (G 6), .int .i64 (G 7), .int .i64 (G 8), .int .i64 (G 9), .int .i64 (G 10), .int .i64 (G 11), .int .i64 (G 12), .int .i64 (G 13), .int .i64 (G 14), .int .i64 (G 15), .slice a n c] 25
  obtain ⟨V2, hV2, hbV2, hsV2, hlV2⟩ := laid V1 #[.int .i64 0, .int .i64 0, .int .i64 0, .int .i64 0, .int .i64 0, .int .i64 0, .int .i64 0, .int .i64 0, .int .i64 0, .int .i64 0, .int .i64 0, .int .i64 0, .int .i64 0, .int .i64 0, .int .i64 0, .int .i64 0, .slice none 0 0] 25
  obtain ⟨X1, hX1⟩ : ∃ X, V.heap.size = X := ⟨_, rfl⟩
  rw [hX1] at hlV1
  obtain ⟨X2, hX2⟩ : ∃ X, V1.heap.size = X := ⟨_, rfl⟩
  rw [hX2] at hlV2
  have KX1 := hid (keep_laid hlV1 hbV2)
  have KX2 := hid hlV2
  have HB := hid (step hbV1 hbV2)
  have hVX1 : V.heap.size ≤ X1 := by omega
  have hVX2 : V.heap.size ≤ X2 := by omega
  have nX1X2 : X1 < X2 := by omega
  clear hbV1 hsV1 hlV1 hbV2 hsV2 hlV2
  obtain ⟨m, hm⟩ : ∃ m, m = min n 20 := ⟨_, rfl⟩
  have em : min ((n : Nat) : Int) 20 = ((m : Nat) : Int) := by omega
  have hmn : m ≤ n := by omega
  have hm20 : m ≤ 20 := by omega
  have htl : (L.take 20).length = m := by rw [List.length_take, hn, hm]; omega
  have htk : L.take m = L.take 20 := by
    rw [hm, ← hn]
    rcases Nat.le_total L.length 20 with h | h
    · rw [Nat.min_eq_left h, List.take_of_length_le (Nat.le_refl _), List.take_of_length_le h]
    · rw [Nat.min_eq_right h]
  have hlt := hl.ptake hmn
  rw [htk] at hlt
  have HTL := hid htl
  have hlen := hl.len
  have hnc : n ≤ c := hl.1
  have hmc : m ≤ c := by omega
  have HLT := hid hlt
  clear hl hlt htk htl hm
  go_enter Tryd.func8, Tryd.ntmps8
  have HCL := hid (ClonePr_any a m c (prcells (L.take 20)) V2 (HLT.out.grow HB.out) (by rw [prcells_len, HTL.out, Nat.mul_comm]) (by omega) (prcells_one _))
  have q16 := cell_laid (i := 16) KX1.out rfl
  go_wp2_with fail
  refine (HCL.out).mono ?_
  rintro e w1_92 ⟨v, rfl, hcl, hbn⟩
  clear HCL q16 hX1 hX2 hV1 hV2
  have hVw := HB.out.size
  have KX1_1 := hid (keep_laid KX1.out hbn)
  have KX2_2 := hid (keep_laid KX2.out hbn)
  have HB_3 := hid (HB.out.trans (hbn.mono HB.out.size))
  clear KX1 KX2 HB hbn
  have HROW := hid (own_base hcl hVw)
  obtain ⟨va, vc, rfl, hlv⟩ := Leads.of_own hcl
  have hvl := hlv.len
  clear hcl hlv
  have y16 := cell_laid (i := 16) KX1_1.out rfl
  have yf16 := free_laid (i := 16) KX1_1.out
  obtain ⟨u9, hu9, a1, a2, a3, a4⟩ := put17_16 KX1_1.out (.slice va m vc)
  have E9 := hid hu9
  have T1 := hid a1
  have T2 := hid (a2 X2 _ (by omega) KX2_2.out)
  have O9 := hid (own_keep HROW.out fun k o hk ho => a2 k o (fun e => own_neP HROW.out KX1_1.out (by decide) (by rw [← e]; exact hk)) ho)
  have B9 := hid (a3 _ _ (by omega) HB_3.out)
  clear hu9 a1 a2 a3 a4 HROW KX1_1 KX2_2
  go_upto_region 2 with (fail)
  rw [← E9.out]
  clear y16 yf16
  go_wp2_with (first | (refine wp_loadW rfl 25 (.tmp 1) rfl X1 _ rfl _ T1.out _ Tryd.underlying25 rfl (by kernel_rfl) ?_; intro v hv; subst hv) | (refine wp_storeW rfl 25 (.tmp 2) (.tmp 12) rfl X2 _ _ rfl rfl _ T2.out (by kernel_rfl) (by rfl) (by simp [Value.oneCell']) ?_; intro u10 a1 a2 a3 a4; have HA1 := hid a1; have O10 := hid (own_keep O9.out fun k o hk ho => a2 k o (fun e => own_neP O9.out T2.out (by decide) (by rw [← e]; exact hk)) ho); have B10 := hid (a3 _ _ (by omega) B9.out); clear a1 a2 a3 a4))
  refine bodyPost_ret (own_result HA1.out rfl) rfl ⟨va, vc, ?_, ?_, B10.out⟩
  · rw [HTL.out]
  · rw [HTL.out]; exact O10.out
abbrev newG : Nat → Int := fun i => if i = 0 then 1 else 0
set_option maxRecDepth 100000 in
set_option maxHeartbeats 4000000 in
theorem New_any (V : World) (hg : Glob V) : Calls Tryd.prog 25 #[] V (GivesPs newG [firstP] V) := by
  obtain ⟨V1, hV1, hbV1, hsV1, hlV1⟩ := laid V #[.int .i64 0, .int .i64 0, .int .i64 0, .int .i64 0, .int .i64 0, .int .i64 0, .int .i64 0, .int .i64 0, .int .i64 0, .int .i64 0, .int .i64 0, .int .i64 0, .int .i64 0, .int .i64 0, .int .i64 0, .int .i64 0, .slice none 0 0] 25
  obtain ⟨V2, hV2, hbV2, hsV2, hlV2⟩ := laid V1 #[.int .u64 1, .int .u64 0, .bool false, .int .u64 0] 45
  obtain ⟨V3, hV3, hbV3, hsV3, hlV3⟩ := laid V2 #[.int .i64 0, .int .i64 0, .int .i64 0, .int .i64 0, .int .i64 0, .int .i64 0, .int .i64 0, .int .i64 0, .int .i64 0, .int .i64 0, .int .i64 0, .int .i64 0, .int .i64 0, .int .i64 0, .int .i64 0, .int .i64 0, .slice none 0 0] 25
  obtain ⟨X0, hX0⟩ : ∃ X, V.heap.size = X := ⟨_, rfl⟩
  rw [hX0] at hlV1
  obtain ⟨Y, hY⟩ : ∃ X, V1.heap.size = X := ⟨_, rfl⟩
  rw [hY] at hlV2
  obtain ⟨X1, hX1⟩ : ∃ X, V2.heap.size = X := ⟨_, rfl⟩
  rw [hX1] at hlV3
  have KX0 := hid (keep_laid (keep_laid hlV1 hbV2) hbV3)
  have KY := hid (keep_laid hlV2 hbV3)
  have KX1 := hid hlV3
  have HB := hid (step (step hbV1 hbV2) hbV3)
  have hVX0 : V.heap.size ≤ X0 := by omega
  have hVY : V.heap.size ≤ Y := by omega
  have nX0Y : X0 < Y := by omega
  have hVX1 : V.heap.size ≤ X1 := by omega
  have nX0X1 : X0 < X1 := by omega
  have nYX1 : Y < X1 := by omega
  clear hbV1 hsV1 hlV1 hbV2 hsV2 hlV2 hbV3 hsV3 hlV3
  have c0 := (hg.grow ((Below.refl V.heap.size V).alloc (Nat.le_refl _) (.cells #[.int .i64 0, .int .i64 0, .int .i64 0, .int .i64 0, .int .i64 0, .int .i64 0, .int .i64 0, .int .i64 0, .int .i64 0, .int .i64 0, .int .i64 0, .int .i64 0, .int .i64 0, .int .i64 0, .int .i64 0, .int .i64 0, .slice none 0 0] 25))).c0
  have c1 := (hg.grow ((Below.refl V.heap.size V).alloc (Nat.le_refl _) (.cells #[.int .i64 0, .int .i64 0, .int .i64 0, .int .i64 0, .int .i64 0, .int .i64 0, .int .i64 0, .int .i64 0, .int .i64 0, .int .i64 0, .int .i64 0, .int .i64 0, .int .i64 0, .int .i64 0, .int .i64 0, .int .i64 0, .slice none 0 0] 25))).c1
  have c2 := (hg.grow ((Below.refl V.heap.size V).alloc (Nat.le_refl _) (.cells #[.int .i64 0, .int .i64 0, .int .i64 0, .int .i64 0, .int .i64 0, .int .i64 0, .int .i64 0, .int .i64 0, .int .i64 0, .int .i64 0, .int .i64 0, .int .i64 0, .int .i64 0, .int .i64 0, .int .i64 0, .int .i64 0, .slice none 0 0] 25))).c2
  have c3 := (hg.grow ((Below.refl V.heap.size V).alloc (Nat.le_refl _) (.cells #[.int .i64 0, .int .i64 0, .int .i64 0, .int .i64 0, .int .i64 0, .int .i64 0, .int .i64 0, .int .i64 0, .int .i64 0, .int .i64 0, .int .i64 0, .int .i64 0, .int .i64 0, .int .i64 0, .int .i64 0, .int .i64 0, .slice none 0 0] 25))).c3
  rw [hV1] at c0 c1 c2 c3
  have HO : Hid (V3.ownsRow V.heap.size 45 4 (.slice (some ⟨Y, 0, none⟩) 1 1) 1 (prcells [firstP])) := hid ⟨rfl, .inr ⟨Y, 1, #[.int .u64 1, .int .u64 0, .bool false, .int .u64 0], rfl, hVY, KY.out, Nat.le_refl _, by unfold maxLen; omega, rfl, rfl⟩⟩
  clear KY
  go_enter Tryd.func25, Tryd.ntmps25
  go_upto_region 1 with (fail)
  go_upto_region 2 with (refine wp_storeW rfl 25 (.tmp 1) (.tmp 4) rfl X1 _ _ rfl rfl _ KX1.out (by kernel_rfl) (by rfl) (by simp [Value.oneCell']) ?_; intro u4 a1 a2 a3 a4; have HA1 := hid a1; have HA2 := hid a2; have HA3 := hid a3; clear a1 a2 a3 a4)
  have K0 := hid (HA2.out X0 _ (by omega) KX0.out)
  have O4 := hid (own_keep HO.out fun k o hk ho => HA2.out k o (fun e => own_neP HO.out KX1.out (by decide) (by rw [← e]; exact hk)) ho)
  have B4 := hid (HA3.out _ _ (by omega) HB.out)
  clear HA2 HA3 KX0 HO HB KX1 c0 c1 c2 c3
  have y0 := cell_laid (i := 0) HA1.out rfl
  have yf0 := free_laid (i := 0) HA1.out
  have K1 : Hid ((u4.setCell ⟨X1, 0, none⟩ (.int .i64 1)).heap[X1]? = some (.cells #[.int .i64 1, .int .i64 0, .int .i64 0, .int .i64 0, .int .i64 0, .int .i64 0, .int .i64 0, .int .i64 0, .int .i64 0, .int .i64 0, .int .i64 0, .int .i64 0, .int .i64 0, .int .i64 0, .int .i64 0, .int .i64 0, .slice (some ⟨Y, 0, none⟩) 1 1] 25 (0, 0))) := hid (set_laid (i := 0) HA1.out (.int .i64 1))
  have K0b := hid (other_laid K0.out (show X0 ≠ X1 by omega) (.int .i64 1) (i := 0))
  have O5 := hid (own_keep O4.out fun k o hk ho => other_laid ho (show k ≠ X1 from fun e => own_neP O4.out HA1.out (by decide) (by rw [← e]; exact hk)) (.int .i64 1) (i := 0))
  have B5 := hid (B4.out.setCell (p := ⟨X1, 0, none⟩) (by show V.heap.size ≤ X1; omega) (.int .i64 1))
  go_upto_region 3 with (fail)
  obtain ⟨u5, hu5⟩ : ∃ u, u4.setCell ⟨X1, 0, none⟩ (.int .i64 1) = u := ⟨_, rfl⟩
  rw [hu5] at K1 K0b O5 B5 ⊢
  clear y0 yf0 hu5 K0 O4 B4 HA1
  go_wp2_with (first | (refine wp_loadW rfl 25 (.tmp 1) rfl X1 _ rfl _ K1.out _ Tryd.underlying25 rfl (by kernel_rfl) ?_; intro v hv; subst hv) | (refine wp_storeW rfl 25 (.tmp 0) (.tmp 7) rfl X0 _ _ rfl rfl _ K0b.out (by kernel_rfl) (by rfl) (by simp [Value.oneCell']) ?_; intro u10 a1 a2 a3 a4; have HA1 := hid a1; have O10 := hid (own_keep O5.out fun k o hk ho => a2 k o (fun e => own_neP O5.out K0b.out (by decide) (by rw [← e]; exact hk)) ho); have B10 := hid (a3 _ _ (by omega) B5.out); clear a1 a2 a3 a4))
  exact bodyPost_ret (new_result HA1.out rfl) rfl ⟨_, 1, rfl, O10.out, B10.out⟩
end Go.Proofs.YtmnbkhmphhgdiaaDoor
