/- ScriptOf: its walk: the call returns true and writes on nothing that was there. -/
import Derived.Test.YtpehnahmdfoobaaDoorScript22
import Derived.Test.YtpehnahmdfoobaaDoorRegion4
import Derived.Test.YtpehnahmdfoobaaDoorScriptRef2
import Derived.Test.YtpehnahmdfoobaaDoorScriptRef3
namespace Go.Proofs.YtpehnahmdfoobaaDoor.scriptOf
open Go.RowKit
open Go.Proofs
set_option linter.unusedVariables false

set_option maxRecDepth 100000 in
set_option maxHeartbeats 40000000 in
theorem walk (S : Scr) (la : Option Addr) (lc : Nat) (us : List Value) (pa : Option Addr) (pc : Nat) (T : Scr) (lb : Option Addr) (ld : Nat) (vs : List Value) (pb : Option Addr) (pd : Nat) (l : List Int) (a : Option Addr) (n cap : Nat) (w : World)
    (h : ScrL w la lc us pa pc S) (hS : S.Ok) (h' : ScrL w lb ld vs pb pd T) (hT : T.Ok) (hl : l.length = n) (hw : Leads w a n cap (icells l)) (hk : iok l) (hG : Glob w) :
    Calls Tryd.prog 7 #[scrV la lc pa pc S, scrV lb ld pb pd T, .slice a n cap] w (Ret (.bool true) w) := by
  obtain ⟨w1, hw1, hb1, hs1, hl1⟩ := laid w #[.int .i64 S.C, .int .i64 S.P, .slice la S.ls.length lc, .slice pa S.ps.length pc] 35
  obtain ⟨w2, hw2, hb2, hs2, hl2⟩ := laid w1 #[.int .i64 T.C, .int .i64 T.P, .slice lb T.ls.length ld, .slice pb T.ps.length pd] 35
  obtain ⟨X, hX⟩ : ∃ X, w.heap.size = X := ⟨_, rfl⟩
  obtain ⟨Y, hY⟩ : ∃ Y, w1.heap.size = Y := ⟨_, rfl⟩
  rw [hX] at hl1
  rw [hY] at hl2
  have HX2 := hid (keep_laid hl1 hb2)
  have HY2 := hid hl2
  have HB2 := hid (step hb1 hb2)
  have HW := hid fun V (hV : Below w.heap.size w V) => wakes_any V (hG.grow hV)
  have HOX := hid fun V (hV : Below w.heap.size w V) => own_T S la pa lc pc us V hS (h.grow hV)
  have HOY := hid fun V (hV : Below w.heap.size w V) => own_T T lb pb ld pd vs V hT (h'.grow hV)
  have HG := hid fun V (hV : Below w.heap.size w V) => hG.grow hV
  obtain ⟨A, hA⟩ : ∃ A, ownS S = A := ⟨_, rfl⟩
  obtain ⟨B, hB⟩ : ∃ B, ownS T = B := ⟨_, rfl⟩
  have HAok : Hid A.Ok := hid (by rw [← hA]; exact ownS_ok hS)
  have HBok : Hid B.Ok := hid (by rw [← hB]; exact ownS_ok hT)
  have HAf := hid (ownS_few S)
  rw [hA] at HOX HAf
  rw [hB] at HOY
  obtain ⟨m, hm⟩ : ∃ m, min n 1000 = m := ⟨_, rfl⟩
  have hmI : min (((n : Nat) : Int)) 1000 = ((m : Nat) : Int) := by omega
  have hmn : m ≤ n := by omega
  have hm1 : m ≤ 1000 := by omega
  have hmc : m ≤ cap := Nat.le_trans hmn hw.1
  have hml := hw.len
  have hmlen : (l.take m).length = m := by rw [List.length_take]; omega
  have HL := hid (hw.itake hl hmn)
  obtain ⟨q, hq⟩ : ∃ q, l.take m = q := ⟨_, rfl⟩
  have HQK : Hid (∀ z ∈ q, -9223372036854775808 ≤ z ∧ z ≤ 9223372036854775807) := hid (by rw [← hq]; exact fun z hz => hk z (List.mem_of_mem_take hz))
  rw [hq] at HL hmlen
  have HQ := hid hmlen
  clear h hS h' hT hl hw hk hG hm hq hmlen hs1 hs2 hb1 hb2 hl1 hl2 hA hB
  unfold scrV at HOX HOY ⊢
  go_enter Tryd.func7, Tryd.ntmps7
  go_wp2_with fail
  refine (HW.out _ HB2.out).mono ?_
  rintro e w3 ⟨rfl, hb3⟩
  have HX3 := hid (keep_laid HX2.out hb3)
  have HY3 := hid (keep_laid HY2.out hb3)
  have HB3 := hid (step HB2.out hb3)
  have p0 : ∀ z : Ext w3, z.v.cell? ⟨X, 0, none⟩ = some (.int .i64 S.C) := fun z => (cells4 (keep_laid HX3.out z.b)).1
  have p1 : ∀ z : Ext w3, z.v.cell? ⟨X, 1, none⟩ = some (.int .i64 S.P) := fun z => (cells4 (keep_laid HX3.out z.b)).2.1
  have p2 : ∀ z : Ext w3, z.v.cell? ⟨X, 2, none⟩ = some (.slice la S.ls.length lc) := fun z => (cells4 (keep_laid HX3.out z.b)).2.2.1
  have p3 : ∀ z : Ext w3, z.v.cell? ⟨X, 3, none⟩ = some (.slice pa S.ps.length pc) := fun z => (cells4 (keep_laid HX3.out z.b)).2.2.2
  have q0 : ∀ z : Ext w3, z.v.cell? ⟨Y, 0, none⟩ = some (.int .i64 T.C) := fun z => (cells4 (keep_laid HY3.out z.b)).1
  have q1 : ∀ z : Ext w3, z.v.cell? ⟨Y, 1, none⟩ = some (.int .i64 T.P) := fun z => (cells4 (keep_laid HY3.out z.b)).2.1
  have q2 : ∀ z : Ext w3, z.v.cell? ⟨Y, 2, none⟩ = some (.slice lb T.ls.length ld) := fun z => (cells4 (keep_laid HY3.out z.b)).2.2.1
  have q3 : ∀ z : Ext w3, z.v.cell? ⟨Y, 3, none⟩ = some (.slice pb T.ps.length pd) := fun z => (cells4 (keep_laid HY3.out z.b)).2.2.2
  clear hb3
  go_upto_region 3 with (fail)
  go_cut [7, 8] (fun t7 t8 V => ∃ (Y7 Y8 : Nat) (lA : Option Addr) (cA : Nat) (pA : Option Addr) (dA : Nat) (uA : List Value) (lB : Option Addr) (cB : Nat) (pB : Option Addr) (dB : Nat) (uB : List Value), t7 = .pointer (some ⟨Y7, 0, none⟩) ∧ t8 = .pointer (some ⟨Y8, 0, none⟩) ∧
    V.heap[Y7]? = some (.cells #[.int .i64 A.C, .int .i64 A.P, .slice lA A.ls.length cA, .slice pA A.ps.length dA] 35 (0, 0)) ∧ V.heap[Y8]? = some (.cells #[.int .i64 B.C, .int .i64 B.P, .slice lB B.ls.length cB, .slice pB B.ps.length dB] 35 (0, 0)) ∧
    ScrL V lA cA uA pA dA A ∧ ScrL V lB cB uB pB dB B ∧ Below w3.heap.size w3 V)
  case first =>
    refine wp_region_mix3 (fun V => ∃ z : Ext w3, V = z.v) 7 (.q 0 (.q 2 (.h3 1 (.h3 3 (.h2 4 (.h 5 (.h 6 (.done))) 5 (.h 4 (.h 6 (.done)))) 4 (.h2 3 (.h 5 (.h 6 (.done))) 5 (.h 3 (.h 6 (.done)))) 5 (.h2 3 (.h 4 (.h 6 (.done))) 4 (.h 3 (.h 6 (.done))))) 4 (.h2 1 (.h2 3 (.h 5 (.h 6 (.done))) 5 (.h 3 (.h 6 (.done)))) 5 (.h 1 (.h 3 (.h 6 (.done))))) 5 (.h2 1 (.h2 3 (.h 4 (.h 6 (.done))) 4 (.h 3 (.h 6 (.done)))) 4 (.h 1 (.h 3 (.h 6 (.done)))))))) (by kernel_rfl) (by kernel_rfl) ⟨⟨_, (Below.refl _ _).drew⟩, rfl⟩ ?_
    repeat (refine wpMix3_q rfl rfl ?_; go_big_quiet_step (fail); refine wpQuiet_nil ?_)
    obtain ⟨wD, hwD⟩ : ∃ wD, w3.drew = wD := ⟨_, rfl⟩
    have HBD : Hid (Below w3.heap.size w3 wD) := hid (by rw [← hwD]; exact (Below.refl _ _).drew)
    rw [hwD]
    clear hwD p0 p1 p2 p3 q0 q1 q2 q3
    refine wpMix3_h3 ?_ ?_ ?_
    · refine wpMix3_h rfl fun R' hR' hO => ?_
      go_wp2_with fail
      refine (HOX.out _ (step HB3.out HBD.out)).mono ?_
      rintro e w1_ ⟨bA, lA, cA, pA, dA, uA, rfl, hOA, hb1⟩
      have HT1 := hid hOA
      have HBW1 := hid (step HBD.out hb1)
      clear hOA hb1
      go_wp2
      refine hR' _ _ ⟨⟨_, HBW1.out⟩, rfl⟩ ?_
      clear hR' hO R'
      refine wpMix3_h3 ?_ ?_ ?_
      · refine wpMix3_h rfl fun R' hR' hO => ?_
        go_wp2_with fail
        refine (HOY.out _ (step HB3.out HBW1.out)).mono ?_
        rintro e w2_ ⟨bB, lB, cB, pB, dB, uB, rfl, hOB, hb2⟩
        have HT2 := hid hOB
        have HK2A := hid (HT1.out.grow hb2)
        have HBW2 := hid (step HBW1.out hb2)
        clear hOB hb2
        go_wp2
        refine hR' _ _ ⟨⟨_, HBW2.out⟩, rfl⟩ ?_
        clear hR' hO R'
        refine wpMix3_h2 ?_ ?_
        · refine wpMix3_h rfl fun R' hR' hO => ?_
          obtain ⟨w3_, hw3, hb3, hs3, hl3⟩ := laid w2_ #[.int .i64 0, .int .i64 0, .slice none 0 0, .slice none 0 0] 35
          obtain ⟨Y7, hy3⟩ : ∃ Y7, w2_.heap.size = Y7 := ⟨_, rfl⟩
          have HY7 : Hid (w3.heap.size ≤ Y7) := hid (by rw [← hy3]; exact HBW2.out.size)
          rw [hy3] at hl3 hs3
          have HZ3 := hid hl3
          have HK3A := hid (HK2A.out.grow hb3)
          have HK3B := hid (HT2.out.grow hb3)
          have HBW3 := hid (step HBW2.out hb3)
          clear hb3 hl3 hs3
          go_wp2
          refine hR' _ _ ⟨⟨_, HBW3.out⟩, rfl⟩ ?_
          clear hR' hO R'
          clear hy3 hw3
          refine wpMix3_h rfl fun R' hR' hO => ?_
          obtain ⟨w4_, hw4, hb4, hs4, hl4⟩ := laid w3_ #[.int .i64 0, .int .i64 0, .slice none 0 0, .slice none 0 0] 35
          obtain ⟨Y8, hy4⟩ : ∃ Y8, w3_.heap.size = Y8 := ⟨_, rfl⟩
          have HY8 : Hid (w3.heap.size ≤ Y8) := hid (by rw [← hy4]; exact HBW3.out.size)
          rw [hy4] at hl4 hs4
          have HZ4 := hid hl4
          have hlt4 := lt_laid HZ3.out
          rw [hy4] at hlt4
          have HNE : Hid (Y7 ≠ Y8) := hid (by omega)
          have HK4A := hid (HK3A.out.grow hb4)
          have HK4B := hid (HK3B.out.grow hb4)
          have HK4Z7 := hid (keep_laid HZ3.out hb4)
          have HBW4 := hid (step HBW3.out hb4)
          clear hb4 hl4 hs4 hlt4
          go_wp2
          refine hR' _ _ ⟨⟨_, HBW4.out⟩, rfl⟩ ?_
          clear hR' hO R'
          clear hy4 hw4
          refine wpMix3_h rfl fun R' hR' hO => ?_
          obtain ⟨w6, hw6, h67, hk6, hb6, ht6⟩ := put_zero HK4Z7.out (.int .i64 A.C) (.int .i64 A.P) (.slice lA A.ls.length cA) (.slice pA A.ps.length dA)
          have f0 := free_laid (i := 0) HK4Z7.out
          have f1 := free_laid (i := 1) HK4Z7.out
          have f2 := free_laid (i := 2) HK4Z7.out
          have f3 := free_laid (i := 3) HK4Z7.out
          have c0 := cell_laid (i := 0) HK4Z7.out rfl
          have c1 := cell_laid (i := 1) HK4Z7.out rfl
          have c2 := cell_laid (i := 2) HK4Z7.out rfl
          have c3 := cell_laid (i := 3) HK4Z7.out rfl
          have H68 := hid (hk6 Y8 _ HNE.out.symm HZ4.out)
          have HB6 := hid (hb6 _ _ HY7.out HBW4.out)
          have HA6 := hid (ht6 _ _ _ _ _ _ HK4A.out)
          have HB6t := hid (ht6 _ _ _ _ _ _ HK4B.out)
          have H67 := hid h67
          go_wp2
          refine hR' _ _ ⟨⟨w6, HB6.out⟩, hw6.symm⟩ ?_
          clear hR' hO R'
          rw [← hw6]
          clear hw6 h67 hk6 hb6 ht6 f0 f1 f2 f3 c0 c1 c2 c3
          refine wpMix3_done ?_
          simp only [List.drop_succ_cons, List.drop_zero]
          obtain ⟨w7, hw7, h78, hk7, hb7, ht7⟩ := put_zero H68.out (.int .i64 B.C) (.int .i64 B.P) (.slice lB B.ls.length cB) (.slice pB B.ps.length dB)
          have f0 := free_laid (i := 0) H68.out
          have f1 := free_laid (i := 1) H68.out
          have f2 := free_laid (i := 2) H68.out
          have f3 := free_laid (i := 3) H68.out
          have c0 := cell_laid (i := 0) H68.out rfl
          have c1 := cell_laid (i := 1) H68.out rfl
          have c2 := cell_laid (i := 2) H68.out rfl
          have c3 := cell_laid (i := 3) H68.out rfl
          have HF := hid (show w7.heap[Y7]? = _ ∧ w7.heap[Y8]? = _ ∧ ScrL w7 lA cA uA pA dA A ∧ ScrL w7 lB cB uB pB dB B ∧ Below w3.heap.size w3 w7 from ⟨hk7 Y7 _ HNE.out H67.out, h78, (ht7 _ _ _ _ _ _ HA6.out).scrL, (ht7 _ _ _ _ _ _ HB6t.out).scrL, hb7 _ _ HY8.out HB6.out⟩)
          have HW7 := hid hw7
          clear hw7 h78 hk7 hb7 ht7
          go_wp2
          go_meet
          rw [← HW7.out]
          exact ⟨Y7, Y8, lA, cA, pA, dA, uA, lB, cB, pB, dB, uB, rfl, rfl, HF.out.1, HF.out.2.1, HF.out.2.2.1, HF.out.2.2.2.1, HF.out.2.2.2.2⟩
        · refine wpMix3_h rfl fun R' hR' hO => ?_
          obtain ⟨w5_, hw5, hb5, hs5, hl5⟩ := laid w2_ #[.int .i64 0, .int .i64 0, .slice none 0 0, .slice none 0 0] 35
          obtain ⟨Y8, hy5⟩ : ∃ Y8, w2_.heap.size = Y8 := ⟨_, rfl⟩
          have HY8 : Hid (w3.heap.size ≤ Y8) := hid (by rw [← hy5]; exact HBW2.out.size)
          rw [hy5] at hl5 hs5
          have HZ5 := hid hl5
          have HK5A := hid (HK2A.out.grow hb5)
          have HK5B := hid (HT2.out.grow hb5)
          have HBW5 := hid (step HBW2.out hb5)
          clear hb5 hl5 hs5
          go_wp2
          refine hR' _ _ ⟨⟨_, HBW5.out⟩, rfl⟩ ?_
          clear hR' hO R'
          clear hy5 hw5
          refine wpMix3_h rfl fun R' hR' hO => ?_
          obtain ⟨w6_, hw6, hb6, hs6, hl6⟩ := laid w5_ #[.int .i64 0, .int .i64 0, .slice none 0 0, .slice none 0 0] 35
          obtain ⟨Y7, hy6⟩ : ∃ Y7, w5_.heap.size = Y7 := ⟨_, rfl⟩
          have HY7 : Hid (w3.heap.size ≤ Y7) := hid (by rw [← hy6]; exact HBW5.out.size)
          rw [hy6] at hl6 hs6
          have HZ6 := hid hl6
          have hlt6 := lt_laid HZ5.out
          rw [hy6] at hlt6
          have HNE : Hid (Y7 ≠ Y8) := hid (by omega)
          have HK6A := hid (HK5A.out.grow hb6)
          have HK6B := hid (HK5B.out.grow hb6)
          have HK6Z8 := hid (keep_laid HZ5.out hb6)
          have HBW6 := hid (step HBW5.out hb6)
          clear hb6 hl6 hs6 hlt6
          go_wp2
          refine hR' _ _ ⟨⟨_, HBW6.out⟩, rfl⟩ ?_
          clear hR' hO R'
          clear hy6 hw6
          refine wpMix3_h rfl fun R' hR' hO => ?_
          obtain ⟨w6, hw6, h67, hk6, hb6, ht6⟩ := put_zero HZ6.out (.int .i64 A.C) (.int .i64 A.P) (.slice lA A.ls.length cA) (.slice pA A.ps.length dA)
          have f0 := free_laid (i := 0) HZ6.out
          have f1 := free_laid (i := 1) HZ6.out
          have f2 := free_laid (i := 2) HZ6.out
          have f3 := free_laid (i := 3) HZ6.out
          have c0 := cell_laid (i := 0) HZ6.out rfl
          have c1 := cell_laid (i := 1) HZ6.out rfl
          have c2 := cell_laid (i := 2) HZ6.out rfl
          have c3 := cell_laid (i := 3) HZ6.out rfl
          have H68 := hid (hk6 Y8 _ HNE.out.symm HK6Z8.out)
          have HB6 := hid (hb6 _ _ HY7.out HBW6.out)
          have HA6 := hid (ht6 _ _ _ _ _ _ HK6A.out)
          have HB6t := hid (ht6 _ _ _ _ _ _ HK6B.out)
          have H67 := hid h67
          go_wp2
          refine hR' _ _ ⟨⟨w6, HB6.out⟩, hw6.symm⟩ ?_
          clear hR' hO R'
          rw [← hw6]
          clear hw6 h67 hk6 hb6 ht6 f0 f1 f2 f3 c0 c1 c2 c3
          refine wpMix3_done ?_
          simp only [List.drop_succ_cons, List.drop_zero]
          obtain ⟨w7, hw7, h78, hk7, hb7, ht7⟩ := put_zero H68.out (.int .i64 B.C) (.int .i64 B.P) (.slice lB B.ls.length cB) (.slice pB B.ps.length dB)
          have f0 := free_laid (i := 0) H68.out
          have f1 := free_laid (i := 1) H68.out
          have f2 := free_laid (i := 2) H68.out
          have f3 := free_laid (i := 3) H68.out
          have c0 := cell_laid (i := 0) H68.out rfl
          have c1 := cell_laid (i := 1) H68.out rfl
          have c2 := cell_laid (i := 2) H68.out rfl
          have c3 := cell_laid (i := 3) H68.out rfl
          have HF := hid (show w7.heap[Y7]? = _ ∧ w7.heap[Y8]? = _ ∧ ScrL w7 lA cA uA pA dA A ∧ ScrL w7 lB cB uB pB dB B ∧ Below w3.heap.size w3 w7 from ⟨hk7 Y7 _ HNE.out H67.out, h78, (ht7 _ _ _ _ _ _ HA6.out).scrL, (ht7 _ _ _ _ _ _ HB6t.out).scrL, hb7 _ _ HY8.out HB6.out⟩)
          have HW7 := hid hw7
          clear hw7 h78 hk7 hb7 ht7
          go_wp2
          go_meet
          rw [← HW7.out]
          exact ⟨Y7, Y8, lA, cA, pA, dA, uA, lB, cB, pB, dB, uB, rfl, rfl, HF.out.1, HF.out.2.1, HF.out.2.2.1, HF.out.2.2.2.1, HF.out.2.2.2.2⟩
      · refine wpMix3_h rfl fun R' hR' hO => ?_
        obtain ⟨w7_, hw7, hb7, hs7, hl7⟩ := laid w1_ #[.int .i64 0, .int .i64 0, .slice none 0 0, .slice none 0 0] 35
        obtain ⟨Y7, hy7⟩ : ∃ Y7, w1_.heap.size = Y7 := ⟨_, rfl⟩
        have HY7 : Hid (w3.heap.size ≤ Y7) := hid (by rw [← hy7]; exact HBW1.out.size)
        rw [hy7] at hl7 hs7
        have HZ7 := hid hl7
        have HK7A := hid (HT1.out.grow hb7)
        have HBW7 := hid (step HBW1.out hb7)
        clear hb7 hl7 hs7
        go_wp2
        refine hR' _ _ ⟨⟨_, HBW7.out⟩, rfl⟩ ?_
        clear hR' hO R'
        clear hy7 hw7
        refine wpMix3_h2 ?_ ?_
        · refine wpMix3_h rfl fun R' hR' hO => ?_
          go_wp2_with fail
          refine (HOY.out _ (step HB3.out HBW7.out)).mono ?_
          rintro e w8_ ⟨bB, lB, cB, pB, dB, uB, rfl, hOB, hb8⟩
          have HT8 := hid hOB
          have HK8A := hid (HK7A.out.grow hb8)
          have HK8Z7 := hid (keep_laid HZ7.out hb8)
          have HBW8 := hid (step HBW7.out hb8)
          clear hOB hb8
          go_wp2
          refine hR' _ _ ⟨⟨_, HBW8.out⟩, rfl⟩ ?_
          clear hR' hO R'
          refine wpMix3_h rfl fun R' hR' hO => ?_
          obtain ⟨w9_, hw9, hb9, hs9, hl9⟩ := laid w8_ #[.int .i64 0, .int .i64 0, .slice none 0 0, .slice none 0 0] 35
          obtain ⟨Y8, hy9⟩ : ∃ Y8, w8_.heap.size = Y8 := ⟨_, rfl⟩
          have HY8 : Hid (w3.heap.size ≤ Y8) := hid (by rw [← hy9]; exact HBW8.out.size)
          rw [hy9] at hl9 hs9
          have HZ9 := hid hl9
          have hlt9 := lt_laid HK8Z7.out
          rw [hy9] at hlt9
          have HNE : Hid (Y7 ≠ Y8) := hid (by omega)
          have HK9A := hid (HK8A.out.grow hb9)
          have HK9B := hid (HT8.out.grow hb9)
          have HK9Z7 := hid (keep_laid HK8Z7.out hb9)
          have HBW9 := hid (step HBW8.out hb9)
          clear hb9 hl9 hs9 hlt9
          go_wp2
          refine hR' _ _ ⟨⟨_, HBW9.out⟩, rfl⟩ ?_
          clear hR' hO R'
          clear hy9 hw9
          refine wpMix3_h rfl fun R' hR' hO => ?_
          obtain ⟨w6, hw6, h67, hk6, hb6, ht6⟩ := put_zero HK9Z7.out (.int .i64 A.C) (.int .i64 A.P) (.slice lA A.ls.length cA) (.slice pA A.ps.length dA)
          have f0 := free_laid (i := 0) HK9Z7.out
          have f1 := free_laid (i := 1) HK9Z7.out
          have f2 := free_laid (i := 2) HK9Z7.out
          have f3 := free_laid (i := 3) HK9Z7.out
          have c0 := cell_laid (i := 0) HK9Z7.out rfl
          have c1 := cell_laid (i := 1) HK9Z7.out rfl
          have c2 := cell_laid (i := 2) HK9Z7.out rfl
          have c3 := cell_laid (i := 3) HK9Z7.out rfl
          have H68 := hid (hk6 Y8 _ HNE.out.symm HZ9.out)
          have HB6 := hid (hb6 _ _ HY7.out HBW9.out)
          have HA6 := hid (ht6 _ _ _ _ _ _ HK9A.out)
          have HB6t := hid (ht6 _ _ _ _ _ _ HK9B.out)
          have H67 := hid h67
          go_wp2
          refine hR' _ _ ⟨⟨w6, HB6.out⟩, hw6.symm⟩ ?_
          clear hR' hO R'
          rw [← hw6]
          clear hw6 h67 hk6 hb6 ht6 f0 f1 f2 f3 c0 c1 c2 c3
          refine wpMix3_done ?_
          simp only [List.drop_succ_cons, List.drop_zero]
          obtain ⟨w7, hw7, h78, hk7, hb7, ht7⟩ := put_zero H68.out (.int .i64 B.C) (.int .i64 B.P) (.slice lB B.ls.length cB) (.slice pB B.ps.length dB)
          have f0 := free_laid (i := 0) H68.out
          have f1 := free_laid (i := 1) H68.out
          have f2 := free_laid (i := 2) H68.out
          have f3 := free_laid (i := 3) H68.out
          have c0 := cell_laid (i := 0) H68.out rfl
          have c1 := cell_laid (i := 1) H68.out rfl
          have c2 := cell_laid (i := 2) H68.out rfl
          have c3 := cell_laid (i := 3) H68.out rfl
          have HF := hid (show w7.heap[Y7]? = _ ∧ w7.heap[Y8]? = _ ∧ ScrL w7 lA cA uA pA dA A ∧ ScrL w7 lB cB uB pB dB B ∧ Below w3.heap.size w3 w7 from ⟨hk7 Y7 _ HNE.out H67.out, h78, (ht7 _ _ _ _ _ _ HA6.out).scrL, (ht7 _ _ _ _ _ _ HB6t.out).scrL, hb7 _ _ HY8.out HB6.out⟩)
          have HW7 := hid hw7
          clear hw7 h78 hk7 hb7 ht7
          go_wp2
          go_meet
          rw [← HW7.out]
          exact ⟨Y7, Y8, lA, cA, pA, dA, uA, lB, cB, pB, dB, uB, rfl, rfl, HF.out.1, HF.out.2.1, HF.out.2.2.1, HF.out.2.2.2.1, HF.out.2.2.2.2⟩
        · refine wpMix3_h rfl fun R' hR' hO => ?_
          obtain ⟨w10_, hw10, hb10, hs10, hl10⟩ := laid w7_ #[.int .i64 0, .int .i64 0, .slice none 0 0, .slice none 0 0] 35
          obtain ⟨Y8, hy10⟩ : ∃ Y8, w7_.heap.size = Y8 := ⟨_, rfl⟩
          have HY8 : Hid (w3.heap.size ≤ Y8) := hid (by rw [← hy10]; exact HBW7.out.size)
          rw [hy10] at hl10 hs10
          have HZ10 := hid hl10
          have hlt10 := lt_laid HZ7.out
          rw [hy10] at hlt10
          have HNE : Hid (Y7 ≠ Y8) := hid (by omega)
          have HK10A := hid (HK7A.out.grow hb10)
          have HK10Z7 := hid (keep_laid HZ7.out hb10)
          have HBW10 := hid (step HBW7.out hb10)
          clear hb10 hl10 hs10 hlt10
          go_wp2
          refine hR' _ _ ⟨⟨_, HBW10.out⟩, rfl⟩ ?_
          clear hR' hO R'
          clear hy10 hw10
          refine wpMix3_h rfl fun R' hR' hO => ?_
          go_wp2_with fail
          refine (HOY.out _ (step HB3.out HBW10.out)).mono ?_
          rintro e w11_ ⟨bB, lB, cB, pB, dB, uB, rfl, hOB, hb11⟩
          have HT11 := hid hOB
          have HK11A := hid (HK10A.out.grow hb11)
          have HK11Z7 := hid (keep_laid HK10Z7.out hb11)
          have HK11Z8 := hid (keep_laid HZ10.out hb11)
          have HBW11 := hid (step HBW10.out hb11)
          clear hOB hb11
          go_wp2
          refine hR' _ _ ⟨⟨_, HBW11.out⟩, rfl⟩ ?_
          clear hR' hO R'
          refine wpMix3_h rfl fun R' hR' hO => ?_
          obtain ⟨w6, hw6, h67, hk6, hb6, ht6⟩ := put_zero HK11Z7.out (.int .i64 A.C) (.int .i64 A.P) (.slice lA A.ls.length cA) (.slice pA A.ps.length dA)
          have f0 := free_laid (i := 0) HK11Z7.out
          have f1 := free_laid (i := 1) HK11Z7.out
          have f2 := free_laid (i := 2) HK11Z7.out
          have f3 := free_laid (i := 3) HK11Z7.out
          have c0 := cell_laid (i := 0) HK11Z7.out rfl
          have c1 := cell_laid (i := 1) HK11Z7.out rfl
          have c2 := cell_laid (i := 2) HK11Z7.out rfl
          have c3 := cell_laid (i := 3) HK11Z7.out rfl
          have H68 := hid (hk6 Y8 _ HNE.out.symm HK11Z8.out)
          have HB6 := hid (hb6 _ _ HY7.out HBW11.out)
          have HA6 := hid (ht6 _ _ _ _ _ _ HK11A.out)
          have HB6t := hid (ht6 _ _ _ _ _ _ HT11.out)
          have H67 := hid h67
          go_wp2
          refine hR' _ _ ⟨⟨w6, HB6.out⟩, hw6.symm⟩ ?_
          clear hR' hO R'
          rw [← hw6]
          clear hw6 h67 hk6 hb6 ht6 f0 f1 f2 f3 c0 c1 c2 c3
          refine wpMix3_done ?_
          simp only [List.drop_succ_cons, List.drop_zero]
          obtain ⟨w7, hw7, h78, hk7, hb7, ht7⟩ := put_zero H68.out (.int .i64 B.C) (.int .i64 B.P) (.slice lB B.ls.length cB) (.slice pB B.ps.length dB)
          have f0 := free_laid (i := 0) H68.out
          have f1 := free_laid (i := 1) H68.out
          have f2 := free_laid (i := 2) H68.out
          have f3 := free_laid (i := 3) H68.out
          have c0 := cell_laid (i := 0) H68.out rfl
          have c1 := cell_laid (i := 1) H68.out rfl
          have c2 := cell_laid (i := 2) H68.out rfl
          have c3 := cell_laid (i := 3) H68.out rfl
          have HF := hid (show w7.heap[Y7]? = _ ∧ w7.heap[Y8]? = _ ∧ ScrL w7 lA cA uA pA dA A ∧ ScrL w7 lB cB uB pB dB B ∧ Below w3.heap.size w3 w7 from ⟨hk7 Y7 _ HNE.out H67.out, h78, (ht7 _ _ _ _ _ _ HA6.out).scrL, (ht7 _ _ _ _ _ _ HB6t.out).scrL, hb7 _ _ HY8.out HB6.out⟩)
          have HW7 := hid hw7
          clear hw7 h78 hk7 hb7 ht7
          go_wp2
          go_meet
          rw [← HW7.out]
          exact ⟨Y7, Y8, lA, cA, pA, dA, uA, lB, cB, pB, dB, uB, rfl, rfl, HF.out.1, HF.out.2.1, HF.out.2.2.1, HF.out.2.2.2.1, HF.out.2.2.2.2⟩
      · refine wpMix3_h rfl fun R' hR' hO => ?_
        obtain ⟨w12_, hw12, hb12, hs12, hl12⟩ := laid w1_ #[.int .i64 0, .int .i64 0, .slice none 0 0, .slice none 0 0] 35
        obtain ⟨Y8, hy12⟩ : ∃ Y8, w1_.heap.size = Y8 := ⟨_, rfl⟩
        have HY8 : Hid (w3.heap.size ≤ Y8) := hid (by rw [← hy12]; exact HBW1.out.size)
        rw [hy12] at hl12 hs12
        have HZ12 := hid hl12
        have HK12A := hid (HT1.out.grow hb12)
        have HBW12 := hid (step HBW1.out hb12)
        clear hb12 hl12 hs12
        go_wp2
        refine hR' _ _ ⟨⟨_, HBW12.out⟩, rfl⟩ ?_
        clear hR' hO R'
        clear hy12 hw12
        refine wpMix3_h2 ?_ ?_
        · refine wpMix3_h rfl fun R' hR' hO => ?_
          go_wp2_with fail
          refine (HOY.out _ (step HB3.out HBW12.out)).mono ?_
          rintro e w13_ ⟨bB, lB, cB, pB, dB, uB, rfl, hOB, hb13⟩
          have HT13 := hid hOB
          have HK13A := hid (HK12A.out.grow hb13)
          have HK13Z8 := hid (keep_laid HZ12.out hb13)
          have HBW13 := hid (step HBW12.out hb13)
          clear hOB hb13
          go_wp2
          refine hR' _ _ ⟨⟨_, HBW13.out⟩, rfl⟩ ?_
          clear hR' hO R'
          refine wpMix3_h rfl fun R' hR' hO => ?_
          obtain ⟨w14_, hw14, hb14, hs14, hl14⟩ := laid w13_ #[.int .i64 0, .int .i64 0, .slice none 0 0, .slice none 0 0] 35
          obtain ⟨Y7, hy14⟩ : ∃ Y7, w13_.heap.size = Y7 := ⟨_, rfl⟩
          have HY7 : Hid (w3.heap.size ≤ Y7) := hid (by rw [← hy14]; exact HBW13.out.size)
          rw [hy14] at hl14 hs14
          have HZ14 := hid hl14
          have hlt14 := lt_laid HK13Z8.out
          rw [hy14] at hlt14
          have HNE : Hid (Y7 ≠ Y8) := hid (by omega)
          have HK14A := hid (HK13A.out.grow hb14)
          have HK14B := hid (HT13.out.grow hb14)
          have HK14Z8 := hid (keep_laid HK13Z8.out hb14)
          have HBW14 := hid (step HBW13.out hb14)
          clear hb14 hl14 hs14 hlt14
          go_wp2
          refine hR' _ _ ⟨⟨_, HBW14.out⟩, rfl⟩ ?_
          clear hR' hO R'
          clear hy14 hw14
          refine wpMix3_h rfl fun R' hR' hO => ?_
          obtain ⟨w6, hw6, h67, hk6, hb6, ht6⟩ := put_zero HZ14.out (.int .i64 A.C) (.int .i64 A.P) (.slice lA A.ls.length cA) (.slice pA A.ps.length dA)
          have f0 := free_laid (i := 0) HZ14.out
          have f1 := free_laid (i := 1) HZ14.out
          have f2 := free_laid (i := 2) HZ14.out
          have f3 := free_laid (i := 3) HZ14.out
          have c0 := cell_laid (i := 0) HZ14.out rfl
          have c1 := cell_laid (i := 1) HZ14.out rfl
          have c2 := cell_laid (i := 2) HZ14.out rfl
          have c3 := cell_laid (i := 3) HZ14.out rfl
          have H68 := hid (hk6 Y8 _ HNE.out.symm HK14Z8.out)
          have HB6 := hid (hb6 _ _ HY7.out HBW14.out)
          have HA6 := hid (ht6 _ _ _ _ _ _ HK14A.out)
          have HB6t := hid (ht6 _ _ _ _ _ _ HK14B.out)
          have H67 := hid h67
          go_wp2
          refine hR' _ _ ⟨⟨w6, HB6.out⟩, hw6.symm⟩ ?_
          clear hR' hO R'
          rw [← hw6]
          clear hw6 h67 hk6 hb6 ht6 f0 f1 f2 f3 c0 c1 c2 c3
          refine wpMix3_done ?_
          simp only [List.drop_succ_cons, List.drop_zero]
          obtain ⟨w7, hw7, h78, hk7, hb7, ht7⟩ := put_zero H68.out (.int .i64 B.C) (.int .i64 B.P) (.slice lB B.ls.length cB) (.slice pB B.ps.length dB)
          have f0 := free_laid (i := 0) H68.out
          have f1 := free_laid (i := 1) H68.out
          have f2 := free_laid (i := 2) H68.out
          have f3 := free_laid (i := 3) H68.out
          have c0 := cell_laid (i := 0) H68.out rfl
          have c1 := cell_laid (i := 1) H68.out rfl
          have c2 := cell_laid (i := 2) H68.out rfl
          have c3 := cell_laid (i := 3) H68.out rfl
          have HF := hid (show w7.heap[Y7]? = _ ∧ w7.heap[Y8]? = _ ∧ ScrL w7 lA cA uA pA dA A ∧ ScrL w7 lB cB uB pB dB B ∧ Below w3.heap.size w3 w7 from ⟨hk7 Y7 _ HNE.out H67.out, h78, (ht7 _ _ _ _ _ _ HA6.out).scrL, (ht7 _ _ _ _ _ _ HB6t.out).scrL, hb7 _ _ HY8.out HB6.out⟩)
          have HW7 := hid hw7
          clear hw7 h78 hk7 hb7 ht7
          go_wp2
          go_meet
          rw [← HW7.out]
          exact ⟨Y7, Y8, lA, cA, pA, dA, uA, lB, cB, pB, dB, uB, rfl, rfl, HF.out.1, HF.out.2.1, HF.out.2.2.1, HF.out.2.2.2.1, HF.out.2.2.2.2⟩
        · refine wpMix3_h rfl fun R' hR' hO => ?_
          obtain ⟨w15_, hw15, hb15, hs15, hl15⟩ := laid w12_ #[.int .i64 0, .int .i64 0, .slice none 0 0, .slice none 0 0] 35
          obtain ⟨Y7, hy15⟩ : ∃ Y7, w12_.heap.size = Y7 := ⟨_, rfl⟩
          have HY7 : Hid (w3.heap.size ≤ Y7) := hid (by rw [← hy15]; exact HBW12.out.size)
          rw [hy15] at hl15 hs15
          have HZ15 := hid hl15
          have hlt15 := lt_laid HZ12.out
          rw [hy15] at hlt15
          have HNE : Hid (Y7 ≠ Y8) := hid (by omega)
          have HK15A := hid (HK12A.out.grow hb15)
          have HK15Z8 := hid (keep_laid HZ12.out hb15)
          have HBW15 := hid (step HBW12.out hb15)
          clear hb15 hl15 hs15 hlt15
          go_wp2
          refine hR' _ _ ⟨⟨_, HBW15.out⟩, rfl⟩ ?_
          clear hR' hO R'
          clear hy15 hw15
          refine wpMix3_h rfl fun R' hR' hO => ?_
          go_wp2_with fail
          refine (HOY.out _ (step HB3.out HBW15.out)).mono ?_
          rintro e w16_ ⟨bB, lB, cB, pB, dB, uB, rfl, hOB, hb16⟩
          have HT16 := hid hOB
          have HK16A := hid (HK15A.out.grow hb16)
          have HK16Z7 := hid (keep_laid HZ15.out hb16)
          have HK16Z8 := hid (keep_laid HK15Z8.out hb16)
          have HBW16 := hid (step HBW15.out hb16)
          clear hOB hb16
          go_wp2
          refine hR' _ _ ⟨⟨_, HBW16.out⟩, rfl⟩ ?_
          clear hR' hO R'
          refine wpMix3_h rfl fun R' hR' hO => ?_
          obtain ⟨w6, hw6, h67, hk6, hb6, ht6⟩ := put_zero HK16Z7.out (.int .i64 A.C) (.int .i64 A.P) (.slice lA A.ls.length cA) (.slice pA A.ps.length dA)
          have f0 := free_laid (i := 0) HK16Z7.out
          have f1 := free_laid (i := 1) HK16Z7.out
          have f2 := free_laid (i := 2) HK16Z7.out
          have f3 := free_laid (i := 3) HK16Z7.out
          have c0 := cell_laid (i := 0) HK16Z7.out rfl
          have c1 := cell_laid (i := 1) HK16Z7.out rfl
          have c2 := cell_laid (i := 2) HK16Z7.out rfl
          have c3 := cell_laid (i := 3) HK16Z7.out rfl
          have H68 := hid (hk6 Y8 _ HNE.out.symm HK16Z8.out)
          have HB6 := hid (hb6 _ _ HY7.out HBW16.out)
          have HA6 := hid (ht6 _ _ _ _ _ _ HK16A.out)
          have HB6t := hid (ht6 _ _ _ _ _ _ HT16.out)
          have H67 := hid h67
          go_wp2
          refine hR' _ _ ⟨⟨w6, HB6.out⟩, hw6.symm⟩ ?_
          clear hR' hO R'
          rw [← hw6]
          clear hw6 h67 hk6 hb6 ht6 f0 f1 f2 f3 c0 c1 c2 c3
          refine wpMix3_done ?_
          simp only [List.drop_succ_cons, List.drop_zero]
          obtain ⟨w7, hw7, h78, hk7, hb7, ht7⟩ := put_zero H68.out (.int .i64 B.C) (.int .i64 B.P) (.slice lB B.ls.length cB) (.slice pB B.ps.length dB)
          have f0 := free_laid (i := 0) H68.out
          have f1 := free_laid (i := 1) H68.out
          have f2 := free_laid (i := 2) H68.out
          have f3 := free_laid (i := 3) H68.out
          have c0 := cell_laid (i := 0) H68.out rfl
          have c1 := cell_laid (i := 1) H68.out rfl
          have c2 := cell_laid (i := 2) H68.out rfl
          have c3 := cell_laid (i := 3) H68.out rfl
          have HF := hid (show w7.heap[Y7]? = _ ∧ w7.heap[Y8]? = _ ∧ ScrL w7 lA cA uA pA dA A ∧ ScrL w7 lB cB uB pB dB B ∧ Below w3.heap.size w3 w7 from ⟨hk7 Y7 _ HNE.out H67.out, h78, (ht7 _ _ _ _ _ _ HA6.out).scrL, (ht7 _ _ _ _ _ _ HB6t.out).scrL, hb7 _ _ HY8.out HB6.out⟩)
          have HW7 := hid hw7
          clear hw7 h78 hk7 hb7 ht7
          go_wp2
          go_meet
          rw [← HW7.out]
          exact ⟨Y7, Y8, lA, cA, pA, dA, uA, lB, cB, pB, dB, uB, rfl, rfl, HF.out.1, HF.out.2.1, HF.out.2.2.1, HF.out.2.2.2.1, HF.out.2.2.2.2⟩
    · refine wpMix3_h rfl fun R' hR' hO => ?_
      obtain ⟨w17_, hw17, hb17, hs17, hl17⟩ := laid wD #[.int .i64 0, .int .i64 0, .slice none 0 0, .slice none 0 0] 35
      obtain ⟨Y7, hy17⟩ : ∃ Y7, wD.heap.size = Y7 := ⟨_, rfl⟩
      have HY7 : Hid (w3.heap.size ≤ Y7) := hid (by rw [← hy17]; exact HBD.out.size)
      rw [hy17] at hl17 hs17
      have HZ17 := hid hl17
      have HBW17 := hid (step HBD.out hb17)
      clear hb17 hl17 hs17
      go_wp2
      refine hR' _ _ ⟨⟨_, HBW17.out⟩, rfl⟩ ?_
      clear hR' hO R'
      clear hy17 hw17
      refine wpMix3_h2 ?_ ?_
      · refine wpMix3_h rfl fun R' hR' hO => ?_
        go_wp2_with fail
        refine (HOX.out _ (step HB3.out HBW17.out)).mono ?_
        rintro e w18_ ⟨bA, lA, cA, pA, dA, uA, rfl, hOA, hb18⟩
        have HT18 := hid hOA
        have HK18Z7 := hid (keep_laid HZ17.out hb18)
        have HBW18 := hid (step HBW17.out hb18)
        clear hOA hb18
        go_wp2
        refine hR' _ _ ⟨⟨_, HBW18.out⟩, rfl⟩ ?_
        clear hR' hO R'
        refine wpMix3_h2 ?_ ?_
        · refine wpMix3_h rfl fun R' hR' hO => ?_
          go_wp2_with fail
          refine (HOY.out _ (step HB3.out HBW18.out)).mono ?_
          rintro e w19_ ⟨bB, lB, cB, pB, dB, uB, rfl, hOB, hb19⟩
          have HT19 := hid hOB
          have HK19A := hid (HT18.out.grow hb19)
          have HK19Z7 := hid (keep_laid HK18Z7.out hb19)
          have HBW19 := hid (step HBW18.out hb19)
          clear hOB hb19
          go_wp2
          refine hR' _ _ ⟨⟨_, HBW19.out⟩, rfl⟩ ?_
          clear hR' hO R'
          refine wpMix3_h rfl fun R' hR' hO => ?_
          obtain ⟨w20_, hw20, hb20, hs20, hl20⟩ := laid w19_ #[.int .i64 0, .int .i64 0, .slice none 0 0, .slice none 0 0] 35
          obtain ⟨Y8, hy20⟩ : ∃ Y8, w19_.heap.size = Y8 := ⟨_, rfl⟩
          have HY8 : Hid (w3.heap.size ≤ Y8) := hid (by rw [← hy20]; exact HBW19.out.size)
          rw [hy20] at hl20 hs20
          have HZ20 := hid hl20
          have hlt20 := lt_laid HK19Z7.out
          rw [hy20] at hlt20
          have HNE : Hid (Y7 ≠ Y8) := hid (by omega)
          have HK20A := hid (HK19A.out.grow hb20)
          have HK20B := hid (HT19.out.grow hb20)
          have HK20Z7 := hid (keep_laid HK19Z7.out hb20)
          have HBW20 := hid (step HBW19.out hb20)
          clear hb20 hl20 hs20 hlt20
          go_wp2
          refine hR' _ _ ⟨⟨_, HBW20.out⟩, rfl⟩ ?_
          clear hR' hO R'
          clear hy20 hw20
          refine wpMix3_h rfl fun R' hR' hO => ?_
          obtain ⟨w6, hw6, h67, hk6, hb6, ht6⟩ := put_zero HK20Z7.out (.int .i64 A.C) (.int .i64 A.P) (.slice lA A.ls.length cA) (.slice pA A.ps.length dA)
          have f0 := free_laid (i := 0) HK20Z7.out
          have f1 := free_laid (i := 1) HK20Z7.out
          have f2 := free_laid (i := 2) HK20Z7.out
          have f3 := free_laid (i := 3) HK20Z7.out
          have c0 := cell_laid (i := 0) HK20Z7.out rfl
          have c1 := cell_laid (i := 1) HK20Z7.out rfl
          have c2 := cell_laid (i := 2) HK20Z7.out rfl
          have c3 := cell_laid (i := 3) HK20Z7.out rfl
          have H68 := hid (hk6 Y8 _ HNE.out.symm HZ20.out)
          have HB6 := hid (hb6 _ _ HY7.out HBW20.out)
          have HA6 := hid (ht6 _ _ _ _ _ _ HK20A.out)
          have HB6t := hid (ht6 _ _ _ _ _ _ HK20B.out)
          have H67 := hid h67
          go_wp2
          refine hR' _ _ ⟨⟨w6, HB6.out⟩, hw6.symm⟩ ?_
          clear hR' hO R'
          rw [← hw6]
          clear hw6 h67 hk6 hb6 ht6 f0 f1 f2 f3 c0 c1 c2 c3
          refine wpMix3_done ?_
          simp only [List.drop_succ_cons, List.drop_zero]
          obtain ⟨w7, hw7, h78, hk7, hb7, ht7⟩ := put_zero H68.out (.int .i64 B.C) (.int .i64 B.P) (.slice lB B.ls.length cB) (.slice pB B.ps.length dB)
          have f0 := free_laid (i := 0) H68.out
          have f1 := free_laid (i := 1) H68.out
          have f2 := free_laid (i := 2) H68.out
          have f3 := free_laid (i := 3) H68.out
          have c0 := cell_laid (i := 0) H68.out rfl
          have c1 := cell_laid (i := 1) H68.out rfl
          have c2 := cell_laid (i := 2) H68.out rfl
          have c3 := cell_laid (i := 3) H68.out rfl
          have HF := hid (show w7.heap[Y7]? = _ ∧ w7.heap[Y8]? = _ ∧ ScrL w7 lA cA uA pA dA A ∧ ScrL w7 lB cB uB pB dB B ∧ Below w3.heap.size w3 w7 from ⟨hk7 Y7 _ HNE.out H67.out, h78, (ht7 _ _ _ _ _ _ HA6.out).scrL, (ht7 _ _ _ _ _ _ HB6t.out).scrL, hb7 _ _ HY8.out HB6.out⟩)
          have HW7 := hid hw7
          clear hw7 h78 hk7 hb7 ht7
          go_wp2
          go_meet
          rw [← HW7.out]
          exact ⟨Y7, Y8, lA, cA, pA, dA, uA, lB, cB, pB, dB, uB, rfl, rfl, HF.out.1, HF.out.2.1, HF.out.2.2.1, HF.out.2.2.2.1, HF.out.2.2.2.2⟩
        · refine wpMix3_h rfl fun R' hR' hO => ?_
          obtain ⟨w21_, hw21, hb21, hs21, hl21⟩ := laid w18_ #[.int .i64 0, .int .i64 0, .slice none 0 0, .slice none 0 0] 35
          obtain ⟨Y8, hy21⟩ : ∃ Y8, w18_.heap.size = Y8 := ⟨_, rfl⟩
          have HY8 : Hid (w3.heap.size ≤ Y8) := hid (by rw [← hy21]; exact HBW18.out.size)
          rw [hy21] at hl21 hs21
          have HZ21 := hid hl21
          have hlt21 := lt_laid HK18Z7.out
          rw [hy21] at hlt21
          have HNE : Hid (Y7 ≠ Y8) := hid (by omega)
          have HK21A := hid (HT18.out.grow hb21)
          have HK21Z7 := hid (keep_laid HK18Z7.out hb21)
          have HBW21 := hid (step HBW18.out hb21)
          clear hb21 hl21 hs21 hlt21
          go_wp2
          refine hR' _ _ ⟨⟨_, HBW21.out⟩, rfl⟩ ?_
          clear hR' hO R'
          clear hy21 hw21
          refine wpMix3_h rfl fun R' hR' hO => ?_
          go_wp2_with fail
          refine (HOY.out _ (step HB3.out HBW21.out)).mono ?_
          rintro e w22_ ⟨bB, lB, cB, pB, dB, uB, rfl, hOB, hb22⟩
          have HT22 := hid hOB
          have HK22A := hid (HK21A.out.grow hb22)
          have HK22Z7 := hid (keep_laid HK21Z7.out hb22)
          have HK22Z8 := hid (keep_laid HZ21.out hb22)
          have HBW22 := hid (step HBW21.out hb22)
          clear hOB hb22
          go_wp2
          refine hR' _ _ ⟨⟨_, HBW22.out⟩, rfl⟩ ?_
          clear hR' hO R'
          refine wpMix3_h rfl fun R' hR' hO => ?_
          obtain ⟨w6, hw6, h67, hk6, hb6, ht6⟩ := put_zero HK22Z7.out (.int .i64 A.C) (.int .i64 A.P) (.slice lA A.ls.length cA) (.slice pA A.ps.length dA)
          have f0 := free_laid (i := 0) HK22Z7.out
          have f1 := free_laid (i := 1) HK22Z7.out
          have f2 := free_laid (i := 2) HK22Z7.out
          have f3 := free_laid (i := 3) HK22Z7.out
          have c0 := cell_laid (i := 0) HK22Z7.out rfl
          have c1 := cell_laid (i := 1) HK22Z7.out rfl
          have c2 := cell_laid (i := 2) HK22Z7.out rfl
          have c3 := cell_laid (i := 3) HK22Z7.out rfl
          have H68 := hid (hk6 Y8 _ HNE.out.symm HK22Z8.out)
          have HB6 := hid (hb6 _ _ HY7.out HBW22.out)
          have HA6 := hid (ht6 _ _ _ _ _ _ HK22A.out)
          have HB6t := hid (ht6 _ _ _ _ _ _ HT22.out)
          have H67 := hid h67
          go_wp2
          refine hR' _ _ ⟨⟨w6, HB6.out⟩, hw6.symm⟩ ?_
          clear hR' hO R'
          rw [← hw6]
          clear hw6 h67 hk6 hb6 ht6 f0 f1 f2 f3 c0 c1 c2 c3
          refine wpMix3_done ?_
          simp only [List.drop_succ_cons, List.drop_zero]
          obtain ⟨w7, hw7, h78, hk7, hb7, ht7⟩ := put_zero H68.out (.int .i64 B.C) (.int .i64 B.P) (.slice lB B.ls.length cB) (.slice pB B.ps.length dB)
          have f0 := free_laid (i := 0) H68.out
          have f1 := free_laid (i := 1) H68.out
          have f2 := free_laid (i := 2) H68.out
          have f3 := free_laid (i := 3) H68.out
          have c0 := cell_laid (i := 0) H68.out rfl
          have c1 := cell_laid (i := 1) H68.out rfl
          have c2 := cell_laid (i := 2) H68.out rfl
          have c3 := cell_laid (i := 3) H68.out rfl
          have HF := hid (show w7.heap[Y7]? = _ ∧ w7.heap[Y8]? = _ ∧ ScrL w7 lA cA uA pA dA A ∧ ScrL w7 lB cB uB pB dB B ∧ Below w3.heap.size w3 w7 from ⟨hk7 Y7 _ HNE.out H67.out, h78, (ht7 _ _ _ _ _ _ HA6.out).scrL, (ht7 _ _ _ _ _ _ HB6t.out).scrL, hb7 _ _ HY8.out HB6.out⟩)
          have HW7 := hid hw7
          clear hw7 h78 hk7 hb7 ht7
          go_wp2
          go_meet
          rw [← HW7.out]
          exact ⟨Y7, Y8, lA, cA, pA, dA, uA, lB, cB, pB, dB, uB, rfl, rfl, HF.out.1, HF.out.2.1, HF.out.2.2.1, HF.out.2.2.2.1, HF.out.2.2.2.2⟩
      · refine wpMix3_h rfl fun R' hR' hO => ?_
        obtain ⟨w23_, hw23, hb23, hs23, hl23⟩ := laid w17_ #[.int .i64 0, .int .i64 0, .slice none 0 0, .slice none 0 0] 35
        obtain ⟨Y8, hy23⟩ : ∃ Y8, w17_.heap.size = Y8 := ⟨_, rfl⟩
        have HY8 : Hid (w3.heap.size ≤ Y8) := hid (by rw [← hy23]; exact HBW17.out.size)
        rw [hy23] at hl23 hs23
        have HZ23 := hid hl23
        have hlt23 := lt_laid HZ17.out
        rw [hy23] at hlt23
        have HNE : Hid (Y7 ≠ Y8) := hid (by omega)
        have HK23Z7 := hid (keep_laid HZ17.out hb23)
        have HBW23 := hid (step HBW17.out hb23)
        clear hb23 hl23 hs23 hlt23
        go_wp2
        refine hR' _ _ ⟨⟨_, HBW23.out⟩, rfl⟩ ?_
        clear hR' hO R'
        clear hy23 hw23
        refine wpMix3_h rfl fun R' hR' hO => ?_
        go_wp2_with fail
        refine (HOX.out _ (step HB3.out HBW23.out)).mono ?_
        rintro e w24_ ⟨bA, lA, cA, pA, dA, uA, rfl, hOA, hb24⟩
        have HT24 := hid hOA
        have HK24Z7 := hid (keep_laid HK23Z7.out hb24)
        have HK24Z8 := hid (keep_laid HZ23.out hb24)
        have HBW24 := hid (step HBW23.out hb24)
        clear hOA hb24
        go_wp2
        refine hR' _ _ ⟨⟨_, HBW24.out⟩, rfl⟩ ?_
        clear hR' hO R'
        refine wpMix3_h rfl fun R' hR' hO => ?_
        go_wp2_with fail
        refine (HOY.out _ (step HB3.out HBW24.out)).mono ?_
        rintro e w25_ ⟨bB, lB, cB, pB, dB, uB, rfl, hOB, hb25⟩
        have HT25 := hid hOB
        have HK25A := hid (HT24.out.grow hb25)
        have HK25Z7 := hid (keep_laid HK24Z7.out hb25)
        have HK25Z8 := hid (keep_laid HK24Z8.out hb25)
        have HBW25 := hid (step HBW24.out hb25)
        clear hOB hb25
        go_wp2
        refine hR' _ _ ⟨⟨_, HBW25.out⟩, rfl⟩ ?_
        clear hR' hO R'
        refine wpMix3_h rfl fun R' hR' hO => ?_
        obtain ⟨w6, hw6, h67, hk6, hb6, ht6⟩ := put_zero HK25Z7.out (.int .i64 A.C) (.int .i64 A.P) (.slice lA A.ls.length cA) (.slice pA A.ps.length dA)
        have f0 := free_laid (i := 0) HK25Z7.out
        have f1 := free_laid (i := 1) HK25Z7.out
        have f2 := free_laid (i := 2) HK25Z7.out
        have f3 := free_laid (i := 3) HK25Z7.out
        have c0 := cell_laid (i := 0) HK25Z7.out rfl
        have c1 := cell_laid (i := 1) HK25Z7.out rfl
        have c2 := cell_laid (i := 2) HK25Z7.out rfl
        have c3 := cell_laid (i := 3) HK25Z7.out rfl
        have H68 := hid (hk6 Y8 _ HNE.out.symm HK25Z8.out)
        have HB6 := hid (hb6 _ _ HY7.out HBW25.out)
        have HA6 := hid (ht6 _ _ _ _ _ _ HK25A.out)
        have HB6t := hid (ht6 _ _ _ _ _ _ HT25.out)
        have H67 := hid h67
        go_wp2
        refine hR' _ _ ⟨⟨w6, HB6.out⟩, hw6.symm⟩ ?_
        clear hR' hO R'
        rw [← hw6]
        clear hw6 h67 hk6 hb6 ht6 f0 f1 f2 f3 c0 c1 c2 c3
        refine wpMix3_done ?_
        simp only [List.drop_succ_cons, List.drop_zero]
        obtain ⟨w7, hw7, h78, hk7, hb7, ht7⟩ := put_zero H68.out (.int .i64 B.C) (.int .i64 B.P) (.slice lB B.ls.length cB) (.slice pB B.ps.length dB)
        have f0 := free_laid (i := 0) H68.out
        have f1 := free_laid (i := 1) H68.out
        have f2 := free_laid (i := 2) H68.out
        have f3 := free_laid (i := 3) H68.out
        have c0 := cell_laid (i := 0) H68.out rfl
        have c1 := cell_laid (i := 1) H68.out rfl
        have c2 := cell_laid (i := 2) H68.out rfl
        have c3 := cell_laid (i := 3) H68.out rfl
        have HF := hid (show w7.heap[Y7]? = _ ∧ w7.heap[Y8]? = _ ∧ ScrL w7 lA cA uA pA dA A ∧ ScrL w7 lB cB uB pB dB B ∧ Below w3.heap.size w3 w7 from ⟨hk7 Y7 _ HNE.out H67.out, h78, (ht7 _ _ _ _ _ _ HA6.out).scrL, (ht7 _ _ _ _ _ _ HB6t.out).scrL, hb7 _ _ HY8.out HB6.out⟩)
        have HW7 := hid hw7
        clear hw7 h78 hk7 hb7 ht7
        go_wp2
        go_meet
        rw [← HW7.out]
        exact ⟨Y7, Y8, lA, cA, pA, dA, uA, lB, cB, pB, dB, uB, rfl, rfl, HF.out.1, HF.out.2.1, HF.out.2.2.1, HF.out.2.2.2.1, HF.out.2.2.2.2⟩
    · refine wpMix3_h rfl fun R' hR' hO => ?_
      obtain ⟨w26_, hw26, hb26, hs26, hl26⟩ := laid wD #[.int .i64 0, .int .i64 0, .slice none 0 0, .slice none 0 0] 35
      obtain ⟨Y8, hy26⟩ : ∃ Y8, wD.heap.size = Y8 := ⟨_, rfl⟩
      have HY8 : Hid (w3.heap.size ≤ Y8) := hid (by rw [← hy26]; exact HBD.out.size)
      rw [hy26] at hl26 hs26
      have HZ26 := hid hl26
      have HBW26 := hid (step HBD.out hb26)
      clear hb26 hl26 hs26
      go_wp2
      refine hR' _ _ ⟨⟨_, HBW26.out⟩, rfl⟩ ?_
      clear hR' hO R'
      clear hy26 hw26
      refine wpMix3_h2 ?_ ?_
      · refine wpMix3_h rfl fun R' hR' hO => ?_
        go_wp2_with fail
        refine (HOX.out _ (step HB3.out HBW26.out)).mono ?_
        rintro e w27_ ⟨bA, lA, cA, pA, dA, uA, rfl, hOA, hb27⟩
        have HT27 := hid hOA
        have HK27Z8 := hid (keep_laid HZ26.out hb27)
        have HBW27 := hid (step HBW26.out hb27)
        clear hOA hb27
        go_wp2
        refine hR' _ _ ⟨⟨_, HBW27.out⟩, rfl⟩ ?_
        clear hR' hO R'
        refine wpMix3_h2 ?_ ?_
        · refine wpMix3_h rfl fun R' hR' hO => ?_
          go_wp2_with fail
          refine (HOY.out _ (step HB3.out HBW27.out)).mono ?_
          rintro e w28_ ⟨bB, lB, cB, pB, dB, uB, rfl, hOB, hb28⟩
          have HT28 := hid hOB
          have HK28A := hid (HT27.out.grow hb28)
          have HK28Z8 := hid (keep_laid HK27Z8.out hb28)
          have HBW28 := hid (step HBW27.out hb28)
          clear hOB hb28
          go_wp2
          refine hR' _ _ ⟨⟨_, HBW28.out⟩, rfl⟩ ?_
          clear hR' hO R'
          refine wpMix3_h rfl fun R' hR' hO => ?_
          obtain ⟨w29_, hw29, hb29, hs29, hl29⟩ := laid w28_ #[.int .i64 0, .int .i64 0, .slice none 0 0, .slice none 0 0] 35
          obtain ⟨Y7, hy29⟩ : ∃ Y7, w28_.heap.size = Y7 := ⟨_, rfl⟩
          have HY7 : Hid (w3.heap.size ≤ Y7) := hid (by rw [← hy29]; exact HBW28.out.size)
          rw [hy29] at hl29 hs29
          have HZ29 := hid hl29
          have hlt29 := lt_laid HK28Z8.out
          rw [hy29] at hlt29
          have HNE : Hid (Y7 ≠ Y8) := hid (by omega)
          have HK29A := hid (HK28A.out.grow hb29)
          have HK29B := hid (HT28.out.grow hb29)
          have HK29Z8 := hid (keep_laid HK28Z8.out hb29)
          have HBW29 := hid (step HBW28.out hb29)
          clear hb29 hl29 hs29 hlt29
          go_wp2
          refine hR' _ _ ⟨⟨_, HBW29.out⟩, rfl⟩ ?_
          clear hR' hO R'
          clear hy29 hw29
          refine wpMix3_h rfl fun R' hR' hO => ?_
          obtain ⟨w6, hw6, h67, hk6, hb6, ht6⟩ := put_zero HZ29.out (.int .i64 A.C) (.int .i64 A.P) (.slice lA A.ls.length cA) (.slice pA A.ps.length dA)
          have f0 := free_laid (i := 0) HZ29.out
          have f1 := free_laid (i := 1) HZ29.out
          have f2 := free_laid (i := 2) HZ29.out
          have f3 := free_laid (i := 3) HZ29.out
          have c0 := cell_laid (i := 0) HZ29.out rfl
          have c1 := cell_laid (i := 1) HZ29.out rfl
          have c2 := cell_laid (i := 2) HZ29.out rfl
          have c3 := cell_laid (i := 3) HZ29.out rfl
          have H68 := hid (hk6 Y8 _ HNE.out.symm HK29Z8.out)
          have HB6 := hid (hb6 _ _ HY7.out HBW29.out)
          have HA6 := hid (ht6 _ _ _ _ _ _ HK29A.out)
          have HB6t := hid (ht6 _ _ _ _ _ _ HK29B.out)
          have H67 := hid h67
          go_wp2
          refine hR' _ _ ⟨⟨w6, HB6.out⟩, hw6.symm⟩ ?_
          clear hR' hO R'
          rw [← hw6]
          clear hw6 h67 hk6 hb6 ht6 f0 f1 f2 f3 c0 c1 c2 c3
          refine wpMix3_done ?_
          simp only [List.drop_succ_cons, List.drop_zero]
          obtain ⟨w7, hw7, h78, hk7, hb7, ht7⟩ := put_zero H68.out (.int .i64 B.C) (.int .i64 B.P) (.slice lB B.ls.length cB) (.slice pB B.ps.length dB)
          have f0 := free_laid (i := 0) H68.out
          have f1 := free_laid (i := 1) H68.out
          have f2 := free_laid (i := 2) H68.out
          have f3 := free_laid (i := 3) H68.out
          have c0 := cell_laid (i := 0) H68.out rfl
          have c1 := cell_laid (i := 1) H68.out rfl
          have c2 := cell_laid (i := 2) H68.out rfl
          have c3 := cell_laid (i := 3) H68.out rfl
          have HF := hid (show w7.heap[Y7]? = _ ∧ w7.heap[Y8]? = _ ∧ ScrL w7 lA cA uA pA dA A ∧ ScrL w7 lB cB uB pB dB B ∧ Below w3.heap.size w3 w7 from ⟨hk7 Y7 _ HNE.out H67.out, h78, (ht7 _ _ _ _ _ _ HA6.out).scrL, (ht7 _ _ _ _ _ _ HB6t.out).scrL, hb7 _ _ HY8.out HB6.out⟩)
          have HW7 := hid hw7
          clear hw7 h78 hk7 hb7 ht7
          go_wp2
          go_meet
          rw [← HW7.out]
          exact ⟨Y7, Y8, lA, cA, pA, dA, uA, lB, cB, pB, dB, uB, rfl, rfl, HF.out.1, HF.out.2.1, HF.out.2.2.1, HF.out.2.2.2.1, HF.out.2.2.2.2⟩
        · refine wpMix3_h rfl fun R' hR' hO => ?_
          obtain ⟨w30_, hw30, hb30, hs30, hl30⟩ := laid w27_ #[.int .i64 0, .int .i64 0, .slice none 0 0, .slice none 0 0] 35
          obtain ⟨Y7, hy30⟩ : ∃ Y7, w27_.heap.size = Y7 := ⟨_, rfl⟩
          have HY7 : Hid (w3.heap.size ≤ Y7) := hid (by rw [← hy30]; exact HBW27.out.size)
          rw [hy30] at hl30 hs30
          have HZ30 := hid hl30
          have hlt30 := lt_laid HK27Z8.out
          rw [hy30] at hlt30
          have HNE : Hid (Y7 ≠ Y8) := hid (by omega)
          have HK30A := hid (HT27.out.grow hb30)
          have HK30Z8 := hid (keep_laid HK27Z8.out hb30)
          have HBW30 := hid (step HBW27.out hb30)
          clear hb30 hl30 hs30 hlt30
          go_wp2
          refine hR' _ _ ⟨⟨_, HBW30.out⟩, rfl⟩ ?_
          clear hR' hO R'
          clear hy30 hw30
          refine wpMix3_h rfl fun R' hR' hO => ?_
          go_wp2_with fail
          refine (HOY.out _ (step HB3.out HBW30.out)).mono ?_
          rintro e w31_ ⟨bB, lB, cB, pB, dB, uB, rfl, hOB, hb31⟩
          have HT31 := hid hOB
          have HK31A := hid (HK30A.out.grow hb31)
          have HK31Z7 := hid (keep_laid HZ30.out hb31)
          have HK31Z8 := hid (keep_laid HK30Z8.out hb31)
          have HBW31 := hid (step HBW30.out hb31)
          clear hOB hb31
          go_wp2
          refine hR' _ _ ⟨⟨_, HBW31.out⟩, rfl⟩ ?_
          clear hR' hO R'
          refine wpMix3_h rfl fun R' hR' hO => ?_
          obtain ⟨w6, hw6, h67, hk6, hb6, ht6⟩ := put_zero HK31Z7.out (.int .i64 A.C) (.int .i64 A.P) (.slice lA A.ls.length cA) (.slice pA A.ps.length dA)
          have f0 := free_laid (i := 0) HK31Z7.out
          have f1 := free_laid (i := 1) HK31Z7.out
          have f2 := free_laid (i := 2) HK31Z7.out
          have f3 := free_laid (i := 3) HK31Z7.out
          have c0 := cell_laid (i := 0) HK31Z7.out rfl
          have c1 := cell_laid (i := 1) HK31Z7.out rfl
          have c2 := cell_laid (i := 2) HK31Z7.out rfl
          have c3 := cell_laid (i := 3) HK31Z7.out rfl
          have H68 := hid (hk6 Y8 _ HNE.out.symm HK31Z8.out)
          have HB6 := hid (hb6 _ _ HY7.out HBW31.out)
          have HA6 := hid (ht6 _ _ _ _ _ _ HK31A.out)
          have HB6t := hid (ht6 _ _ _ _ _ _ HT31.out)
          have H67 := hid h67
          go_wp2
          refine hR' _ _ ⟨⟨w6, HB6.out⟩, hw6.symm⟩ ?_
          clear hR' hO R'
          rw [← hw6]
          clear hw6 h67 hk6 hb6 ht6 f0 f1 f2 f3 c0 c1 c2 c3
          refine wpMix3_done ?_
          simp only [List.drop_succ_cons, List.drop_zero]
          obtain ⟨w7, hw7, h78, hk7, hb7, ht7⟩ := put_zero H68.out (.int .i64 B.C) (.int .i64 B.P) (.slice lB B.ls.length cB) (.slice pB B.ps.length dB)
          have f0 := free_laid (i := 0) H68.out
          have f1 := free_laid (i := 1) H68.out
          have f2 := free_laid (i := 2) H68.out
          have f3 := free_laid (i := 3) H68.out
          have c0 := cell_laid (i := 0) H68.out rfl
          have c1 := cell_laid (i := 1) H68.out rfl
          have c2 := cell_laid (i := 2) H68.out rfl
          have c3 := cell_laid (i := 3) H68.out rfl
          have HF := hid (show w7.heap[Y7]? = _ ∧ w7.heap[Y8]? = _ ∧ ScrL w7 lA cA uA pA dA A ∧ ScrL w7 lB cB uB pB dB B ∧ Below w3.heap.size w3 w7 from ⟨hk7 Y7 _ HNE.out H67.out, h78, (ht7 _ _ _ _ _ _ HA6.out).scrL, (ht7 _ _ _ _ _ _ HB6t.out).scrL, hb7 _ _ HY8.out HB6.out⟩)
          have HW7 := hid hw7
          clear hw7 h78 hk7 hb7 ht7
          go_wp2
          go_meet
          rw [← HW7.out]
          exact ⟨Y7, Y8, lA, cA, pA, dA, uA, lB, cB, pB, dB, uB, rfl, rfl, HF.out.1, HF.out.2.1, HF.out.2.2.1, HF.out.2.2.2.1, HF.out.2.2.2.2⟩
      · refine wpMix3_h rfl fun R' hR' hO => ?_
        obtain ⟨w32_, hw32, hb32, hs32, hl32⟩ := laid w26_ #[.int .i64 0, .int .i64 0, .slice none 0 0, .slice none 0 0] 35
        obtain ⟨Y7, hy32⟩ : ∃ Y7, w26_.heap.size = Y7 := ⟨_, rfl⟩
        have HY7 : Hid (w3.heap.size ≤ Y7) := hid (by rw [← hy32]; exact HBW26.out.size)
        rw [hy32] at hl32 hs32
        have HZ32 := hid hl32
        have hlt32 := lt_laid HZ26.out
        rw [hy32] at hlt32
        have HNE : Hid (Y7 ≠ Y8) := hid (by omega)
        have HK32Z8 := hid (keep_laid HZ26.out hb32)
        have HBW32 := hid (step HBW26.out hb32)
        clear hb32 hl32 hs32 hlt32
        go_wp2
        refine hR' _ _ ⟨⟨_, HBW32.out⟩, rfl⟩ ?_
        clear hR' hO R'
        clear hy32 hw32
        refine wpMix3_h rfl fun R' hR' hO => ?_
        go_wp2_with fail
        refine (HOX.out _ (step HB3.out HBW32.out)).mono ?_
        rintro e w33_ ⟨bA, lA, cA, pA, dA, uA, rfl, hOA, hb33⟩
        have HT33 := hid hOA
        have HK33Z7 := hid (keep_laid HZ32.out hb33)
        have HK33Z8 := hid (keep_laid HK32Z8.out hb33)
        have HBW33 := hid (step HBW32.out hb33)
        clear hOA hb33
        go_wp2
        refine hR' _ _ ⟨⟨_, HBW33.out⟩, rfl⟩ ?_
        clear hR' hO R'
        refine wpMix3_h rfl fun R' hR' hO => ?_
        go_wp2_with fail
        refine (HOY.out _ (step HB3.out HBW33.out)).mono ?_
        rintro e w34_ ⟨bB, lB, cB, pB, dB, uB, rfl, hOB, hb34⟩
        have HT34 := hid hOB
        have HK34A := hid (HT33.out.grow hb34)
        have HK34Z7 := hid (keep_laid HK33Z7.out hb34)
        have HK34Z8 := hid (keep_laid HK33Z8.out hb34)
        have HBW34 := hid (step HBW33.out hb34)
        clear hOB hb34
        go_wp2
        refine hR' _ _ ⟨⟨_, HBW34.out⟩, rfl⟩ ?_
        clear hR' hO R'
        refine wpMix3_h rfl fun R' hR' hO => ?_
        obtain ⟨w6, hw6, h67, hk6, hb6, ht6⟩ := put_zero HK34Z7.out (.int .i64 A.C) (.int .i64 A.P) (.slice lA A.ls.length cA) (.slice pA A.ps.length dA)
        have f0 := free_laid (i := 0) HK34Z7.out
        have f1 := free_laid (i := 1) HK34Z7.out
        have f2 := free_laid (i := 2) HK34Z7.out
        have f3 := free_laid (i := 3) HK34Z7.out
        have c0 := cell_laid (i := 0) HK34Z7.out rfl
        have c1 := cell_laid (i := 1) HK34Z7.out rfl
        have c2 := cell_laid (i := 2) HK34Z7.out rfl
        have c3 := cell_laid (i := 3) HK34Z7.out rfl
        have H68 := hid (hk6 Y8 _ HNE.out.symm HK34Z8.out)
        have HB6 := hid (hb6 _ _ HY7.out HBW34.out)
        have HA6 := hid (ht6 _ _ _ _ _ _ HK34A.out)
        have HB6t := hid (ht6 _ _ _ _ _ _ HT34.out)
        have H67 := hid h67
        go_wp2
        refine hR' _ _ ⟨⟨w6, HB6.out⟩, hw6.symm⟩ ?_
        clear hR' hO R'
        rw [← hw6]
        clear hw6 h67 hk6 hb6 ht6 f0 f1 f2 f3 c0 c1 c2 c3
        refine wpMix3_done ?_
        simp only [List.drop_succ_cons, List.drop_zero]
        obtain ⟨w7, hw7, h78, hk7, hb7, ht7⟩ := put_zero H68.out (.int .i64 B.C) (.int .i64 B.P) (.slice lB B.ls.length cB) (.slice pB B.ps.length dB)
        have f0 := free_laid (i := 0) H68.out
        have f1 := free_laid (i := 1) H68.out
        have f2 := free_laid (i := 2) H68.out
        have f3 := free_laid (i := 3) H68.out
        have c0 := cell_laid (i := 0) H68.out rfl
        have c1 := cell_laid (i := 1) H68.out rfl
        have c2 := cell_laid (i := 2) H68.out rfl
        have c3 := cell_laid (i := 3) H68.out rfl
        have HF := hid (show w7.heap[Y7]? = _ ∧ w7.heap[Y8]? = _ ∧ ScrL w7 lA cA uA pA dA A ∧ ScrL w7 lB cB uB pB dB B ∧ Below w3.heap.size w3 w7 from ⟨hk7 Y7 _ HNE.out H67.out, h78, (ht7 _ _ _ _ _ _ HA6.out).scrL, (ht7 _ _ _ _ _ _ HB6t.out).scrL, hb7 _ _ HY8.out HB6.out⟩)
        have HW7 := hid hw7
        clear hw7 h78 hk7 hb7 ht7
        go_wp2
        go_meet
        rw [← HW7.out]
        exact ⟨Y7, Y8, lA, cA, pA, dA, uA, lB, cB, pB, dB, uB, rfl, rfl, HF.out.1, HF.out.2.1, HF.out.2.2.1, HF.out.2.2.2.1, HF.out.2.2.2.2⟩
  case rest =>
    obtain ⟨Y7, Y8, lA, cA, pA, dA, uA, lB, cB, pB, dB, uB, rfl, rfl, h7, h8, hSA, hSB, hb⟩ := hcut
    obtain ⟨wA, hwA⟩ : ∃ wA, wA = wc := ⟨_, rfl⟩
    subst hwA
    have H7 := hid h7
    have H8 := hid h8
    have HSA := hid hSA
    have HSB := hid hSB
    have HBA := hid (step HB3.out hb)
    have HXA := hid (keep_laid HX3.out hb)
    obtain ⟨R, hR⟩ : ∃ R, okS A = R := ⟨_, rfl⟩
    obtain ⟨E, hE⟩ : ∃ E : Int, (if R = true then (0 : Int) else 130) = E := ⟨_, rfl⟩
    have HRR := hid fun V (hV : Below wA.heap.size wA V) => RefRight_any A lA pA cA dA uA V (HSA.out.grow hV) (by have := HAf.out.1; omega) (fun cs hcs => by have := HAf.out.2 cs hcs; omega)
    have HCK := hid fun V (hV : Below wA.heap.size wA V) => Check_any A lA pA cA dA uA V (HSA.out.grow hV) (by have := HAf.out.1; omega) (fun cs hcs => by have := HAf.out.2 cs hcs; omega)
    rw [hR] at HRR
    rw [hR, hE] at HCK
    unfold scrV at HRR HCK
    obtain ⟨c0, c1, c2, c3⟩ := cells4 h7
    have HR := hid hR
    have HE := hid hE
    clear h7 h8 hSA hSB hb hR hE p0 p1 p2 p3 q0 q1 q2 q3
    go_wp2_with fail
    refine (HRR.out _ (Below.refl _ _)).mono ?_
    rintro e w4 ⟨rfl, hb4⟩
    obtain ⟨c0, c1, c2, c3⟩ := cells4 (keep_laid H7.out hb4)
    have HB4 := hid hb4
    clear hb4
    go_wp2_with fail
    refine (HCK.out _ HB4.out).mono ?_
    rintro e w5 ⟨rfl, hb5⟩
    have HB5 := hid (step HB4.out hb5)
    have H75 := hid (keep_laid H7.out HB5.out)
    have H85 := hid (keep_laid H8.out HB5.out)
    have HX5 := hid (keep_laid HXA.out HB5.out)
    have HBW5 := hid (step HBA.out HB5.out)
    obtain ⟨Q, hQ⟩ : ∃ Q, sameS A B = Q := ⟨_, rfl⟩
    have HS1 := hid fun V (hV : Below wA.heap.size wA V) => Same_any A B lA lB pA pB cA cB dA dB uA uB V HAok.out HBok.out (HSA.out.grow hV) (HSB.out.grow hV)
    have HS2 := hid fun V (hV : Below wA.heap.size wA V) => RefSame_any A B lA lB pA pB cA cB dA dB uA uB V HAok.out HBok.out (HSA.out.grow hV) (HSB.out.grow hV)
    rw [hQ] at HS1 HS2
    unfold scrV at HS1 HS2
    have hQQ : (Q != Q) = false := by cases Q <;> rfl
    clear hQ hb5 c0 c1 c2 c3

    have a0 : ∀ z : Ext w5, z.v.cell? ⟨Y7, 0, none⟩ = some (.int .i64 A.C) := fun z => (cells4 (keep_laid H75.out z.b)).1
    have a1 : ∀ z : Ext w5, z.v.cell? ⟨Y7, 1, none⟩ = some (.int .i64 A.P) := fun z => (cells4 (keep_laid H75.out z.b)).2.1
    have a2 : ∀ z : Ext w5, z.v.cell? ⟨Y7, 2, none⟩ = some (.slice lA A.ls.length cA) := fun z => (cells4 (keep_laid H75.out z.b)).2.2.1
    have a3 : ∀ z : Ext w5, z.v.cell? ⟨Y7, 3, none⟩ = some (.slice pA A.ps.length dA) := fun z => (cells4 (keep_laid H75.out z.b)).2.2.2
    have b0 : ∀ z : Ext w5, z.v.cell? ⟨Y8, 0, none⟩ = some (.int .i64 B.C) := fun z => (cells4 (keep_laid H85.out z.b)).1
    have b1 : ∀ z : Ext w5, z.v.cell? ⟨Y8, 1, none⟩ = some (.int .i64 B.P) := fun z => (cells4 (keep_laid H85.out z.b)).2.1
    have b2 : ∀ z : Ext w5, z.v.cell? ⟨Y8, 2, none⟩ = some (.slice lB B.ls.length cB) := fun z => (cells4 (keep_laid H85.out z.b)).2.2.1
    have b3 : ∀ z : Ext w5, z.v.cell? ⟨Y8, 3, none⟩ = some (.slice pB B.ps.length dB) := fun z => (cells4 (keep_laid H85.out z.b)).2.2.2
    have x0 : ∀ z : Ext w5, z.v.cell? ⟨X, 0, none⟩ = some (.int .i64 S.C) := fun z => (cells4 (keep_laid HX5.out z.b)).1
    have x1 : ∀ z : Ext w5, z.v.cell? ⟨X, 1, none⟩ = some (.int .i64 S.P) := fun z => (cells4 (keep_laid HX5.out z.b)).2.1
    have x2 : ∀ z : Ext w5, z.v.cell? ⟨X, 2, none⟩ = some (.slice la S.ls.length lc) := fun z => (cells4 (keep_laid HX5.out z.b)).2.2.1
    have x3 : ∀ z : Ext w5, z.v.cell? ⟨X, 3, none⟩ = some (.slice pa S.ps.length pc) := fun z => (cells4 (keep_laid HX5.out z.b)).2.2.2
    go_upto_region 6 with (fail)
    go_cut [52] (fun t52 V => t52 = .bool false ∧ Below w5.heap.size w5 V)
    case first =>
      cases R
      case' false =>
        obtain rfl : 130 = E := HE.out
        refine wp_region_mix2 (fun V => ∃ z : Ext w5, V = z.v) 28 (.q 0 (.q 1 (.q 2 (.q 3 (.q 4 (.q 5 (.q 6 (.q 7 (.q 8 (.q 9 (.q 10 (.q 11 (.q 12 (.q 13 (.q 14 (.q 16 (.q 17 (.h 15 (.h 18 (.q 19 (.q 20 (.q 21 (.q 22 (.q 23 (.h 24 (.h 25 (.q 26 (.q 27 (.done))))))))))))))))))))))))))))) (by kernel_rfl) (by kernel_rfl) ⟨⟨_, (Below.refl _ _).drew⟩, rfl⟩ ?_
        repeat (refine wpMix2_q rfl rfl ?_; go_big_quiet_step (fail); refine wpQuiet_nil ?_)
        refine wpMix2_h rfl fun R' hR' hO => ?_
        have hb5d : Below w5.heap.size w5 w5.drew := (Below.refl _ _).drew
        go_wp2_with fail
        refine (HS1.out _ (step HB5.out hb5d)).mono ?_
        rintro e w6 ⟨rfl, hb6⟩
        have hb56 := step hb5d hb6
        go_wp2
        refine hR' _ _ ⟨⟨w6, hb56⟩, rfl⟩ ?_
        refine wpMix2_h rfl fun R' hR' hO => ?_
        go_wp2_with fail
        refine (HS2.out _ (step HB5.out hb56)).mono ?_
        rintro e w7 ⟨rfl, hb7⟩
        have hb57 := step hb56 hb7
        go_wp2
        refine hR' _ _ ⟨⟨w7, hb57⟩, rfl⟩ ?_
        repeat (refine wpMix2_q rfl rfl ?_; go_big_quiet_step (fail); refine wpQuiet_nil ?_)
        refine wpMix2_h rfl fun R' hR' hO => ?_
        go_wp2_with fail
        refine (HOX.out _ (step HBW5.out hb57)).mono ?_
        rintro e w8 ⟨bs, lS, cS, pS, dS, uS, rfl, hOS, hb8⟩
        have hb58 := step hb57 hb8
        have HS3 := hid (Same_S A lA lS pA pS cA cS dA dS uA uS w8 HAok.out (HSA.out.grow (step HB5.out hb58)) hOS.scrL)
        unfold scrV at HS3
        clear hOS
        go_wp2
        refine hR' _ _ ⟨⟨w8, hb58⟩, rfl⟩ ?_
        refine wpMix2_h rfl fun R' hR' hO => ?_
        go_wp2_with fail
        refine HS3.out.mono ?_
        rintro e w9 ⟨rfl, hb9⟩
        have hb59 := step hb58 hb9
        go_wp2
        refine hR' _ _ ⟨⟨w9, hb59⟩, rfl⟩ ?_
        repeat (refine wpMix2_q rfl rfl ?_; go_big_quiet_step (fail); refine wpQuiet_nil ?_)
        refine wpMix2_done ?_
        simp only [List.drop_succ_cons, List.drop_nil]
        go_wp2
        go_meet
        exact ⟨rfl, hb59⟩
      case' true =>
        obtain rfl : 0 = E := HE.out
        refine wp_region_mix2 (fun V => ∃ z : Ext w5, V = z.v) 28 (.q 0 (.q 1 (.q 2 (.q 3 (.q 4 (.q 5 (.q 6 (.q 7 (.q 8 (.q 9 (.q 10 (.q 11 (.q 12 (.q 13 (.q 14 (.q 16 (.q 17 (.h 15 (.h 18 (.q 19 (.q 20 (.q 21 (.q 22 (.q 23 (.h 24 (.h 25 (.q 26 (.q 27 (.done))))))))))))))))))))))))))))) (by kernel_rfl) (by kernel_rfl) ⟨⟨_, (Below.refl _ _).drew⟩, rfl⟩ ?_
        repeat (refine wpMix2_q rfl rfl ?_; go_big_quiet_step (fail); refine wpQuiet_nil ?_)
        refine wpMix2_h rfl fun R' hR' hO => ?_
        have hb5d : Below w5.heap.size w5 w5.drew := (Below.refl _ _).drew
        go_wp2_with fail
        refine (HS1.out _ (step HB5.out hb5d)).mono ?_
        rintro e w6 ⟨rfl, hb6⟩
        have hb56 := step hb5d hb6
        go_wp2
        refine hR' _ _ ⟨⟨w6, hb56⟩, rfl⟩ ?_
        refine wpMix2_h rfl fun R' hR' hO => ?_
        go_wp2_with fail
        refine (HS2.out _ (step HB5.out hb56)).mono ?_
        rintro e w7 ⟨rfl, hb7⟩
        have hb57 := step hb56 hb7
        go_wp2
        refine hR' _ _ ⟨⟨w7, hb57⟩, rfl⟩ ?_
        repeat (refine wpMix2_q rfl rfl ?_; go_big_quiet_step (fail); refine wpQuiet_nil ?_)
        refine wpMix2_h rfl fun R' hR' hO => ?_
        go_wp2_with fail
        refine (HOX.out _ (step HBW5.out hb57)).mono ?_
        rintro e w8 ⟨bs, lS, cS, pS, dS, uS, rfl, hOS, hb8⟩
        have hb58 := step hb57 hb8
        have HS3 := hid (Same_S A lA lS pA pS cA cS dA dS uA uS w8 HAok.out (HSA.out.grow (step HB5.out hb58)) hOS.scrL)
        unfold scrV at HS3
        clear hOS
        go_wp2
        refine hR' _ _ ⟨⟨w8, hb58⟩, rfl⟩ ?_
        refine wpMix2_h rfl fun R' hR' hO => ?_
        go_wp2_with fail
        refine HS3.out.mono ?_
        rintro e w9 ⟨rfl, hb9⟩
        have hb59 := step hb58 hb9
        go_wp2
        refine hR' _ _ ⟨⟨w9, hb59⟩, rfl⟩ ?_
        repeat (refine wpMix2_q rfl rfl ?_; go_big_quiet_step (fail); refine wpQuiet_nil ?_)
        refine wpMix2_done ?_
        simp only [List.drop_succ_cons, List.drop_nil]
        go_wp2
        go_meet
        exact ⟨rfl, hb59⟩
    case rest =>
      obtain ⟨rfl, hb⟩ := hcut
      obtain ⟨wE, hwE⟩ : ∃ wE, wE = wc := ⟨_, rfl⟩
      subst hwE
      have HB5E := hid hb
      have HBE := hid (step HB5.out hb)
      have HBWE := hid (step HBW5.out hb)
      obtain ⟨c0, c1, c2, c3⟩ := cells4 (keep_laid H75.out hb)
      obtain ⟨L, hL⟩ : ∃ L, (if R = true then ofW A else []) = L := ⟨_, rfl⟩
      have HLL := hid hL
      clear hb hL a0 a1 a2 a3 b0 b1 b2 b3 x0 x1 x2 x3
      go_upto_region 8 with (fail)
      go_cut [11, 12] (fun t11 t12 V => ∃ (a1 : Option Addr) (c1 : Nat), t11 = .slice a1 L.length c1 ∧ t12 = .int .i64 E ∧ Leads V a1 L.length c1 (wcells L) ∧ Below wE.heap.size wE V)
      case first =>
        cases R
        case' true =>
          obtain rfl : 0 = E := HE.out
          obtain rfl : ofW A = L := HLL.out
          have HOF := hid (Of_S A lA pA cA dA uA wE (HSA.out.grow HBE.out) HAok.out (HG.out _ HBWE.out) HR.out)
          unfold scrV at HOF
          go_wp2_with fail
          refine HOF.out.mono ?_
          rintro e w6 ⟨a6, c6, rfl, hl6, hb6⟩
          have HL6 := hid hl6
          have HB6 := hid hb6
          clear hl6 hb6
          go_wp2
          go_meet
          exact ⟨a6, c6, rfl, rfl, HL6.out, HB6.out⟩
        case' false =>
          obtain rfl : 130 = E := HE.out
          obtain rfl : [] = L := HLL.out
          have HOF := hid (Of_no A lA pA cA dA uA wE (HSA.out.grow HBE.out) (by have := HAf.out.1; omega) (fun cs hcs => by have := HAf.out.2 cs hcs; omega) HR.out)
          unfold scrV at HOF
          go_wp2_with fail
          refine HOF.out.mono ?_
          rintro e w6 ⟨rfl, hb6⟩
          have HB6 := hid hb6
          clear hb6
          go_wp2
          go_meet
          exact ⟨none, 0, rfl, rfl, ⟨Nat.le_refl _, Nat.zero_le _, .inl ⟨rfl, rfl⟩⟩, HB6.out⟩
      case rest =>
        obtain ⟨r1, k1, rfl, rfl, hl1, hb⟩ := hcut
        obtain ⟨wF, hwF⟩ : ∃ wF, wF = wc := ⟨_, rfl⟩
        subst hwF
        have HL1 := hid hl1
        have HBF := hid (step HBE.out hb)
        have HB5F := hid (step HB5E.out hb)
        have hl1n := hl1.len
        clear hl1 hb c0 c1 c2 c3
        obtain ⟨c0, c1, c2, c3⟩ := cells4 (keep_laid H7.out HBF.out)
        go_upto_if 58 with (fail)
        go_cut [13, 14] (fun t13 t14 V => ∃ (a2 : Option Addr) (c2 : Nat), t13 = .slice a2 L.length c2 ∧ t14 = .int .i64 E ∧ Leads V a2 L.length c2 (wcells L) ∧ Below wF.heap.size wF V)
        case first =>
          cases R
          case' true =>
            obtain rfl : 0 = E := HE.out
            obtain rfl : ofW A = L := HLL.out
            have HOF := hid (RefWords_any A lA pA cA dA uA wF (HSA.out.grow HBF.out) HAok.out HR.out)
            unfold scrV at HOF
            go_wp2_with fail
            refine HOF.out.mono ?_
            rintro e w6 ⟨a6, c6, rfl, hl6, hb6⟩
            have HL6 := hid hl6
            have HB6 := hid hb6
            clear hl6 hb6
            go_wp2
            go_meet
            exact ⟨a6, c6, rfl, rfl, HL6.out, HB6.out⟩
          case' false =>
            obtain rfl : 130 = E := HE.out
            obtain rfl : [] = L := HLL.out
            go_wp2
            go_meet
            exact ⟨none, 0, rfl, rfl, ⟨Nat.le_refl _, Nat.zero_le _, .inl ⟨rfl, rfl⟩⟩, Below.refl _ _⟩
        case rest =>
          obtain ⟨r2, k2, rfl, rfl, hl2, hb⟩ := hcut
          obtain ⟨wH, hwH⟩ : ∃ wH, wH = wc := ⟨_, rfl⟩
          subst hwH
          have HL2 := hid hl2
          have hl2n := hl2.len
          have HL1H := hid (HL1.out.grow hb)
          have HBH := hid (step HBF.out hb)
          have HB5H := hid (step HB5F.out hb)
          have HBWH := hid (step HBA.out HBH.out)
          have HLEN : Hid (L.length = L.length) := hid rfl
          clear hl2 hb c0 c1 c2 c3
          have H7H := hid (keep_laid H7.out HBH.out)
          have HXH := hid (keep_laid HXA.out HBH.out)
          have a0 : ∀ z : Ext wH, z.v.cell? ⟨Y7, 0, none⟩ = some (.int .i64 A.C) := fun z => (cells4 (keep_laid H7H.out z.b)).1
          have a1 : ∀ z : Ext wH, z.v.cell? ⟨Y7, 1, none⟩ = some (.int .i64 A.P) := fun z => (cells4 (keep_laid H7H.out z.b)).2.1
          have a2 : ∀ z : Ext wH, z.v.cell? ⟨Y7, 2, none⟩ = some (.slice lA A.ls.length cA) := fun z => (cells4 (keep_laid H7H.out z.b)).2.2.1
          have a3 : ∀ z : Ext wH, z.v.cell? ⟨Y7, 3, none⟩ = some (.slice pA A.ps.length dA) := fun z => (cells4 (keep_laid H7H.out z.b)).2.2.2
          have x0 : ∀ z : Ext wH, z.v.cell? ⟨X, 0, none⟩ = some (.int .i64 S.C) := fun z => (cells4 (keep_laid HXH.out z.b)).1
          have x1 : ∀ z : Ext wH, z.v.cell? ⟨X, 1, none⟩ = some (.int .i64 S.P) := fun z => (cells4 (keep_laid HXH.out z.b)).2.1
          have x2 : ∀ z : Ext wH, z.v.cell? ⟨X, 2, none⟩ = some (.slice la S.ls.length lc) := fun z => (cells4 (keep_laid HXH.out z.b)).2.2.1
          have x3 : ∀ z : Ext wH, z.v.cell? ⟨X, 3, none⟩ = some (.slice pa S.ps.length pc) := fun z => (cells4 (keep_laid HXH.out z.b)).2.2.2
          go_upto_region 14 with (fail)
          refine wp_region_mix2 (fun V => ∃ z : Ext wH, V = z.v) 22 (.q 0 (.q 1 (.q 2 (.q 3 (.q 4 (.q 5 (.h 6 (.q 7 (.q 8 (.q 9 (.q 11 (.h 10 (.h 12 (.h 13 (.q 14 (.q 15 (.q 16 (.q 17 (.h 18 (.h 19 (.q 20 (.q 21 (.done))))))))))))))))))))))) (by kernel_rfl) (by kernel_rfl) ⟨⟨_, (Below.refl _ _).drew⟩, rfl⟩ ?_
          repeat (refine wpMix2_q rfl rfl ?_; go_big_quiet_step (fail); refine wpQuiet_nil ?_)
          refine wpMix2_h rfl fun R' hR' hO => ?_
          have hbd : Below wH.heap.size wH wH.drew := (Below.refl _ _).drew
          have HQ1 : Hid (Calls Tryd.prog 16 #[.slice r1 L.length k1, .slice r2 L.length k2] wH.drew (Ret (.bool true) wH.drew)) := hid (by
            have h1 := EqW_any L L r1 r2 L.length L.length k1 k2 wH.drew rfl rfl (HL1H.out.grow hbd) (HL2.out.grow hbd)
            rw [decide_eq_true (rfl : L = L)] at h1
            exact h1)
          go_wp2_with fail
          refine HQ1.out.mono ?_
          rintro e w6 ⟨rfl, hb6⟩
          have hbh6 := step hbd hb6
          go_wp2
          refine hR' _ _ ⟨⟨w6, hbh6⟩, rfl⟩ ?_
          repeat (refine wpMix2_q rfl rfl ?_; go_big_quiet_step (fail); refine wpQuiet_nil ?_)
          refine wpMix2_h rfl fun R' hR' hO => ?_
          go_wp2_with fail
          refine (Runs_any q a m cap w6 HQ.out (by omega) (HL.out.grow (step HBWH.out hbh6))).mono ?_
          rintro e w7 ⟨v7, rfl, ho7, hb7⟩
          obtain ⟨rs, hrs⟩ : ∃ rs, runsL q = rs := ⟨_, rfl⟩
          rw [hrs] at ho7
          obtain ⟨ra, rc, rfl, hl7⟩ := Leads.of_own ho7
          have HL7 := hid hl7
          have hbh7 := step hbh6 hb7
          have HRB : Hid (∀ p ∈ rs, (-9223372036854775808 ≤ p.1 ∧ p.1 ≤ 9223372036854775807) ∧ p.2 ≤ 1000000) := hid (by
            intro p hp
            rw [← hrs] at hp
            have h1 := HQK.out p.1 (runsL_in _ _ p hp)
            have h2 := runs_memL hp
            exact ⟨h1, by omega⟩)
          have HRS := hid hrs
          clear ho7 hl7 hrs
          go_wp2
          refine hR' _ _ ⟨⟨w7, hbh7⟩, rfl⟩ ?_
          refine wpMix2_h rfl fun R' hR' hO => ?_
          go_wp2_with fail
          refine (RefRuns_any q a m cap w7 HQ.out (by omega) (HL.out.grow (step HBWH.out hbh7))).mono ?_
          rintro e w8 ⟨v8, rfl, ho8, hb8⟩
          rw [HRS.out] at ho8
          obtain ⟨ra8, rc8, rfl, hl8⟩ := Leads.of_own ho8
          have hbh8 := step hbh7 hb8
          have HQ2 : Hid (Calls Tryd.prog 23 #[.slice ra rs.length rc, .slice ra8 rs.length rc8] w8 (Ret (.bool true) w8)) := hid (by
            have h1 := EqP_any rs rs ra ra8 rs.length rs.length rc rc8 w8 rfl rfl HRB.out HRB.out (HL7.out.grow hb8) hl8
            rw [decide_eq_true (rfl : rs = rs)] at h1
            exact h1)
          clear ho8 hl8
          go_wp2
          refine hR' _ _ ⟨⟨w8, hbh8⟩, rfl⟩ ?_
          refine wpMix2_h rfl fun R' hR' hO => ?_
          go_wp2_with fail
          refine HQ2.out.mono ?_
          rintro e w9 ⟨rfl, hb9⟩
          have hbh9 := step hbh8 hb9
          go_wp2
          refine hR' _ _ ⟨⟨w9, hbh9⟩, rfl⟩ ?_
          repeat (refine wpMix2_q rfl rfl ?_; go_big_quiet_step (fail); refine wpQuiet_nil ?_)
          refine wpMix2_h rfl fun R' hR' hO => ?_
          go_wp2_with fail
          refine (HOX.out _ (step HBWH.out hbh9)).mono ?_
          rintro e w10 ⟨bs, lS, cS, pS, dS, uS, rfl, hOS, hb10⟩
          have hbh10 := step hbh9 hb10
          have HS3 := hid (RefSame_any A A lA lS pA pS cA cS dA dS uA uS w10 HAok.out HAok.out (HSA.out.grow (step HBH.out hbh10)) hOS.scrL)
          rw [sameS_self] at HS3
          unfold scrV at HS3
          clear hOS
          go_wp2
          refine hR' _ _ ⟨⟨w10, hbh10⟩, rfl⟩ ?_
          refine wpMix2_h rfl fun R' hR' hO => ?_
          go_wp2_with fail
          refine HS3.out.mono ?_
          rintro e w11 ⟨rfl, hb11⟩
          have hbh11 := step hbh10 hb11
          go_wp2
          refine hR' _ _ ⟨⟨w11, hbh11⟩, rfl⟩ ?_
          repeat (refine wpMix2_q rfl rfl ?_; go_big_quiet_step (fail); refine wpQuiet_nil ?_)
          refine wpMix2_done ?_
          simp only [List.drop_succ_cons, List.drop_nil]
          go_wp2
          go_ret
          exact ⟨rfl, step HBWH.out hbh11⟩
end Go.Proofs.YtpehnahmdfoobaaDoor.scriptOf
