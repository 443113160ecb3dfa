/- Lists (printed by gen_ls9.py): a step of who seeks. -/
import Derived.Test.YtipohagcppfgiaaLs8
namespace Go.Proofs.Ytipohagcppfgiaa
open Go.RowKit
open Go.Proofs
set_option linter.unusedVariables false
attribute [local go_sem] Oper.semAt_some

/-- Worlds in which two variables lie so. -/
structure RXS (X S : Nat) (cs cs' : Array Value) where
  w : World
  bx : w.heap[X]? = some (.cells cs 113 (0, 0))
  bs : w.heap[S]? = some (.cells cs' 41 (0, 0))
/-- A step of who seeks: the memory, who seeks, whether there was one. -/
def seekE (M : Mem) (s : Sk) : Mem × Sk × Bool := if 4 ≤ s.ph then (M, s, false) else
  ((stepM M false ((needS s s.ph.toNat : Nat) : Int) 0).1, if (stepM M false ((needS s s.ph.toNat : Nat) : Int) 0).2.2 = true then thenS s (stepM M false ((needS s s.ph.toNat : Nat) : Int) 0).2.1 s.ph.toNat else { s with ph := 5 }, true)
theorem eq_fn (f : Nat) (w : World) : (binOp BinOp.eql 110 (.func (.func f) #[] #[]) .nilFunc).run Try.prog w = .ok (.bool false) w := by kernel_rfl
theorem eq_nil (w : World) : (binOp BinOp.eql 110 .nilFunc .nilFunc).run Try.prog w = .ok (.bool true) w := by kernel_rfl
def GivesSk (B R S n : Nat) (X : Mem × Sk × Bool) (V : World) (e : Ending) (W : World) : Prop := e = .returned (.bool X.2.2) ∧ RunC B R X.1 (if X.2.2 = true then n + 1 else n) W ∧ W.heap[S]? = some (.cells (sk7 X.2.1) 41 (0, 0)) ∧ Tch (fun k => k = R ∨ k = S) V W
set_option maxRecDepth 100000 in
set_option maxHeartbeats 8000000 in
theorem seek0_any (B R S : Nat) (M : Mem) (n : Nat) (s : Sk) (V : World) (h : RunC B R M n V) (hS : V.heap[S]? = some (.cells (sk7 s) 41 (0, 0))) (hB : B ≤ V.heap.size) (hok : okM M = true) (hs : s.Ok) (hph : s.ph = 0) (hn : n ≤ 1000000) :
    Calls Try.prog 57 #[.pointer (some ⟨R, 0, none⟩), .pointer (some ⟨S, 0, none⟩)] V (GivesSk B R S n (seekE M s) V) := by
  obtain ⟨ph, hash, key, link, node, val, found⟩ := s
  obtain rfl : ph = 0 := hph
  have HR := hid h
  have HS := hid hS
  have HSK := hid hs
  have ix := skg_at0
  obtain ⟨TB, hTB⟩ : ∃ T, seekV = T := ⟨_, rfl⟩
  have HTB := hid hTB
  have HSG : Hid (∀ W, Calls Try.prog 55 #[] W (Ret TB W)) := hid (fun W => by rw [← hTB]; exact skg_any W)
  rw [hTB] at ix
  have r0 : ∀ z : Ext V, z.v.cell? ⟨S, 0, none⟩ = some (.int .i64 0) := fun z => cell_laid (keep_laid HS.out z.b) rfl
  have r1 : ∀ z : Ext V, z.v.cell? ⟨S, 1, none⟩ = some (.int .u64 ((hash : Nat) : Int)) := fun z => cell_laid (keep_laid HS.out z.b) rfl
  have r2 : ∀ z : Ext V, z.v.cell? ⟨S, 2, none⟩ = some (.int .u64 ((key : Nat) : Int)) := fun z => cell_laid (keep_laid HS.out z.b) rfl
  have r3 : ∀ z : Ext V, z.v.cell? ⟨S, 3, none⟩ = some (.int .u64 ((link : Nat) : Int)) := fun z => cell_laid (keep_laid HS.out z.b) rfl
  have r4 : ∀ z : Ext V, z.v.cell? ⟨S, 4, none⟩ = some (.int .u64 ((node : Nat) : Int)) := fun z => cell_laid (keep_laid HS.out z.b) rfl
  have r5 : ∀ z : Ext V, z.v.cell? ⟨S, 5, none⟩ = some (.int .u64 ((val : Nat) : Int)) := fun z => cell_laid (keep_laid HS.out z.b) rfl
  have r6 : ∀ z : Ext V, z.v.cell? ⟨S, 6, none⟩ = some (.bool found) := fun z => cell_laid (keep_laid HS.out z.b) rfl
  obtain ⟨D, hD⟩ : ∃ DX, V.drew = DX := ⟨_, rfl⟩
  have hbD : Below V.heap.size V D := by rw [← hD]; exact (Below.refl _ _).drew
  have HD := hid hD
  have HBD := hid hbD
  clear h hS hD hbD hTB hs
  go_enter Try.func57, Try.ntmps57
  go_upto_region 1 with (fail)
  go_cut [5] (fun t5 W => ∃ X : Nat, t5 = .pointer (some ⟨X, 0, none⟩) ∧ Hid (W.heap[X]? = some (.cells #[.func (.func 65) #[] #[], .func (.func 66) #[] #[]] 113 (0, 0)) ∧ Below V.heap.size V W))
  case first =>
    refine wp_region_mix2 (fun W => ∃ z : Ext V, W = z.v) 8 (.q 1 (.q 2 (.q 3 (.q 4 (.h2 0 (.q 5 (.h 6 (.h 7 .done))) 6 (.h 0 (.q 5 (.h 7 .done)))))))) (by kernel_rfl) (by kernel_rfl) (by rw [HD.out]; exact ⟨⟨D, HBD.out⟩, rfl⟩) ?_
    rw [HD.out]
    repeat (refine wpMix2_q rfl rfl ?_; go_big_quiet_step (fail); refine wpQuiet_nil ?_)
    refine wpMix2_h2 ?_ ?_
    · skip
      refine wpMix2_h rfl fun R' hR' hO => ?_
      go_wp2_with fail
      refine (HSG.out D).mono ?_
      rintro e wc_ ⟨rfl, hbc⟩
      have HBc := hid (HBD.out.trans (hbc.mono HBD.out.size))
      clear hbc
      go_wp2
      refine hR' _ _ ⟨⟨wc_, HBc.out⟩, rfl⟩ ?_
      clear hR' hO R'
      repeat (refine wpMix2_q rfl rfl ?_; go_big_quiet_step (fail); refine wpQuiet_nil ?_)
      have HBwc_ := HBc
      refine wpMix2_h rfl fun R' hR' hO => ?_
      obtain ⟨wa_, hwa_, hba, hsa, hla⟩ := laid wc_ #[.nilFunc, .nilFunc] 113
      obtain ⟨X, hX⟩ : ∃ X, wc_.heap.size = X := ⟨_, rfl⟩
      rw [hX] at hla
      have LX := hid (show V.heap.size ≤ X from by have := HBwc_.out.size; omega)
      have HBa := hid (HBwc_.out.trans (hba.mono HBwc_.out.size))
      have HXa := hid hla
      clear hba hsa hla
      go_wp2
      refine hR' _ _ ⟨⟨wa_, HBa.out⟩, rfl⟩ ?_
      clear hR' hO R'
      have HBwa_ := HBa
      have x0 := cell_laid (i := 0) HXa.out rfl
      have xf0 := free_laid (i := 0) HXa.out
      have x1 := cell_laid (i := 1) HXa.out rfl
      have xf1 := free_laid (i := 1) HXa.out
      obtain ⟨u1, hu1⟩ : ∃ U, (wa_.setCell ⟨X, 0, none⟩ (.func (.func 65) #[] #[])).setCell ⟨X, 1, none⟩ (.func (.func 66) #[] #[]) = U := ⟨_, rfl⟩
      have HXu : Hid (u1.heap[X]? = some (.cells #[.func (.func 65) #[] #[], .func (.func 66) #[] #[]] 113 (0, 0))) := hid (by rw [← hu1]; exact set_laid (i := 1) (set_laid (i := 0) HXa.out _) _)
      have HBu : Hid (Below V.heap.size V u1) := hid (by rw [← hu1]; exact (HBwa_.out.setCell (by exact LX.out) _).setCell (by exact LX.out) _)
      have HU1 := hid hu1
      clear hu1
      refine wpMix2_h rfl fun R' hR' hO => ?_
      go_wp2
      rw [HU1.out]
      refine hR' _ _ ⟨⟨u1, HBu.out⟩, rfl⟩ ?_
      clear hR' hO R' x0 xf0 x1 xf1
      refine wpMix2_done ?_
      simp only [List.drop_succ_cons, List.drop_nil]
      go_wp2
      go_meet
      exact ⟨X, rfl, hid ⟨HXu.out, HBu.out⟩⟩
    · skip
      refine wpMix2_h rfl fun R' hR' hO => ?_
      obtain ⟨wa_, hwa_, hba, hsa, hla⟩ := laid D #[.nilFunc, .nilFunc] 113
      obtain ⟨X, hX⟩ : ∃ X, D.heap.size = X := ⟨_, rfl⟩
      rw [hX] at hla
      have LX := hid (show V.heap.size ≤ X from by have := HBD.out.size; omega)
      have HBa := hid (HBD.out.trans (hba.mono HBD.out.size))
      have HXa := hid hla
      clear hba hsa hla
      go_wp2
      refine hR' _ _ ⟨⟨wa_, HBa.out⟩, rfl⟩ ?_
      clear hR' hO R'
      have HBwa_ := HBa
      refine wpMix2_h rfl fun R' hR' hO => ?_
      go_wp2_with fail
      refine (HSG.out wa_).mono ?_
      rintro e wc_ ⟨rfl, hbc⟩
      have HBc := hid (HBwa_.out.trans (hbc.mono HBwa_.out.size))
      have HXc := hid (keep_laid HXa.out hbc)
      clear hbc
      go_wp2
      refine hR' _ _ ⟨⟨wc_, HBc.out⟩, rfl⟩ ?_
      clear hR' hO R'
      repeat (refine wpMix2_q rfl rfl ?_; go_big_quiet_step (fail); refine wpQuiet_nil ?_)
      have HBwc_ := HBc
      have x0 := cell_laid (i := 0) HXc.out rfl
      have xf0 := free_laid (i := 0) HXc.out
      have x1 := cell_laid (i := 1) HXc.out rfl
      have xf1 := free_laid (i := 1) HXc.out
      obtain ⟨u1, hu1⟩ : ∃ U, (wc_.setCell ⟨X, 0, none⟩ (.func (.func 65) #[] #[])).setCell ⟨X, 1, none⟩ (.func (.func 66) #[] #[]) = U := ⟨_, rfl⟩
      have HXu : Hid (u1.heap[X]? = some (.cells #[.func (.func 65) #[] #[], .func (.func 66) #[] #[]] 113 (0, 0))) := hid (by rw [← hu1]; exact set_laid (i := 1) (set_laid (i := 0) HXc.out _) _)
      have HBu : Hid (Below V.heap.size V u1) := hid (by rw [← hu1]; exact (HBwc_.out.setCell (by exact LX.out) _).setCell (by exact LX.out) _)
      have HU1 := hid hu1
      clear hu1
      refine wpMix2_h rfl fun R' hR' hO => ?_
      go_wp2
      rw [HU1.out]
      refine hR' _ _ ⟨⟨u1, HBu.out⟩, rfl⟩ ?_
      clear hR' hO R' x0 xf0 x1 xf1
      refine wpMix2_done ?_
      simp only [List.drop_succ_cons, List.drop_nil]
      go_wp2
      go_meet
      exact ⟨X, rfl, hid ⟨HXu.out, HBu.out⟩⟩
  case rest =>
    obtain ⟨X, rfl, hcc⟩ := hcut
    obtain ⟨w1, hw1⟩ : ∃ W, W = wc := ⟨_, rfl⟩
    subst hw1
    have HX := hid hcc.out.1
    have HR1 := hid (HR.out.grow hcc.out.2)
    have HS1 := hid (keep_laid HS.out hcc.out.2)
    have HT1 := hid (Tch.of_below (P := fun k => k = R ∨ k = S) hcc.out.2)
    have hBw : B ≤ w1.heap.size := Nat.le_trans hB hcc.out.2.size
    have x0 := cell_laid (i := 0) HX.out rfl
    have q1 := eq_fn
    clear hcc
    go_upto_region 4 with (fail)
    obtain ⟨⟨M', x, d⟩, hX⟩ : ∃ X, stepM M false ((posL link 0 : Nat) : Int) 0 = X := ⟨_, rfl⟩
    have HSE : Hid (seekE M ⟨0, hash, key, link, node, val, found⟩ = (M', (if d = true then thenS ⟨0, hash, key, link, node, val, found⟩ x 0 else { (⟨0, hash, key, link, node, val, found⟩ : Sk) with ph := 5 }), true)) := hid (by unfold seekE; rw [if_neg (show ¬ ((4 : Int) ≤ 0) by decide)]; show ((stepM M false ((posL link 0 : Nat) : Int) 0).1, (if (stepM M false ((posL link 0 : Nat) : Int) 0).2.2 = true then thenS ⟨0, hash, key, link, node, val, found⟩ (stepM M false ((posL link 0 : Nat) : Int) 0).2.1 0 else _), true) = _; rw [hX])
    have HAC : Hid (∀ W, RunC B R M n W → B ≤ W.heap.size → Calls Try.prog 75 #[.pointer (some ⟨R, 0, none⟩), .agg #[.int .i64 1, .int .i64 ((posL link 0 : Nat) : Int), .int .u64 0, .int .u64 0]] W (GivesAc B R n (M', x, d) W)) := hid (fun W h1 h2 => by have := access_any B R M n false 1 ((posL link 0 : Nat) : Int) 0 W h1 h2 hok (by unfold posL; omega) rfl hn; rw [hX] at this; exact this)
    obtain ⟨D2, hD2⟩ : ∃ DX, w1.drew = DX := ⟨_, rfl⟩
    have hbD : Below w1.heap.size w1 D2 := by rw [← hD2]; exact (Below.refl _ _).drew
    have HD2 := hid hD2
    have HX2 := hid (keep_laid HX.out hbD)
    have HS2 := hid (keep_laid HS1.out hbD)
    have HR2 := hid (HR1.out.grow hbD)
    have HT2 := hid (HT1.out.trans (Tch.of_below hbD))
    have hB2 := Nat.le_trans hBw hbD.size
    have HND := hid (need0_any ⟨0, hash, key, link, node, val, found⟩ D2 HSK.out)
    unfold skV at HND
    dsimp only at HND
    clear hD2 hbD hX x0 q1
    haveI : Nonempty (RXS X S #[.func (.func 65) #[] #[], .func (.func 66) #[] #[]] (sk7 ⟨0, hash, key, link, node, val, found⟩)) := ⟨⟨D2, HX2.out, HS2.out⟩⟩
    have x0 : ∀ z : RXS X S #[.func (.func 65) #[] #[], .func (.func 66) #[] #[]] (sk7 ⟨0, hash, key, link, node, val, found⟩), z.w.cell? ⟨X, 0, none⟩ = some (.func (.func 65) #[] #[]) := fun z => cell_laid z.bx rfl
    have s0 : ∀ z : RXS X S #[.func (.func 65) #[] #[], .func (.func 66) #[] #[]] (sk7 ⟨0, hash, key, link, node, val, found⟩), z.w.cell? ⟨S, 0, none⟩ = some (.int .i64 0) := fun z => cell_laid z.bs rfl
    have s1 : ∀ z : RXS X S #[.func (.func 65) #[] #[], .func (.func 66) #[] #[]] (sk7 ⟨0, hash, key, link, node, val, found⟩), z.w.cell? ⟨S, 1, none⟩ = some (.int .u64 ((hash : Nat) : Int)) := fun z => cell_laid z.bs rfl
    have s2 : ∀ z : RXS X S #[.func (.func 65) #[] #[], .func (.func 66) #[] #[]] (sk7 ⟨0, hash, key, link, node, val, found⟩), z.w.cell? ⟨S, 2, none⟩ = some (.int .u64 ((key : Nat) : Int)) := fun z => cell_laid z.bs rfl
    have s3 : ∀ z : RXS X S #[.func (.func 65) #[] #[], .func (.func 66) #[] #[]] (sk7 ⟨0, hash, key, link, node, val, found⟩), z.w.cell? ⟨S, 3, none⟩ = some (.int .u64 ((link : Nat) : Int)) := fun z => cell_laid z.bs rfl
    have s4 : ∀ z : RXS X S #[.func (.func 65) #[] #[], .func (.func 66) #[] #[]] (sk7 ⟨0, hash, key, link, node, val, found⟩), z.w.cell? ⟨S, 4, none⟩ = some (.int .u64 ((node : Nat) : Int)) := fun z => cell_laid z.bs rfl
    have s5 : ∀ z : RXS X S #[.func (.func 65) #[] #[], .func (.func 66) #[] #[]] (sk7 ⟨0, hash, key, link, node, val, found⟩), z.w.cell? ⟨S, 5, none⟩ = some (.int .u64 ((val : Nat) : Int)) := fun z => cell_laid z.bs rfl
    have s6 : ∀ z : RXS X S #[.func (.func 65) #[] #[], .func (.func 66) #[] #[]] (sk7 ⟨0, hash, key, link, node, val, found⟩), z.w.cell? ⟨S, 6, none⟩ = some (.bool found) := fun z => cell_laid z.bs rfl
    refine wp_region_mix2 (fun W => ∃ z : RXS X S #[.func (.func 65) #[] #[], .func (.func 66) #[] #[]] (sk7 ⟨0, hash, key, link, node, val, found⟩), W = z.w) 14 (.q 0 (.q 1 (.q 2 (.q 3 (.q 4 (.q 5 (.h 6 (.q 7 (.h 8 (.q 9 (.q 10 (.q 11 (.q 12 (.q 13 .done)))))))))))))) (by kernel_rfl) (by kernel_rfl) (by rw [HD2.out]; exact ⟨⟨D2, HX2.out, HS2.out⟩, rfl⟩) ?_
    rw [HD2.out]
    repeat (refine wpMix2_q rfl rfl ?_; go_big_quiet_step (fail); refine wpQuiet_nil ?_)
    refine wpMix2_h rfl fun R' hR' hO => ?_
    go_wp2_with fail
    refine HND.out.mono ?_
    rintro e v1 ⟨rfl, hb⟩
    have HX3 := hid (keep_laid HX2.out hb)
    have HS3 := hid (keep_laid HS2.out hb)
    have HR3 := hid (HR2.out.grow hb)
    have HT3 := hid (HT2.out.trans (Tch.of_below hb))
    have hB3 := Nat.le_trans hB2 hb.size
    clear hb
    go_wp2
    refine hR' _ _ ⟨⟨v1, HX3.out, HS3.out⟩, rfl⟩ ?_
    clear hR' hO R'
    repeat (refine wpMix2_q rfl rfl ?_; go_big_quiet_step (fail); refine wpQuiet_nil ?_)
    refine wpMix2_h rfl fun R' hR' hO => ?_
    go_wp2_with fail
    refine (HAC.out v1 HR3.out hB3).mono ?_
    rintro e v2 ⟨rfl, hr4, ht4⟩
    have hRX : X ≠ R := by obtain ⟨_, _, _, _, k, _⟩ := HR3.out; exact type_ne HX3.out k (by decide)
    have hRS : S ≠ R := by obtain ⟨_, _, _, _, k, _⟩ := HR3.out; exact type_ne HS3.out k (by decide)
    have HX4 := hid (ht4.keep HX3.out hRX)
    have HS4 := hid (ht4.keep HS3.out hRS)
    have HR4 := hid hr4
    have HT4 := hid (HT3.out.trans (ht4.mono fun k h => .inl h))
    clear hr4 ht4
    go_wp2
    refine hR' _ _ ⟨⟨v2, HX4.out, HS4.out⟩, rfl⟩ ?_
    clear hR' hO R'
    repeat (refine wpMix2_q rfl rfl ?_; go_big_quiet_step (fail); refine wpQuiet_nil ?_)
    refine wpMix2_done ?_
    simp only [List.drop_succ_cons, List.drop_nil]
    clear x0 s0 s1 s2 s3 s4 s5 s6
    cases d with
    | true =>
      have x1 := cell_laid (i := 1) HX4.out rfl
      have HTH := hid (then0_any ⟨0, hash, key, link, node, val, found⟩ S x v2 HS4.out HSK.out)
      go_wp2_with fail
      refine HTH.out.mono ?_
      rintro e v3 ⟨rfl, ht5, hs5⟩
      have HR5 := hid (HR4.out.tch ht5 HS4.out (by decide) (by decide) (by decide))
      have HT5 := hid (HT4.out.trans (ht5.mono fun k h => .inr h))
      have HS5 := hid hs5
      clear ht5 hs5 x1
      go_wp2
      go_ret
      rw [HSE.out]
      exact ⟨rfl, HR5.out, HS5.out, HT5.out⟩
    | false =>
      have y0 := cell_laid (i := 0) HS4.out rfl
      have yf0 := free_laid (i := 0) HS4.out
      go_wp2
      go_ret
      rw [HSE.out]
      exact ⟨rfl, HR4.out.tch (S := S) (Tch.set (P := fun k => k = S) rfl _) HS4.out (by decide) (by decide) (by decide), set_laid (i := 0) HS4.out (.int .i64 5), HT4.out.trans (Tch.set (P := fun k => k = R ∨ k = S) (.inr rfl) _)⟩
set_option maxRecDepth 100000 in
set_option maxHeartbeats 8000000 in
theorem seek1_any (B R S : Nat) (M : Mem) (n : Nat) (s : Sk) (V : World) (h : RunC B R M n V) (hS : V.heap[S]? = some (.cells (sk7 s) 41 (0, 0))) (hB : B ≤ V.heap.size) (hok : okM M = true) (hs : s.Ok) (hph : s.ph = 1) (hn : n ≤ 1000000) :
    Calls Try.prog 57 #[.pointer (some ⟨R, 0, none⟩), .pointer (some ⟨S, 0, none⟩)] V (GivesSk B R S n (seekE M s) V) := by
  obtain ⟨ph, hash, key, link, node, val, found⟩ := s
  obtain rfl : ph = 1 := hph
  have HR := hid h
  have HS := hid hS
  have HSK := hid hs
  have ix := skg_at1
  obtain ⟨TB, hTB⟩ : ∃ T, seekV = T := ⟨_, rfl⟩
  have HTB := hid hTB
  have HSG : Hid (∀ W, Calls Try.prog 55 #[] W (Ret TB W)) := hid (fun W => by rw [← hTB]; exact skg_any W)
  rw [hTB] at ix
  have r0 : ∀ z : Ext V, z.v.cell? ⟨S, 0, none⟩ = some (.int .i64 1) := fun z => cell_laid (keep_laid HS.out z.b) rfl
  have r1 : ∀ z : Ext V, z.v.cell? ⟨S, 1, none⟩ = some (.int .u64 ((hash : Nat) : Int)) := fun z => cell_laid (keep_laid HS.out z.b) rfl
  have r2 : ∀ z : Ext V, z.v.cell? ⟨S, 2, none⟩ = some (.int .u64 ((key : Nat) : Int)) := fun z => cell_laid (keep_laid HS.out z.b) rfl
  have r3 : ∀ z : Ext V, z.v.cell? ⟨S, 3, none⟩ = some (.int .u64 ((link : Nat) : Int)) := fun z => cell_laid (keep_laid HS.out z.b) rfl
  have r4 : ∀ z : Ext V, z.v.cell? ⟨S, 4, none⟩ = some (.int .u64 ((node : Nat) : Int)) := fun z => cell_laid (keep_laid HS.out z.b) rfl
  have r5 : ∀ z : Ext V, z.v.cell? ⟨S, 5, none⟩ = some (.int .u64 ((val : Nat) : Int)) := fun z => cell_laid (keep_laid HS.out z.b) rfl
  have r6 : ∀ z : Ext V, z.v.cell? ⟨S, 6, none⟩ = some (.bool found) := fun z => cell_laid (keep_laid HS.out z.b) rfl
  obtain ⟨D, hD⟩ : ∃ DX, V.drew = DX := ⟨_, rfl⟩
  have hbD : Below V.heap.size V D := by rw [← hD]; exact (Below.refl _ _).drew
  have HD := hid hD
  have HBD := hid hbD
  clear h hS hD hbD hTB hs
  go_enter Try.func57, Try.ntmps57
  go_upto_region 1 with (fail)
  go_cut [5] (fun t5 W => ∃ X : Nat, t5 = .pointer (some ⟨X, 0, none⟩) ∧ Hid (W.heap[X]? = some (.cells #[.func (.func 67) #[] #[], .func (.func 68) #[] #[]] 113 (0, 0)) ∧ Below V.heap.size V W))
  case first =>
    refine wp_region_mix2 (fun W => ∃ z : Ext V, W = z.v) 8 (.q 1 (.q 2 (.q 3 (.q 4 (.h2 0 (.q 5 (.h 6 (.h 7 .done))) 6 (.h 0 (.q 5 (.h 7 .done)))))))) (by kernel_rfl) (by kernel_rfl) (by rw [HD.out]; exact ⟨⟨D, HBD.out⟩, rfl⟩) ?_
    rw [HD.out]
    repeat (refine wpMix2_q rfl rfl ?_; go_big_quiet_step (fail); refine wpQuiet_nil ?_)
    refine wpMix2_h2 ?_ ?_
    · skip
      refine wpMix2_h rfl fun R' hR' hO => ?_
      go_wp2_with fail
      refine (HSG.out D).mono ?_
      rintro e wc_ ⟨rfl, hbc⟩
      have HBc := hid (HBD.out.trans (hbc.mono HBD.out.size))
      clear hbc
      go_wp2
      refine hR' _ _ ⟨⟨wc_, HBc.out⟩, rfl⟩ ?_
      clear hR' hO R'
      repeat (refine wpMix2_q rfl rfl ?_; go_big_quiet_step (fail); refine wpQuiet_nil ?_)
      have HBwc_ := HBc
      refine wpMix2_h rfl fun R' hR' hO => ?_
      obtain ⟨wa_, hwa_, hba, hsa, hla⟩ := laid wc_ #[.nilFunc, .nilFunc] 113
      obtain ⟨X, hX⟩ : ∃ X, wc_.heap.size = X := ⟨_, rfl⟩
      rw [hX] at hla
      have LX := hid (show V.heap.size ≤ X from by have := HBwc_.out.size; omega)
      have HBa := hid (HBwc_.out.trans (hba.mono HBwc_.out.size))
      have HXa := hid hla
      clear hba hsa hla
      go_wp2
      refine hR' _ _ ⟨⟨wa_, HBa.out⟩, rfl⟩ ?_
      clear hR' hO R'
      have HBwa_ := HBa
      have x0 := cell_laid (i := 0) HXa.out rfl
      have xf0 := free_laid (i := 0) HXa.out
      have x1 := cell_laid (i := 1) HXa.out rfl
      have xf1 := free_laid (i := 1) HXa.out
      obtain ⟨u1, hu1⟩ : ∃ U, (wa_.setCell ⟨X, 0, none⟩ (.func (.func 67) #[] #[])).setCell ⟨X, 1, none⟩ (.func (.func 68) #[] #[]) = U := ⟨_, rfl⟩
      have HXu : Hid (u1.heap[X]? = some (.cells #[.func (.func 67) #[] #[], .func (.func 68) #[] #[]] 113 (0, 0))) := hid (by rw [← hu1]; exact set_laid (i := 1) (set_laid (i := 0) HXa.out _) _)
      have HBu : Hid (Below V.heap.size V u1) := hid (by rw [← hu1]; exact (HBwa_.out.setCell (by exact LX.out) _).setCell (by exact LX.out) _)
      have HU1 := hid hu1
      clear hu1
      refine wpMix2_h rfl fun R' hR' hO => ?_
      go_wp2
      rw [HU1.out]
      refine hR' _ _ ⟨⟨u1, HBu.out⟩, rfl⟩ ?_
      clear hR' hO R' x0 xf0 x1 xf1
      refine wpMix2_done ?_
      simp only [List.drop_succ_cons, List.drop_nil]
      go_wp2
      go_meet
      exact ⟨X, rfl, hid ⟨HXu.out, HBu.out⟩⟩
    · skip
      refine wpMix2_h rfl fun R' hR' hO => ?_
      obtain ⟨wa_, hwa_, hba, hsa, hla⟩ := laid D #[.nilFunc, .nilFunc] 113
      obtain ⟨X, hX⟩ : ∃ X, D.heap.size = X := ⟨_, rfl⟩
      rw [hX] at hla
      have LX := hid (show V.heap.size ≤ X from by have := HBD.out.size; omega)
      have HBa := hid (HBD.out.trans (hba.mono HBD.out.size))
      have HXa := hid hla
      clear hba hsa hla
      go_wp2
      refine hR' _ _ ⟨⟨wa_, HBa.out⟩, rfl⟩ ?_
      clear hR' hO R'
      have HBwa_ := HBa
      refine wpMix2_h rfl fun R' hR' hO => ?_
      go_wp2_with fail
      refine (HSG.out wa_).mono ?_
      rintro e wc_ ⟨rfl, hbc⟩
      have HBc := hid (HBwa_.out.trans (hbc.mono HBwa_.out.size))
      have HXc := hid (keep_laid HXa.out hbc)
      clear hbc
      go_wp2
      refine hR' _ _ ⟨⟨wc_, HBc.out⟩, rfl⟩ ?_
      clear hR' hO R'
      repeat (refine wpMix2_q rfl rfl ?_; go_big_quiet_step (fail); refine wpQuiet_nil ?_)
      have HBwc_ := HBc
      have x0 := cell_laid (i := 0) HXc.out rfl
      have xf0 := free_laid (i := 0) HXc.out
      have x1 := cell_laid (i := 1) HXc.out rfl
      have xf1 := free_laid (i := 1) HXc.out
      obtain ⟨u1, hu1⟩ : ∃ U, (wc_.setCell ⟨X, 0, none⟩ (.func (.func 67) #[] #[])).setCell ⟨X, 1, none⟩ (.func (.func 68) #[] #[]) = U := ⟨_, rfl⟩
      have HXu : Hid (u1.heap[X]? = some (.cells #[.func (.func 67) #[] #[], .func (.func 68) #[] #[]] 113 (0, 0))) := hid (by rw [← hu1]; exact set_laid (i := 1) (set_laid (i := 0) HXc.out _) _)
      have HBu : Hid (Below V.heap.size V u1) := hid (by rw [← hu1]; exact (HBwc_.out.setCell (by exact LX.out) _).setCell (by exact LX.out) _)
      have HU1 := hid hu1
      clear hu1
      refine wpMix2_h rfl fun R' hR' hO => ?_
      go_wp2
      rw [HU1.out]
      refine hR' _ _ ⟨⟨u1, HBu.out⟩, rfl⟩ ?_
      clear hR' hO R' x0 xf0 x1 xf1
      refine wpMix2_done ?_
      simp only [List.drop_succ_cons, List.drop_nil]
      go_wp2
      go_meet
      exact ⟨X, rfl, hid ⟨HXu.out, HBu.out⟩⟩
  case rest =>
    obtain ⟨X, rfl, hcc⟩ := hcut
    obtain ⟨w1, hw1⟩ : ∃ W, W = wc := ⟨_, rfl⟩
    subst hw1
    have HX := hid hcc.out.1
    have HR1 := hid (HR.out.grow hcc.out.2)
    have HS1 := hid (keep_laid HS.out hcc.out.2)
    have HT1 := hid (Tch.of_below (P := fun k => k = R ∨ k = S) hcc.out.2)
    have hBw : B ≤ w1.heap.size := Nat.le_trans hB hcc.out.2.size
    have x0 := cell_laid (i := 0) HX.out rfl
    have q1 := eq_fn
    clear hcc
    go_upto_region 4 with (fail)
    obtain ⟨⟨M', x, d⟩, hX⟩ : ∃ X, stepM M false ((posL node 3 : Nat) : Int) 0 = X := ⟨_, rfl⟩
    have HSE : Hid (seekE M ⟨1, hash, key, link, node, val, found⟩ = (M', (if d = true then thenS ⟨1, hash, key, link, node, val, found⟩ x 1 else { (⟨1, hash, key, link, node, val, found⟩ : Sk) with ph := 5 }), true)) := hid (by unfold seekE; rw [if_neg (show ¬ ((4 : Int) ≤ 1) by decide)]; show ((stepM M false ((posL node 3 : Nat) : Int) 0).1, (if (stepM M false ((posL node 3 : Nat) : Int) 0).2.2 = true then thenS ⟨1, hash, key, link, node, val, found⟩ (stepM M false ((posL node 3 : Nat) : Int) 0).2.1 1 else _), true) = _; rw [hX])
    have HAC : Hid (∀ W, RunC B R M n W → B ≤ W.heap.size → Calls Try.prog 75 #[.pointer (some ⟨R, 0, none⟩), .agg #[.int .i64 1, .int .i64 ((posL node 3 : Nat) : Int), .int .u64 0, .int .u64 0]] W (GivesAc B R n (M', x, d) W)) := hid (fun W h1 h2 => by have := access_any B R M n false 1 ((posL node 3 : Nat) : Int) 0 W h1 h2 hok (by unfold posL; omega) rfl hn; rw [hX] at this; exact this)
    obtain ⟨D2, hD2⟩ : ∃ DX, w1.drew = DX := ⟨_, rfl⟩
    have hbD : Below w1.heap.size w1 D2 := by rw [← hD2]; exact (Below.refl _ _).drew
    have HD2 := hid hD2
    have HX2 := hid (keep_laid HX.out hbD)
    have HS2 := hid (keep_laid HS1.out hbD)
    have HR2 := hid (HR1.out.grow hbD)
    have HT2 := hid (HT1.out.trans (Tch.of_below hbD))
    have hB2 := Nat.le_trans hBw hbD.size
    have HND := hid (need1_any ⟨1, hash, key, link, node, val, found⟩ D2 HSK.out)
    unfold skV at HND
    dsimp only at HND
    clear hD2 hbD hX x0 q1
    haveI : Nonempty (RXS X S #[.func (.func 67) #[] #[], .func (.func 68) #[] #[]] (sk7 ⟨1, hash, key, link, node, val, found⟩)) := ⟨⟨D2, HX2.out, HS2.out⟩⟩
    have x0 : ∀ z : RXS X S #[.func (.func 67) #[] #[], .func (.func 68) #[] #[]] (sk7 ⟨1, hash, key, link, node, val, found⟩), z.w.cell? ⟨X, 0, none⟩ = some (.func (.func 67) #[] #[]) := fun z => cell_laid z.bx rfl
    have s0 : ∀ z : RXS X S #[.func (.func 67) #[] #[], .func (.func 68) #[] #[]] (sk7 ⟨1, hash, key, link, node, val, found⟩), z.w.cell? ⟨S, 0, none⟩ = some (.int .i64 1) := fun z => cell_laid z.bs rfl
    have s1 : ∀ z : RXS X S #[.func (.func 67) #[] #[], .func (.func 68) #[] #[]] (sk7 ⟨1, hash, key, link, node, val, found⟩), z.w.cell? ⟨S, 1, none⟩ = some (.int .u64 ((hash : Nat) : Int)) := fun z => cell_laid z.bs rfl
    have s2 : ∀ z : RXS X S #[.func (.func 67) #[] #[], .func (.func 68) #[] #[]] (sk7 ⟨1, hash, key, link, node, val, found⟩), z.w.cell? ⟨S, 2, none⟩ = some (.int .u64 ((key : Nat) : Int)) := fun z => cell_laid z.bs rfl
    have s3 : ∀ z : RXS X S #[.func (.func 67) #[] #[], .func (.func 68) #[] #[]] (sk7 ⟨1, hash, key, link, node, val, found⟩), z.w.cell? ⟨S, 3, none⟩ = some (.int .u64 ((link : Nat) : Int)) := fun z => cell_laid z.bs rfl
    have s4 : ∀ z : RXS X S #[.func (.func 67) #[] #[], .func (.func 68) #[] #[]] (sk7 ⟨1, hash, key, link, node, val, found⟩), z.w.cell? ⟨S, 4, none⟩ = some (.int .u64 ((node : Nat) : Int)) := fun z => cell_laid z.bs rfl
    have s5 : ∀ z : RXS X S #[.func (.func 67) #[] #[], .func (.func 68) #[] #[]] (sk7 ⟨1, hash, key, link, node, val, found⟩), z.w.cell? ⟨S, 5, none⟩ = some (.int .u64 ((val : Nat) : Int)) := fun z => cell_laid z.bs rfl
    have s6 : ∀ z : RXS X S #[.func (.func 67) #[] #[], .func (.func 68) #[] #[]] (sk7 ⟨1, hash, key, link, node, val, found⟩), z.w.cell? ⟨S, 6, none⟩ = some (.bool found) := fun z => cell_laid z.bs rfl
    refine wp_region_mix2 (fun W => ∃ z : RXS X S #[.func (.func 67) #[] #[], .func (.func 68) #[] #[]] (sk7 ⟨1, hash, key, link, node, val, found⟩), W = z.w) 14 (.q 0 (.q 1 (.q 2 (.q 3 (.q 4 (.q 5 (.h 6 (.q 7 (.h 8 (.q 9 (.q 10 (.q 11 (.q 12 (.q 13 .done)))))))))))))) (by kernel_rfl) (by kernel_rfl) (by rw [HD2.out]; exact ⟨⟨D2, HX2.out, HS2.out⟩, rfl⟩) ?_
    rw [HD2.out]
    repeat (refine wpMix2_q rfl rfl ?_; go_big_quiet_step (fail); refine wpQuiet_nil ?_)
    refine wpMix2_h rfl fun R' hR' hO => ?_
    go_wp2_with fail
    refine HND.out.mono ?_
    rintro e v1 ⟨rfl, hb⟩
    have HX3 := hid (keep_laid HX2.out hb)
    have HS3 := hid (keep_laid HS2.out hb)
    have HR3 := hid (HR2.out.grow hb)
    have HT3 := hid (HT2.out.trans (Tch.of_below hb))
    have hB3 := Nat.le_trans hB2 hb.size
    clear hb
    go_wp2
    refine hR' _ _ ⟨⟨v1, HX3.out, HS3.out⟩, rfl⟩ ?_
    clear hR' hO R'
    repeat (refine wpMix2_q rfl rfl ?_; go_big_quiet_step (fail); refine wpQuiet_nil ?_)
    refine wpMix2_h rfl fun R' hR' hO => ?_
    go_wp2_with fail
    refine (HAC.out v1 HR3.out hB3).mono ?_
    rintro e v2 ⟨rfl, hr4, ht4⟩
    have hRX : X ≠ R := by obtain ⟨_, _, _, _, k, _⟩ := HR3.out; exact type_ne HX3.out k (by decide)
    have hRS : S ≠ R := by obtain ⟨_, _, _, _, k, _⟩ := HR3.out; exact type_ne HS3.out k (by decide)
    have HX4 := hid (ht4.keep HX3.out hRX)
    have HS4 := hid (ht4.keep HS3.out hRS)
    have HR4 := hid hr4
    have HT4 := hid (HT3.out.trans (ht4.mono fun k h => .inl h))
    clear hr4 ht4
    go_wp2
    refine hR' _ _ ⟨⟨v2, HX4.out, HS4.out⟩, rfl⟩ ?_
    clear hR' hO R'
    repeat (refine wpMix2_q rfl rfl ?_; go_big_quiet_step (fail); refine wpQuiet_nil ?_)
    refine wpMix2_done ?_
    simp only [List.drop_succ_cons, List.drop_nil]
    clear x0 s0 s1 s2 s3 s4 s5 s6
    cases d with
    | true =>
      have x1 := cell_laid (i := 1) HX4.out rfl
      have HTH := hid (then1_any ⟨1, hash, key, link, node, val, found⟩ S x v2 HS4.out HSK.out)
      go_wp2_with fail
      refine HTH.out.mono ?_
      rintro e v3 ⟨rfl, ht5, hs5⟩
      have HR5 := hid (HR4.out.tch ht5 HS4.out (by decide) (by decide) (by decide))
      have HT5 := hid (HT4.out.trans (ht5.mono fun k h => .inr h))
      have HS5 := hid hs5
      clear ht5 hs5 x1
      go_wp2
      go_ret
      rw [HSE.out]
      exact ⟨rfl, HR5.out, HS5.out, HT5.out⟩
    | false =>
      have y0 := cell_laid (i := 0) HS4.out rfl
      have yf0 := free_laid (i := 0) HS4.out
      go_wp2
      go_ret
      rw [HSE.out]
      exact ⟨rfl, HR4.out.tch (S := S) (Tch.set (P := fun k => k = S) rfl _) HS4.out (by decide) (by decide) (by decide), set_laid (i := 0) HS4.out (.int .i64 5), HT4.out.trans (Tch.set (P := fun k => k = R ∨ k = S) (.inr rfl) _)⟩
set_option maxRecDepth 100000 in
set_option maxHeartbeats 8000000 in
theorem seek2_any (B R S : Nat) (M : Mem) (n : Nat) (s : Sk) (V : World) (h : RunC B R M n V) (hS : V.heap[S]? = some (.cells (sk7 s) 41 (0, 0))) (hB : B ≤ V.heap.size) (hok : okM M = true) (hs : s.Ok) (hph : s.ph = 2) (hn : n ≤ 1000000) :
    Calls Try.prog 57 #[.pointer (some ⟨R, 0, none⟩), .pointer (some ⟨S, 0, none⟩)] V (GivesSk B R S n (seekE M s) V) := by
  obtain ⟨ph, hash, key, link, node, val, found⟩ := s
  obtain rfl : ph = 2 := hph
  have HR := hid h
  have HS := hid hS
  have HSK := hid hs
  have ix := skg_at2
  obtain ⟨TB, hTB⟩ : ∃ T, seekV = T := ⟨_, rfl⟩
  have HTB := hid hTB
  have HSG : Hid (∀ W, Calls Try.prog 55 #[] W (Ret TB W)) := hid (fun W => by rw [← hTB]; exact skg_any W)
  rw [hTB] at ix
  have r0 : ∀ z : Ext V, z.v.cell? ⟨S, 0, none⟩ = some (.int .i64 2) := fun z => cell_laid (keep_laid HS.out z.b) rfl
  have r1 : ∀ z : Ext V, z.v.cell? ⟨S, 1, none⟩ = some (.int .u64 ((hash : Nat) : Int)) := fun z => cell_laid (keep_laid HS.out z.b) rfl
  have r2 : ∀ z : Ext V, z.v.cell? ⟨S, 2, none⟩ = some (.int .u64 ((key : Nat) : Int)) := fun z => cell_laid (keep_laid HS.out z.b) rfl
  have r3 : ∀ z : Ext V, z.v.cell? ⟨S, 3, none⟩ = some (.int .u64 ((link : Nat) : Int)) := fun z => cell_laid (keep_laid HS.out z.b) rfl
  have r4 : ∀ z : Ext V, z.v.cell? ⟨S, 4, none⟩ = some (.int .u64 ((node : Nat) : Int)) := fun z => cell_laid (keep_laid HS.out z.b) rfl
  have r5 : ∀ z : Ext V, z.v.cell? ⟨S, 5, none⟩ = some (.int .u64 ((val : Nat) : Int)) := fun z => cell_laid (keep_laid HS.out z.b) rfl
  have r6 : ∀ z : Ext V, z.v.cell? ⟨S, 6, none⟩ = some (.bool found) := fun z => cell_laid (keep_laid HS.out z.b) rfl
  obtain ⟨D, hD⟩ : ∃ DX, V.drew = DX := ⟨_, rfl⟩
  have hbD : Below V.heap.size V D := by rw [← hD]; exact (Below.refl _ _).drew
  have HD := hid hD
  have HBD := hid hbD
  clear h hS hD hbD hTB hs
  go_enter Try.func57, Try.ntmps57
  go_upto_region 1 with (fail)
  go_cut [5] (fun t5 W => ∃ X : Nat, t5 = .pointer (some ⟨X, 0, none⟩) ∧ Hid (W.heap[X]? = some (.cells #[.func (.func 70) #[] #[], .func (.func 71) #[] #[]] 113 (0, 0)) ∧ Below V.heap.size V W))
  case first =>
    refine wp_region_mix2 (fun W => ∃ z : Ext V, W = z.v) 8 (.q 1 (.q 2 (.q 3 (.q 4 (.h2 0 (.q 5 (.h 6 (.h 7 .done))) 6 (.h 0 (.q 5 (.h 7 .done)))))))) (by kernel_rfl) (by kernel_rfl) (by rw [HD.out]; exact ⟨⟨D, HBD.out⟩, rfl⟩) ?_
    rw [HD.out]
    repeat (refine wpMix2_q rfl rfl ?_; go_big_quiet_step (fail); refine wpQuiet_nil ?_)
    refine wpMix2_h2 ?_ ?_
    · skip
      refine wpMix2_h rfl fun R' hR' hO => ?_
      go_wp2_with fail
      refine (HSG.out D).mono ?_
      rintro e wc_ ⟨rfl, hbc⟩
      have HBc := hid (HBD.out.trans (hbc.mono HBD.out.size))
      clear hbc
      go_wp2
      refine hR' _ _ ⟨⟨wc_, HBc.out⟩, rfl⟩ ?_
      clear hR' hO R'
      repeat (refine wpMix2_q rfl rfl ?_; go_big_quiet_step (fail); refine wpQuiet_nil ?_)
      have HBwc_ := HBc
      refine wpMix2_h rfl fun R' hR' hO => ?_
      obtain ⟨wa_, hwa_, hba, hsa, hla⟩ := laid wc_ #[.nilFunc, .nilFunc] 113
      obtain ⟨X, hX⟩ : ∃ X, wc_.heap.size = X := ⟨_, rfl⟩
      rw [hX] at hla
      have LX := hid (show V.heap.size ≤ X from by have := HBwc_.out.size; omega)
      have HBa := hid (HBwc_.out.trans (hba.mono HBwc_.out.size))
      have HXa := hid hla
      clear hba hsa hla
      go_wp2
      refine hR' _ _ ⟨⟨wa_, HBa.out⟩, rfl⟩ ?_
      clear hR' hO R'
      have HBwa_ := HBa
      have x0 := cell_laid (i := 0) HXa.out rfl
      have xf0 := free_laid (i := 0) HXa.out
      have x1 := cell_laid (i := 1) HXa.out rfl
      have xf1 := free_laid (i := 1) HXa.out
      obtain ⟨u1, hu1⟩ : ∃ U, (wa_.setCell ⟨X, 0, none⟩ (.func (.func 70) #[] #[])).setCell ⟨X, 1, none⟩ (.func (.func 71) #[] #[]) = U := ⟨_, rfl⟩
      have HXu : Hid (u1.heap[X]? = some (.cells #[.func (.func 70) #[] #[], .func (.func 71) #[] #[]] 113 (0, 0))) := hid (by rw [← hu1]; exact set_laid (i := 1) (set_laid (i := 0) HXa.out _) _)
      have HBu : Hid (Below V.heap.size V u1) := hid (by rw [← hu1]; exact (HBwa_.out.setCell (by exact LX.out) _).setCell (by exact LX.out) _)
      have HU1 := hid hu1
      clear hu1
      refine wpMix2_h rfl fun R' hR' hO => ?_
      go_wp2
      rw [HU1.out]
      refine hR' _ _ ⟨⟨u1, HBu.out⟩, rfl⟩ ?_
      clear hR' hO R' x0 xf0 x1 xf1
      refine wpMix2_done ?_
      simp only [List.drop_succ_cons, List.drop_nil]
      go_wp2
      go_meet
      exact ⟨X, rfl, hid ⟨HXu.out, HBu.out⟩⟩
    · skip
      refine wpMix2_h rfl fun R' hR' hO => ?_
      obtain ⟨wa_, hwa_, hba, hsa, hla⟩ := laid D #[.nilFunc, .nilFunc] 113
      obtain ⟨X, hX⟩ : ∃ X, D.heap.size = X := ⟨_, rfl⟩
      rw [hX] at hla
      have LX := hid (show V.heap.size ≤ X from by have := HBD.out.size; omega)
      have HBa := hid (HBD.out.trans (hba.mono HBD.out.size))
      have HXa := hid hla
      clear hba hsa hla
      go_wp2
      refine hR' _ _ ⟨⟨wa_, HBa.out⟩, rfl⟩ ?_
      clear hR' hO R'
      have HBwa_ := HBa
      refine wpMix2_h rfl fun R' hR' hO => ?_
      go_wp2_with fail
      refine (HSG.out wa_).mono ?_
      rintro e wc_ ⟨rfl, hbc⟩
      have HBc := hid (HBwa_.out.trans (hbc.mono HBwa_.out.size))
      have HXc := hid (keep_laid HXa.out hbc)
      clear hbc
      go_wp2
      refine hR' _ _ ⟨⟨wc_, HBc.out⟩, rfl⟩ ?_
      clear hR' hO R'
      repeat (refine wpMix2_q rfl rfl ?_; go_big_quiet_step (fail); refine wpQuiet_nil ?_)
      have HBwc_ := HBc
      have x0 := cell_laid (i := 0) HXc.out rfl
      have xf0 := free_laid (i := 0) HXc.out
      have x1 := cell_laid (i := 1) HXc.out rfl
      have xf1 := free_laid (i := 1) HXc.out
      obtain ⟨u1, hu1⟩ : ∃ U, (wc_.setCell ⟨X, 0, none⟩ (.func (.func 70) #[] #[])).setCell ⟨X, 1, none⟩ (.func (.func 71) #[] #[]) = U := ⟨_, rfl⟩
      have HXu : Hid (u1.heap[X]? = some (.cells #[.func (.func 70) #[] #[], .func (.func 71) #[] #[]] 113 (0, 0))) := hid (by rw [← hu1]; exact set_laid (i := 1) (set_laid (i := 0) HXc.out _) _)
      have HBu : Hid (Below V.heap.size V u1) := hid (by rw [← hu1]; exact (HBwc_.out.setCell (by exact LX.out) _).setCell (by exact LX.out) _)
      have HU1 := hid hu1
      clear hu1
      refine wpMix2_h rfl fun R' hR' hO => ?_
      go_wp2
      rw [HU1.out]
      refine hR' _ _ ⟨⟨u1, HBu.out⟩, rfl⟩ ?_
      clear hR' hO R' x0 xf0 x1 xf1
      refine wpMix2_done ?_
      simp only [List.drop_succ_cons, List.drop_nil]
      go_wp2
      go_meet
      exact ⟨X, rfl, hid ⟨HXu.out, HBu.out⟩⟩
  case rest =>
    obtain ⟨X, rfl, hcc⟩ := hcut
    obtain ⟨w1, hw1⟩ : ∃ W, W = wc := ⟨_, rfl⟩
    subst hw1
    have HX := hid hcc.out.1
    have HR1 := hid (HR.out.grow hcc.out.2)
    have HS1 := hid (keep_laid HS.out hcc.out.2)
    have HT1 := hid (Tch.of_below (P := fun k => k = R ∨ k = S) hcc.out.2)
    have hBw : B ≤ w1.heap.size := Nat.le_trans hB hcc.out.2.size
    have x0 := cell_laid (i := 0) HX.out rfl
    have q1 := eq_fn
    clear hcc
    go_upto_region 4 with (fail)
    obtain ⟨⟨M', x, d⟩, hX⟩ : ∃ X, stepM M false ((posL node 0 : Nat) : Int) 0 = X := ⟨_, rfl⟩
    have HSE : Hid (seekE M ⟨2, hash, key, link, node, val, found⟩ = (M', (if d = true then thenS ⟨2, hash, key, link, node, val, found⟩ x 2 else { (⟨2, hash, key, link, node, val, found⟩ : Sk) with ph := 5 }), true)) := hid (by unfold seekE; rw [if_neg (show ¬ ((4 : Int) ≤ 2) by decide)]; show ((stepM M false ((posL node 0 : Nat) : Int) 0).1, (if (stepM M false ((posL node 0 : Nat) : Int) 0).2.2 = true then thenS ⟨2, hash, key, link, node, val, found⟩ (stepM M false ((posL node 0 : Nat) : Int) 0).2.1 2 else _), true) = _; rw [hX])
    have HAC : Hid (∀ W, RunC B R M n W → B ≤ W.heap.size → Calls Try.prog 75 #[.pointer (some ⟨R, 0, none⟩), .agg #[.int .i64 1, .int .i64 ((posL node 0 : Nat) : Int), .int .u64 0, .int .u64 0]] W (GivesAc B R n (M', x, d) W)) := hid (fun W h1 h2 => by have := access_any B R M n false 1 ((posL node 0 : Nat) : Int) 0 W h1 h2 hok (by unfold posL; omega) rfl hn; rw [hX] at this; exact this)
    obtain ⟨D2, hD2⟩ : ∃ DX, w1.drew = DX := ⟨_, rfl⟩
    have hbD : Below w1.heap.size w1 D2 := by rw [← hD2]; exact (Below.refl _ _).drew
    have HD2 := hid hD2
    have HX2 := hid (keep_laid HX.out hbD)
    have HS2 := hid (keep_laid HS1.out hbD)
    have HR2 := hid (HR1.out.grow hbD)
    have HT2 := hid (HT1.out.trans (Tch.of_below hbD))
    have hB2 := Nat.le_trans hBw hbD.size
    have HND := hid (need2_any ⟨2, hash, key, link, node, val, found⟩ D2 HSK.out)
    unfold skV at HND
    dsimp only at HND
    clear hD2 hbD hX x0 q1
    haveI : Nonempty (RXS X S #[.func (.func 70) #[] #[], .func (.func 71) #[] #[]] (sk7 ⟨2, hash, key, link, node, val, found⟩)) := ⟨⟨D2, HX2.out, HS2.out⟩⟩
    have x0 : ∀ z : RXS X S #[.func (.func 70) #[] #[], .func (.func 71) #[] #[]] (sk7 ⟨2, hash, key, link, node, val, found⟩), z.w.cell? ⟨X, 0, none⟩ = some (.func (.func 70) #[] #[]) := fun z => cell_laid z.bx rfl
    have s0 : ∀ z : RXS X S #[.func (.func 70) #[] #[], .func (.func 71) #[] #[]] (sk7 ⟨2, hash, key, link, node, val, found⟩), z.w.cell? ⟨S, 0, none⟩ = some (.int .i64 2) := fun z => cell_laid z.bs rfl
    have s1 : ∀ z : RXS X S #[.func (.func 70) #[] #[], .func (.func 71) #[] #[]] (sk7 ⟨2, hash, key, link, node, val, found⟩), z.w.cell? ⟨S, 1, none⟩ = some (.int .u64 ((hash : Nat) : Int)) := fun z => cell_laid z.bs rfl
    have s2 : ∀ z : RXS X S #[.func (.func 70) #[] #[], .func (.func 71) #[] #[]] (sk7 ⟨2, hash, key, link, node, val, found⟩), z.w.cell? ⟨S, 2, none⟩ = some (.int .u64 ((key : Nat) : Int)) := fun z => cell_laid z.bs rfl
    have s3 : ∀ z : RXS X S #[.func (.func 70) #[] #[], .func (.func 71) #[] #[]] (sk7 ⟨2, hash, key, link, node, val, found⟩), z.w.cell? ⟨S, 3, none⟩ = some (.int .u64 ((link : Nat) : Int)) := fun z => cell_laid z.bs rfl
    have s4 : ∀ z : RXS X S #[.func (.func 70) #[] #[], .func (.func 71) #[] #[]] (sk7 ⟨2, hash, key, link, node, val, found⟩), z.w.cell? ⟨S, 4, none⟩ = some (.int .u64 ((node : Nat) : Int)) := fun z => cell_laid z.bs rfl
    have s5 : ∀ z : RXS X S #[.func (.func 70) #[] #[], .func (.func 71) #[] #[]] (sk7 ⟨2, hash, key, link, node, val, found⟩), z.w.cell? ⟨S, 5, none⟩ = some (.int .u64 ((val : Nat) : Int)) := fun z => cell_laid z.bs rfl
    have s6 : ∀ z : RXS X S #[.func (.func 70) #[] #[], .func (.func 71) #[] #[]] (sk7 ⟨2, hash, key, link, node, val, found⟩), z.w.cell? ⟨S, 6, none⟩ = some (.bool found) := fun z => cell_laid z.bs rfl
    refine wp_region_mix2 (fun W => ∃ z : RXS X S #[.func (.func 70) #[] #[], .func (.func 71) #[] #[]] (sk7 ⟨2, hash, key, link, node, val, found⟩), W = z.w) 14 (.q 0 (.q 1 (.q 2 (.q 3 (.q 4 (.q 5 (.h 6 (.q 7 (.h 8 (.q 9 (.q 10 (.q 11 (.q 12 (.q 13 .done)))))))))))))) (by kernel_rfl) (by kernel_rfl) (by rw [HD2.out]; exact ⟨⟨D2, HX2.out, HS2.out⟩, rfl⟩) ?_
    rw [HD2.out]
    repeat (refine wpMix2_q rfl rfl ?_; go_big_quiet_step (fail); refine wpQuiet_nil ?_)
    refine wpMix2_h rfl fun R' hR' hO => ?_
    go_wp2_with fail
    refine HND.out.mono ?_
    rintro e v1 ⟨rfl, hb⟩
    have HX3 := hid (keep_laid HX2.out hb)
    have HS3 := hid (keep_laid HS2.out hb)
    have HR3 := hid (HR2.out.grow hb)
    have HT3 := hid (HT2.out.trans (Tch.of_below hb))
    have hB3 := Nat.le_trans hB2 hb.size
    clear hb
    go_wp2
    refine hR' _ _ ⟨⟨v1, HX3.out, HS3.out⟩, rfl⟩ ?_
    clear hR' hO R'
    repeat (refine wpMix2_q rfl rfl ?_; go_big_quiet_step (fail); refine wpQuiet_nil ?_)
    refine wpMix2_h rfl fun R' hR' hO => ?_
    go_wp2_with fail
    refine (HAC.out v1 HR3.out hB3).mono ?_
    rintro e v2 ⟨rfl, hr4, ht4⟩
    have hRX : X ≠ R := by obtain ⟨_, _, _, _, k, _⟩ := HR3.out; exact type_ne HX3.out k (by decide)
    have hRS : S ≠ R := by obtain ⟨_, _, _, _, k, _⟩ := HR3.out; exact type_ne HS3.out k (by decide)
    have HX4 := hid (ht4.keep HX3.out hRX)
    have HS4 := hid (ht4.keep HS3.out hRS)
    have HR4 := hid hr4
    have HT4 := hid (HT3.out.trans (ht4.mono fun k h => .inl h))
    clear hr4 ht4
    go_wp2
    refine hR' _ _ ⟨⟨v2, HX4.out, HS4.out⟩, rfl⟩ ?_
    clear hR' hO R'
    repeat (refine wpMix2_q rfl rfl ?_; go_big_quiet_step (fail); refine wpQuiet_nil ?_)
    refine wpMix2_done ?_
    simp only [List.drop_succ_cons, List.drop_nil]
    clear x0 s0 s1 s2 s3 s4 s5 s6
    cases d with
    | true =>
      have x1 := cell_laid (i := 1) HX4.out rfl
      have HTH := hid (then2_any ⟨2, hash, key, link, node, val, found⟩ S x v2 HS4.out HSK.out)
      go_wp2_with fail
      refine HTH.out.mono ?_
      rintro e v3 ⟨rfl, ht5, hs5⟩
      have HR5 := hid (HR4.out.tch ht5 HS4.out (by decide) (by decide) (by decide))
      have HT5 := hid (HT4.out.trans (ht5.mono fun k h => .inr h))
      have HS5 := hid hs5
      clear ht5 hs5 x1
      go_wp2
      go_ret
      rw [HSE.out]
      exact ⟨rfl, HR5.out, HS5.out, HT5.out⟩
    | false =>
      have y0 := cell_laid (i := 0) HS4.out rfl
      have yf0 := free_laid (i := 0) HS4.out
      go_wp2
      go_ret
      rw [HSE.out]
      exact ⟨rfl, HR4.out.tch (S := S) (Tch.set (P := fun k => k = S) rfl _) HS4.out (by decide) (by decide) (by decide), set_laid (i := 0) HS4.out (.int .i64 5), HT4.out.trans (Tch.set (P := fun k => k = R ∨ k = S) (.inr rfl) _)⟩
set_option maxRecDepth 100000 in
set_option maxHeartbeats 8000000 in
theorem seek3_any (B R S : Nat) (M : Mem) (n : Nat) (s : Sk) (V : World) (h : RunC B R M n V) (hS : V.heap[S]? = some (.cells (sk7 s) 41 (0, 0))) (hB : B ≤ V.heap.size) (hok : okM M = true) (hs : s.Ok) (hph : s.ph = 3) (hn : n ≤ 1000000) :
    Calls Try.prog 57 #[.pointer (some ⟨R, 0, none⟩), .pointer (some ⟨S, 0, none⟩)] V (GivesSk B R S n (seekE M s) V) := by
  obtain ⟨ph, hash, key, link, node, val, found⟩ := s
  obtain rfl : ph = 3 := hph
  have HR := hid h
  have HS := hid hS
  have HSK := hid hs
  have ix := skg_at3
  obtain ⟨TB, hTB⟩ : ∃ T, seekV = T := ⟨_, rfl⟩
  have HTB := hid hTB
  have HSG : Hid (∀ W, Calls Try.prog 55 #[] W (Ret TB W)) := hid (fun W => by rw [← hTB]; exact skg_any W)
  rw [hTB] at ix
  have r0 : ∀ z : Ext V, z.v.cell? ⟨S, 0, none⟩ = some (.int .i64 3) := fun z => cell_laid (keep_laid HS.out z.b) rfl
  have r1 : ∀ z : Ext V, z.v.cell? ⟨S, 1, none⟩ = some (.int .u64 ((hash : Nat) : Int)) := fun z => cell_laid (keep_laid HS.out z.b) rfl
  have r2 : ∀ z : Ext V, z.v.cell? ⟨S, 2, none⟩ = some (.int .u64 ((key : Nat) : Int)) := fun z => cell_laid (keep_laid HS.out z.b) rfl
  have r3 : ∀ z : Ext V, z.v.cell? ⟨S, 3, none⟩ = some (.int .u64 ((link : Nat) : Int)) := fun z => cell_laid (keep_laid HS.out z.b) rfl
  have r4 : ∀ z : Ext V, z.v.cell? ⟨S, 4, none⟩ = some (.int .u64 ((node : Nat) : Int)) := fun z => cell_laid (keep_laid HS.out z.b) rfl
  have r5 : ∀ z : Ext V, z.v.cell? ⟨S, 5, none⟩ = some (.int .u64 ((val : Nat) : Int)) := fun z => cell_laid (keep_laid HS.out z.b) rfl
  have r6 : ∀ z : Ext V, z.v.cell? ⟨S, 6, none⟩ = some (.bool found) := fun z => cell_laid (keep_laid HS.out z.b) rfl
  obtain ⟨D, hD⟩ : ∃ DX, V.drew = DX := ⟨_, rfl⟩
  have hbD : Below V.heap.size V D := by rw [← hD]; exact (Below.refl _ _).drew
  have HD := hid hD
  have HBD := hid hbD
  clear h hS hD hbD hTB hs
  go_enter Try.func57, Try.ntmps57
  go_upto_region 1 with (fail)
  go_cut [5] (fun t5 W => ∃ X : Nat, t5 = .pointer (some ⟨X, 0, none⟩) ∧ Hid (W.heap[X]? = some (.cells #[.func (.func 72) #[] #[], .func (.func 73) #[] #[]] 113 (0, 0)) ∧ Below V.heap.size V W))
  case first =>
    refine wp_region_mix2 (fun W => ∃ z : Ext V, W = z.v) 8 (.q 1 (.q 2 (.q 3 (.q 4 (.h2 0 (.q 5 (.h 6 (.h 7 .done))) 6 (.h 0 (.q 5 (.h 7 .done)))))))) (by kernel_rfl) (by kernel_rfl) (by rw [HD.out]; exact ⟨⟨D, HBD.out⟩, rfl⟩) ?_
    rw [HD.out]
    repeat (refine wpMix2_q rfl rfl ?_; go_big_quiet_step (fail); refine wpQuiet_nil ?_)
    refine wpMix2_h2 ?_ ?_
    · skip
      refine wpMix2_h rfl fun R' hR' hO => ?_
      go_wp2_with fail
      refine (HSG.out D).mono ?_
      rintro e wc_ ⟨rfl, hbc⟩
      have HBc := hid (HBD.out.trans (hbc.mono HBD.out.size))
      clear hbc
      go_wp2
      refine hR' _ _ ⟨⟨wc_, HBc.out⟩, rfl⟩ ?_
      clear hR' hO R'
      repeat (refine wpMix2_q rfl rfl ?_; go_big_quiet_step (fail); refine wpQuiet_nil ?_)
      have HBwc_ := HBc
      refine wpMix2_h rfl fun R' hR' hO => ?_
      obtain ⟨wa_, hwa_, hba, hsa, hla⟩ := laid wc_ #[.nilFunc, .nilFunc] 113
      obtain ⟨X, hX⟩ : ∃ X, wc_.heap.size = X := ⟨_, rfl⟩
      rw [hX] at hla
      have LX := hid (show V.heap.size ≤ X from by have := HBwc_.out.size; omega)
      have HBa := hid (HBwc_.out.trans (hba.mono HBwc_.out.size))
      have HXa := hid hla
      clear hba hsa hla
      go_wp2
      refine hR' _ _ ⟨⟨wa_, HBa.out⟩, rfl⟩ ?_
      clear hR' hO R'
      have HBwa_ := HBa
      have x0 := cell_laid (i := 0) HXa.out rfl
      have xf0 := free_laid (i := 0) HXa.out
      have x1 := cell_laid (i := 1) HXa.out rfl
      have xf1 := free_laid (i := 1) HXa.out
      obtain ⟨u1, hu1⟩ : ∃ U, (wa_.setCell ⟨X, 0, none⟩ (.func (.func 72) #[] #[])).setCell ⟨X, 1, none⟩ (.func (.func 73) #[] #[]) = U := ⟨_, rfl⟩
      have HXu : Hid (u1.heap[X]? = some (.cells #[.func (.func 72) #[] #[], .func (.func 73) #[] #[]] 113 (0, 0))) := hid (by rw [← hu1]; exact set_laid (i := 1) (set_laid (i := 0) HXa.out _) _)
      have HBu : Hid (Below V.heap.size V u1) := hid (by rw [← hu1]; exact (HBwa_.out.setCell (by exact LX.out) _).setCell (by exact LX.out) _)
      have HU1 := hid hu1
      clear hu1
      refine wpMix2_h rfl fun R' hR' hO => ?_
      go_wp2
      rw [HU1.out]
      refine hR' _ _ ⟨⟨u1, HBu.out⟩, rfl⟩ ?_
      clear hR' hO R' x0 xf0 x1 xf1
      refine wpMix2_done ?_
      simp only [List.drop_succ_cons, List.drop_nil]
      go_wp2
      go_meet
      exact ⟨X, rfl, hid ⟨HXu.out, HBu.out⟩⟩
    · skip
      refine wpMix2_h rfl fun R' hR' hO => ?_
      obtain ⟨wa_, hwa_, hba, hsa, hla⟩ := laid D #[.nilFunc, .nilFunc] 113
      obtain ⟨X, hX⟩ : ∃ X, D.heap.size = X := ⟨_, rfl⟩
      rw [hX] at hla
      have LX := hid (show V.heap.size ≤ X from by have := HBD.out.size; omega)
      have HBa := hid (HBD.out.trans (hba.mono HBD.out.size))
      have HXa := hid hla
      clear hba hsa hla
      go_wp2
      refine hR' _ _ ⟨⟨wa_, HBa.out⟩, rfl⟩ ?_
      clear hR' hO R'
      have HBwa_ := HBa
      refine wpMix2_h rfl fun R' hR' hO => ?_
      go_wp2_with fail
      refine (HSG.out wa_).mono ?_
      rintro e wc_ ⟨rfl, hbc⟩
      have HBc := hid (HBwa_.out.trans (hbc.mono HBwa_.out.size))
      have HXc := hid (keep_laid HXa.out hbc)
      clear hbc
      go_wp2
      refine hR' _ _ ⟨⟨wc_, HBc.out⟩, rfl⟩ ?_
      clear hR' hO R'
      repeat (refine wpMix2_q rfl rfl ?_; go_big_quiet_step (fail); refine wpQuiet_nil ?_)
      have HBwc_ := HBc
      have x0 := cell_laid (i := 0) HXc.out rfl
      have xf0 := free_laid (i := 0) HXc.out
      have x1 := cell_laid (i := 1) HXc.out rfl
      have xf1 := free_laid (i := 1) HXc.out
      obtain ⟨u1, hu1⟩ : ∃ U, (wc_.setCell ⟨X, 0, none⟩ (.func (.func 72) #[] #[])).setCell ⟨X, 1, none⟩ (.func (.func 73) #[] #[]) = U := ⟨_, rfl⟩
      have HXu : Hid (u1.heap[X]? = some (.cells #[.func (.func 72) #[] #[], .func (.func 73) #[] #[]] 113 (0, 0))) := hid (by rw [← hu1]; exact set_laid (i := 1) (set_laid (i := 0) HXc.out _) _)
      have HBu : Hid (Below V.heap.size V u1) := hid (by rw [← hu1]; exact (HBwc_.out.setCell (by exact LX.out) _).setCell (by exact LX.out) _)
      have HU1 := hid hu1
      clear hu1
      refine wpMix2_h rfl fun R' hR' hO => ?_
      go_wp2
      rw [HU1.out]
      refine hR' _ _ ⟨⟨u1, HBu.out⟩, rfl⟩ ?_
      clear hR' hO R' x0 xf0 x1 xf1
      refine wpMix2_done ?_
      simp only [List.drop_succ_cons, List.drop_nil]
      go_wp2
      go_meet
      exact ⟨X, rfl, hid ⟨HXu.out, HBu.out⟩⟩
  case rest =>
    obtain ⟨X, rfl, hcc⟩ := hcut
    obtain ⟨w1, hw1⟩ : ∃ W, W = wc := ⟨_, rfl⟩
    subst hw1
    have HX := hid hcc.out.1
    have HR1 := hid (HR.out.grow hcc.out.2)
    have HS1 := hid (keep_laid HS.out hcc.out.2)
    have HT1 := hid (Tch.of_below (P := fun k => k = R ∨ k = S) hcc.out.2)
    have hBw : B ≤ w1.heap.size := Nat.le_trans hB hcc.out.2.size
    have x0 := cell_laid (i := 0) HX.out rfl
    have q1 := eq_fn
    clear hcc
    go_upto_region 4 with (fail)
    obtain ⟨⟨M', x, d⟩, hX⟩ : ∃ X, stepM M false ((posL node 1 : Nat) : Int) 0 = X := ⟨_, rfl⟩
    have HSE : Hid (seekE M ⟨3, hash, key, link, node, val, found⟩ = (M', (if d = true then thenS ⟨3, hash, key, link, node, val, found⟩ x 3 else { (⟨3, hash, key, link, node, val, found⟩ : Sk) with ph := 5 }), true)) := hid (by unfold seekE; rw [if_neg (show ¬ ((4 : Int) ≤ 3) by decide)]; show ((stepM M false ((posL node 1 : Nat) : Int) 0).1, (if (stepM M false ((posL node 1 : Nat) : Int) 0).2.2 = true then thenS ⟨3, hash, key, link, node, val, found⟩ (stepM M false ((posL node 1 : Nat) : Int) 0).2.1 3 else _), true) = _; rw [hX])
    have HAC : Hid (∀ W, RunC B R M n W → B ≤ W.heap.size → Calls Try.prog 75 #[.pointer (some ⟨R, 0, none⟩), .agg #[.int .i64 1, .int .i64 ((posL node 1 : Nat) : Int), .int .u64 0, .int .u64 0]] W (GivesAc B R n (M', x, d) W)) := hid (fun W h1 h2 => by have := access_any B R M n false 1 ((posL node 1 : Nat) : Int) 0 W h1 h2 hok (by unfold posL; omega) rfl hn; rw [hX] at this; exact this)
    obtain ⟨D2, hD2⟩ : ∃ DX, w1.drew = DX := ⟨_, rfl⟩
    have hbD : Below w1.heap.size w1 D2 := by rw [← hD2]; exact (Below.refl _ _).drew
    have HD2 := hid hD2
    have HX2 := hid (keep_laid HX.out hbD)
    have HS2 := hid (keep_laid HS1.out hbD)
    have HR2 := hid (HR1.out.grow hbD)
    have HT2 := hid (HT1.out.trans (Tch.of_below hbD))
    have hB2 := Nat.le_trans hBw hbD.size
    have HND := hid (need3_any ⟨3, hash, key, link, node, val, found⟩ D2 HSK.out)
    unfold skV at HND
    dsimp only at HND
    clear hD2 hbD hX x0 q1
    haveI : Nonempty (RXS X S #[.func (.func 72) #[] #[], .func (.func 73) #[] #[]] (sk7 ⟨3, hash, key, link, node, val, found⟩)) := ⟨⟨D2, HX2.out, HS2.out⟩⟩
    have x0 : ∀ z : RXS X S #[.func (.func 72) #[] #[], .func (.func 73) #[] #[]] (sk7 ⟨3, hash, key, link, node, val, found⟩), z.w.cell? ⟨X, 0, none⟩ = some (.func (.func 72) #[] #[]) := fun z => cell_laid z.bx rfl
    have s0 : ∀ z : RXS X S #[.func (.func 72) #[] #[], .func (.func 73) #[] #[]] (sk7 ⟨3, hash, key, link, node, val, found⟩), z.w.cell? ⟨S, 0, none⟩ = some (.int .i64 3) := fun z => cell_laid z.bs rfl
    have s1 : ∀ z : RXS X S #[.func (.func 72) #[] #[], .func (.func 73) #[] #[]] (sk7 ⟨3, hash, key, link, node, val, found⟩), z.w.cell? ⟨S, 1, none⟩ = some (.int .u64 ((hash : Nat) : Int)) := fun z => cell_laid z.bs rfl
    have s2 : ∀ z : RXS X S #[.func (.func 72) #[] #[], .func (.func 73) #[] #[]] (sk7 ⟨3, hash, key, link, node, val, found⟩), z.w.cell? ⟨S, 2, none⟩ = some (.int .u64 ((key : Nat) : Int)) := fun z => cell_laid z.bs rfl
    have s3 : ∀ z : RXS X S #[.func (.func 72) #[] #[], .func (.func 73) #[] #[]] (sk7 ⟨3, hash, key, link, node, val, found⟩), z.w.cell? ⟨S, 3, none⟩ = some (.int .u64 ((link : Nat) : Int)) := fun z => cell_laid z.bs rfl
    have s4 : ∀ z : RXS X S #[.func (.func 72) #[] #[], .func (.func 73) #[] #[]] (sk7 ⟨3, hash, key, link, node, val, found⟩), z.w.cell? ⟨S, 4, none⟩ = some (.int .u64 ((node : Nat) : Int)) := fun z => cell_laid z.bs rfl
    have s5 : ∀ z : RXS X S #[.func (.func 72) #[] #[], .func (.func 73) #[] #[]] (sk7 ⟨3, hash, key, link, node, val, found⟩), z.w.cell? ⟨S, 5, none⟩ = some (.int .u64 ((val : Nat) : Int)) := fun z => cell_laid z.bs rfl
    have s6 : ∀ z : RXS X S #[.func (.func 72) #[] #[], .func (.func 73) #[] #[]] (sk7 ⟨3, hash, key, link, node, val, found⟩), z.w.cell? ⟨S, 6, none⟩ = some (.bool found) := fun z => cell_laid z.bs rfl
    refine wp_region_mix2 (fun W => ∃ z : RXS X S #[.func (.func 72) #[] #[], .func (.func 73) #[] #[]] (sk7 ⟨3, hash, key, link, node, val, found⟩), W = z.w) 14 (.q 0 (.q 1 (.q 2 (.q 3 (.q 4 (.q 5 (.h 6 (.q 7 (.h 8 (.q 9 (.q 10 (.q 11 (.q 12 (.q 13 .done)))))))))))))) (by kernel_rfl) (by kernel_rfl) (by rw [HD2.out]; exact ⟨⟨D2, HX2.out, HS2.out⟩, rfl⟩) ?_
    rw [HD2.out]
    repeat (refine wpMix2_q rfl rfl ?_; go_big_quiet_step (fail); refine wpQuiet_nil ?_)
    refine wpMix2_h rfl fun R' hR' hO => ?_
    go_wp2_with fail
    refine HND.out.mono ?_
    rintro e v1 ⟨rfl, hb⟩
    have HX3 := hid (keep_laid HX2.out hb)
    have HS3 := hid (keep_laid HS2.out hb)
    have HR3 := hid (HR2.out.grow hb)
    have HT3 := hid (HT2.out.trans (Tch.of_below hb))
    have hB3 := Nat.le_trans hB2 hb.size
    clear hb
    go_wp2
    refine hR' _ _ ⟨⟨v1, HX3.out, HS3.out⟩, rfl⟩ ?_
    clear hR' hO R'
    repeat (refine wpMix2_q rfl rfl ?_; go_big_quiet_step (fail); refine wpQuiet_nil ?_)
    refine wpMix2_h rfl fun R' hR' hO => ?_
    go_wp2_with fail
    refine (HAC.out v1 HR3.out hB3).mono ?_
    rintro e v2 ⟨rfl, hr4, ht4⟩
    have hRX : X ≠ R := by obtain ⟨_, _, _, _, k, _⟩ := HR3.out; exact type_ne HX3.out k (by decide)
    have hRS : S ≠ R := by obtain ⟨_, _, _, _, k, _⟩ := HR3.out; exact type_ne HS3.out k (by decide)
    have HX4 := hid (ht4.keep HX3.out hRX)
    have HS4 := hid (ht4.keep HS3.out hRS)
    have HR4 := hid hr4
    have HT4 := hid (HT3.out.trans (ht4.mono fun k h => .inl h))
    clear hr4 ht4
    go_wp2
    refine hR' _ _ ⟨⟨v2, HX4.out, HS4.out⟩, rfl⟩ ?_
    clear hR' hO R'
    repeat (refine wpMix2_q rfl rfl ?_; go_big_quiet_step (fail); refine wpQuiet_nil ?_)
    refine wpMix2_done ?_
    simp only [List.drop_succ_cons, List.drop_nil]
    clear x0 s0 s1 s2 s3 s4 s5 s6
    cases d with
    | true =>
      have x1 := cell_laid (i := 1) HX4.out rfl
      have HTH := hid (then3_any ⟨3, hash, key, link, node, val, found⟩ S x v2 HS4.out HSK.out)
      go_wp2_with fail
      refine HTH.out.mono ?_
      rintro e v3 ⟨rfl, ht5, hs5⟩
      have HR5 := hid (HR4.out.tch ht5 HS4.out (by decide) (by decide) (by decide))
      have HT5 := hid (HT4.out.trans (ht5.mono fun k h => .inr h))
      have HS5 := hid hs5
      clear ht5 hs5 x1
      go_wp2
      go_ret
      rw [HSE.out]
      exact ⟨rfl, HR5.out, HS5.out, HT5.out⟩
    | false =>
      have y0 := cell_laid (i := 0) HS4.out rfl
      have yf0 := free_laid (i := 0) HS4.out
      go_wp2
      go_ret
      rw [HSE.out]
      exact ⟨rfl, HR4.out.tch (S := S) (Tch.set (P := fun k => k = S) rfl _) HS4.out (by decide) (by decide) (by decide), set_laid (i := 0) HS4.out (.int .i64 5), HT4.out.trans (Tch.set (P := fun k => k = R ∨ k = S) (.inr rfl) _)⟩
set_option maxRecDepth 100000 in
set_option maxHeartbeats 8000000 in
theorem seek4_any (B R S : Nat) (M : Mem) (n : Nat) (s : Sk) (V : World) (h : RunC B R M n V) (hS : V.heap[S]? = some (.cells (sk7 s) 41 (0, 0))) (hB : B ≤ V.heap.size) (hok : okM M = true) (hs : s.Ok) (hph : s.ph = 4) (hn : n ≤ 1000000) :
    Calls Try.prog 57 #[.pointer (some ⟨R, 0, none⟩), .pointer (some ⟨S, 0, none⟩)] V (GivesSk B R S n (seekE M s) V) := by
  obtain ⟨ph, hash, key, link, node, val, found⟩ := s
  obtain rfl : ph = 4 := hph
  have HR := hid h
  have HS := hid hS
  have HSK := hid hs
  have ix := skg_at4
  obtain ⟨TB, hTB⟩ : ∃ T, seekV = T := ⟨_, rfl⟩
  have HTB := hid hTB
  have HSG : Hid (∀ W, Calls Try.prog 55 #[] W (Ret TB W)) := hid (fun W => by rw [← hTB]; exact skg_any W)
  rw [hTB] at ix
  have r0 : ∀ z : Ext V, z.v.cell? ⟨S, 0, none⟩ = some (.int .i64 4) := fun z => cell_laid (keep_laid HS.out z.b) rfl
  have r1 : ∀ z : Ext V, z.v.cell? ⟨S, 1, none⟩ = some (.int .u64 ((hash : Nat) : Int)) := fun z => cell_laid (keep_laid HS.out z.b) rfl
  have r2 : ∀ z : Ext V, z.v.cell? ⟨S, 2, none⟩ = some (.int .u64 ((key : Nat) : Int)) := fun z => cell_laid (keep_laid HS.out z.b) rfl
  have r3 : ∀ z : Ext V, z.v.cell? ⟨S, 3, none⟩ = some (.int .u64 ((link : Nat) : Int)) := fun z => cell_laid (keep_laid HS.out z.b) rfl
  have r4 : ∀ z : Ext V, z.v.cell? ⟨S, 4, none⟩ = some (.int .u64 ((node : Nat) : Int)) := fun z => cell_laid (keep_laid HS.out z.b) rfl
  have r5 : ∀ z : Ext V, z.v.cell? ⟨S, 5, none⟩ = some (.int .u64 ((val : Nat) : Int)) := fun z => cell_laid (keep_laid HS.out z.b) rfl
  have r6 : ∀ z : Ext V, z.v.cell? ⟨S, 6, none⟩ = some (.bool found) := fun z => cell_laid (keep_laid HS.out z.b) rfl
  obtain ⟨D, hD⟩ : ∃ DX, V.drew = DX := ⟨_, rfl⟩
  have hbD : Below V.heap.size V D := by rw [← hD]; exact (Below.refl _ _).drew
  have HD := hid hD
  have HBD := hid hbD
  clear h hS hD hbD hTB hs
  go_enter Try.func57, Try.ntmps57
  go_upto_region 1 with (fail)
  go_cut [5] (fun t5 W => ∃ X : Nat, t5 = .pointer (some ⟨X, 0, none⟩) ∧ Hid (W.heap[X]? = some (.cells #[.nilFunc, .nilFunc] 113 (0, 0)) ∧ Below V.heap.size V W))
  case first =>
    refine wp_region_mix2 (fun W => ∃ z : Ext V, W = z.v) 8 (.q 1 (.q 2 (.q 3 (.q 4 (.h2 0 (.q 5 (.h 6 (.h 7 .done))) 6 (.h 0 (.q 5 (.h 7 .done)))))))) (by kernel_rfl) (by kernel_rfl) (by rw [HD.out]; exact ⟨⟨D, HBD.out⟩, rfl⟩) ?_
    rw [HD.out]
    repeat (refine wpMix2_q rfl rfl ?_; go_big_quiet_step (fail); refine wpQuiet_nil ?_)
    refine wpMix2_h2 ?_ ?_
    · skip
      refine wpMix2_h rfl fun R' hR' hO => ?_
      go_wp2_with fail
      refine (HSG.out D).mono ?_
      rintro e wc_ ⟨rfl, hbc⟩
      have HBc := hid (HBD.out.trans (hbc.mono HBD.out.size))
      clear hbc
      go_wp2
      refine hR' _ _ ⟨⟨wc_, HBc.out⟩, rfl⟩ ?_
      clear hR' hO R'
      repeat (refine wpMix2_q rfl rfl ?_; go_big_quiet_step (fail); refine wpQuiet_nil ?_)
      have HBwc_ := HBc
      refine wpMix2_h rfl fun R' hR' hO => ?_
      obtain ⟨wa_, hwa_, hba, hsa, hla⟩ := laid wc_ #[.nilFunc, .nilFunc] 113
      obtain ⟨X, hX⟩ : ∃ X, wc_.heap.size = X := ⟨_, rfl⟩
      rw [hX] at hla
      have LX := hid (show V.heap.size ≤ X from by have := HBwc_.out.size; omega)
      have HBa := hid (HBwc_.out.trans (hba.mono HBwc_.out.size))
      have HXa := hid hla
      clear hba hsa hla
      go_wp2
      refine hR' _ _ ⟨⟨wa_, HBa.out⟩, rfl⟩ ?_
      clear hR' hO R'
      have HBwa_ := HBa
      have x0 := cell_laid (i := 0) HXa.out rfl
      have xf0 := free_laid (i := 0) HXa.out
      have x1 := cell_laid (i := 1) HXa.out rfl
      have xf1 := free_laid (i := 1) HXa.out
      obtain ⟨u1, hu1⟩ : ∃ U, (wa_.setCell ⟨X, 0, none⟩ (.nilFunc)).setCell ⟨X, 1, none⟩ (.nilFunc) = U := ⟨_, rfl⟩
      have HXu : Hid (u1.heap[X]? = some (.cells #[.nilFunc, .nilFunc] 113 (0, 0))) := hid (by rw [← hu1]; exact set_laid (i := 1) (set_laid (i := 0) HXa.out _) _)
      have HBu : Hid (Below V.heap.size V u1) := hid (by rw [← hu1]; exact (HBwa_.out.setCell (by exact LX.out) _).setCell (by exact LX.out) _)
      have HU1 := hid hu1
      clear hu1
      refine wpMix2_h rfl fun R' hR' hO => ?_
      go_wp2
      rw [HU1.out]
      refine hR' _ _ ⟨⟨u1, HBu.out⟩, rfl⟩ ?_
      clear hR' hO R' x0 xf0 x1 xf1
      refine wpMix2_done ?_
      simp only [List.drop_succ_cons, List.drop_nil]
      go_wp2
      go_meet
      exact ⟨X, rfl, hid ⟨HXu.out, HBu.out⟩⟩
    · skip
      refine wpMix2_h rfl fun R' hR' hO => ?_
      obtain ⟨wa_, hwa_, hba, hsa, hla⟩ := laid D #[.nilFunc, .nilFunc] 113
      obtain ⟨X, hX⟩ : ∃ X, D.heap.size = X := ⟨_, rfl⟩
      rw [hX] at hla
      have LX := hid (show V.heap.size ≤ X from by have := HBD.out.size; omega)
      have HBa := hid (HBD.out.trans (hba.mono HBD.out.size))
      have HXa := hid hla
      clear hba hsa hla
      go_wp2
      refine hR' _ _ ⟨⟨wa_, HBa.out⟩, rfl⟩ ?_
      clear hR' hO R'
      have HBwa_ := HBa
      refine wpMix2_h rfl fun R' hR' hO => ?_
      go_wp2_with fail
      refine (HSG.out wa_).mono ?_
      rintro e wc_ ⟨rfl, hbc⟩
      have HBc := hid (HBwa_.out.trans (hbc.mono HBwa_.out.size))
      have HXc := hid (keep_laid HXa.out hbc)
      clear hbc
      go_wp2
      refine hR' _ _ ⟨⟨wc_, HBc.out⟩, rfl⟩ ?_
      clear hR' hO R'
      repeat (refine wpMix2_q rfl rfl ?_; go_big_quiet_step (fail); refine wpQuiet_nil ?_)
      have HBwc_ := HBc
      have x0 := cell_laid (i := 0) HXc.out rfl
      have xf0 := free_laid (i := 0) HXc.out
      have x1 := cell_laid (i := 1) HXc.out rfl
      have xf1 := free_laid (i := 1) HXc.out
      obtain ⟨u1, hu1⟩ : ∃ U, (wc_.setCell ⟨X, 0, none⟩ (.nilFunc)).setCell ⟨X, 1, none⟩ (.nilFunc) = U := ⟨_, rfl⟩
      have HXu : Hid (u1.heap[X]? = some (.cells #[.nilFunc, .nilFunc] 113 (0, 0))) := hid (by rw [← hu1]; exact set_laid (i := 1) (set_laid (i := 0) HXc.out _) _)
      have HBu : Hid (Below V.heap.size V u1) := hid (by rw [← hu1]; exact (HBwc_.out.setCell (by exact LX.out) _).setCell (by exact LX.out) _)
      have HU1 := hid hu1
      clear hu1
      refine wpMix2_h rfl fun R' hR' hO => ?_
      go_wp2
      rw [HU1.out]
      refine hR' _ _ ⟨⟨u1, HBu.out⟩, rfl⟩ ?_
      clear hR' hO R' x0 xf0 x1 xf1
      refine wpMix2_done ?_
      simp only [List.drop_succ_cons, List.drop_nil]
      go_wp2
      go_meet
      exact ⟨X, rfl, hid ⟨HXu.out, HBu.out⟩⟩
  case rest =>
    obtain ⟨X, rfl, hcc⟩ := hcut
    obtain ⟨w1, hw1⟩ : ∃ W, W = wc := ⟨_, rfl⟩
    subst hw1
    have HX := hid hcc.out.1
    have HR1 := hid (HR.out.grow hcc.out.2)
    have HS1 := hid (keep_laid HS.out hcc.out.2)
    have HT1 := hid (Tch.of_below (P := fun k => k = R ∨ k = S) hcc.out.2)
    have hBw : B ≤ w1.heap.size := Nat.le_trans hB hcc.out.2.size
    have x0 := cell_laid (i := 0) HX.out rfl
    have q1 := eq_nil
    clear hcc
    go_wp2
    go_ret
    rw [show seekE M ⟨4, hash, key, link, node, val, found⟩ = (M, ⟨4, hash, key, link, node, val, found⟩, false) from by unfold seekE; rw [if_pos (show (4 : Int) ≤ 4 by decide)]]
    exact ⟨rfl, HR1.out, HS1.out, HT1.out⟩
set_option maxRecDepth 100000 in
set_option maxHeartbeats 8000000 in
theorem seek5_any (B R S : Nat) (M : Mem) (n : Nat) (s : Sk) (V : World) (h : RunC B R M n V) (hS : V.heap[S]? = some (.cells (sk7 s) 41 (0, 0))) (hB : B ≤ V.heap.size) (hok : okM M = true) (hs : s.Ok) (hph : s.ph = 5) (hn : n ≤ 1000000) :
    Calls Try.prog 57 #[.pointer (some ⟨R, 0, none⟩), .pointer (some ⟨S, 0, none⟩)] V (GivesSk B R S n (seekE M s) V) := by
  obtain ⟨ph, hash, key, link, node, val, found⟩ := s
  obtain rfl : ph = 5 := hph
  have HR := hid h
  have HS := hid hS
  have HSK := hid hs
  have ix := skg_at5
  obtain ⟨TB, hTB⟩ : ∃ T, seekV = T := ⟨_, rfl⟩
  have HTB := hid hTB
  have HSG : Hid (∀ W, Calls Try.prog 55 #[] W (Ret TB W)) := hid (fun W => by rw [← hTB]; exact skg_any W)
  rw [hTB] at ix
  have r0 : ∀ z : Ext V, z.v.cell? ⟨S, 0, none⟩ = some (.int .i64 5) := fun z => cell_laid (keep_laid HS.out z.b) rfl
  have r1 : ∀ z : Ext V, z.v.cell? ⟨S, 1, none⟩ = some (.int .u64 ((hash : Nat) : Int)) := fun z => cell_laid (keep_laid HS.out z.b) rfl
  have r2 : ∀ z : Ext V, z.v.cell? ⟨S, 2, none⟩ = some (.int .u64 ((key : Nat) : Int)) := fun z => cell_laid (keep_laid HS.out z.b) rfl
  have r3 : ∀ z : Ext V, z.v.cell? ⟨S, 3, none⟩ = some (.int .u64 ((link : Nat) : Int)) := fun z => cell_laid (keep_laid HS.out z.b) rfl
  have r4 : ∀ z : Ext V, z.v.cell? ⟨S, 4, none⟩ = some (.int .u64 ((node : Nat) : Int)) := fun z => cell_laid (keep_laid HS.out z.b) rfl
  have r5 : ∀ z : Ext V, z.v.cell? ⟨S, 5, none⟩ = some (.int .u64 ((val : Nat) : Int)) := fun z => cell_laid (keep_laid HS.out z.b) rfl
  have r6 : ∀ z : Ext V, z.v.cell? ⟨S, 6, none⟩ = some (.bool found) := fun z => cell_laid (keep_laid HS.out z.b) rfl
  obtain ⟨D, hD⟩ : ∃ DX, V.drew = DX := ⟨_, rfl⟩
  have hbD : Below V.heap.size V D := by rw [← hD]; exact (Below.refl _ _).drew
  have HD := hid hD
  have HBD := hid hbD
  clear h hS hD hbD hTB hs
  go_enter Try.func57, Try.ntmps57
  go_upto_region 1 with (fail)
  go_cut [5] (fun t5 W => ∃ X : Nat, t5 = .pointer (some ⟨X, 0, none⟩) ∧ Hid (W.heap[X]? = some (.cells #[.nilFunc, .nilFunc] 113 (0, 0)) ∧ Below V.heap.size V W))
  case first =>
    refine wp_region_mix2 (fun W => ∃ z : Ext V, W = z.v) 8 (.q 1 (.q 2 (.q 3 (.q 4 (.h2 0 (.q 5 (.h 6 (.h 7 .done))) 6 (.h 0 (.q 5 (.h 7 .done)))))))) (by kernel_rfl) (by kernel_rfl) (by rw [HD.out]; exact ⟨⟨D, HBD.out⟩, rfl⟩) ?_
    rw [HD.out]
    repeat (refine wpMix2_q rfl rfl ?_; go_big_quiet_step (fail); refine wpQuiet_nil ?_)
    refine wpMix2_h2 ?_ ?_
    · skip
      refine wpMix2_h rfl fun R' hR' hO => ?_
      go_wp2_with fail
      refine (HSG.out D).mono ?_
      rintro e wc_ ⟨rfl, hbc⟩
      have HBc := hid (HBD.out.trans (hbc.mono HBD.out.size))
      clear hbc
      go_wp2
      refine hR' _ _ ⟨⟨wc_, HBc.out⟩, rfl⟩ ?_
      clear hR' hO R'
      repeat (refine wpMix2_q rfl rfl ?_; go_big_quiet_step (fail); refine wpQuiet_nil ?_)
      have HBwc_ := HBc
      refine wpMix2_h rfl fun R' hR' hO => ?_
      obtain ⟨wa_, hwa_, hba, hsa, hla⟩ := laid wc_ #[.nilFunc, .nilFunc] 113
      obtain ⟨X, hX⟩ : ∃ X, wc_.heap.size = X := ⟨_, rfl⟩
      rw [hX] at hla
      have LX := hid (show V.heap.size ≤ X from by have := HBwc_.out.size; omega)
      have HBa := hid (HBwc_.out.trans (hba.mono HBwc_.out.size))
      have HXa := hid hla
      clear hba hsa hla
      go_wp2
      refine hR' _ _ ⟨⟨wa_, HBa.out⟩, rfl⟩ ?_
      clear hR' hO R'
      have HBwa_ := HBa
      have x0 := cell_laid (i := 0) HXa.out rfl
      have xf0 := free_laid (i := 0) HXa.out
      have x1 := cell_laid (i := 1) HXa.out rfl
      have xf1 := free_laid (i := 1) HXa.out
      obtain ⟨u1, hu1⟩ : ∃ U, (wa_.setCell ⟨X, 0, none⟩ (.nilFunc)).setCell ⟨X, 1, none⟩ (.nilFunc) = U := ⟨_, rfl⟩
      have HXu : Hid (u1.heap[X]? = some (.cells #[.nilFunc, .nilFunc] 113 (0, 0))) := hid (by rw [← hu1]; exact set_laid (i := 1) (set_laid (i := 0) HXa.out _) _)
      have HBu : Hid (Below V.heap.size V u1) := hid (by rw [← hu1]; exact (HBwa_.out.setCell (by exact LX.out) _).setCell (by exact LX.out) _)
      have HU1 := hid hu1
      clear hu1
      refine wpMix2_h rfl fun R' hR' hO => ?_
      go_wp2
      rw [HU1.out]
      refine hR' _ _ ⟨⟨u1, HBu.out⟩, rfl⟩ ?_
      clear hR' hO R' x0 xf0 x1 xf1
      refine wpMix2_done ?_
      simp only [List.drop_succ_cons, List.drop_nil]
      go_wp2
      go_meet
      exact ⟨X, rfl, hid ⟨HXu.out, HBu.out⟩⟩
    · skip
      refine wpMix2_h rfl fun R' hR' hO => ?_
      obtain ⟨wa_, hwa_, hba, hsa, hla⟩ := laid D #[.nilFunc, .nilFunc] 113
      obtain ⟨X, hX⟩ : ∃ X, D.heap.size = X := ⟨_, rfl⟩
      rw [hX] at hla
      have LX := hid (show V.heap.size ≤ X from by have := HBD.out.size; omega)
      have HBa := hid (HBD.out.trans (hba.mono HBD.out.size))
      have HXa := hid hla
      clear hba hsa hla
      go_wp2
      refine hR' _ _ ⟨⟨wa_, HBa.out⟩, rfl⟩ ?_
      clear hR' hO R'
      have HBwa_ := HBa
      refine wpMix2_h rfl fun R' hR' hO => ?_
      go_wp2_with fail
      refine (HSG.out wa_).mono ?_
      rintro e wc_ ⟨rfl, hbc⟩
      have HBc := hid (HBwa_.out.trans (hbc.mono HBwa_.out.size))
      have HXc := hid (keep_laid HXa.out hbc)
      clear hbc
      go_wp2
      refine hR' _ _ ⟨⟨wc_, HBc.out⟩, rfl⟩ ?_
      clear hR' hO R'
      repeat (refine wpMix2_q rfl rfl ?_; go_big_quiet_step (fail); refine wpQuiet_nil ?_)
      have HBwc_ := HBc
      have x0 := cell_laid (i := 0) HXc.out rfl
      have xf0 := free_laid (i := 0) HXc.out
      have x1 := cell_laid (i := 1) HXc.out rfl
      have xf1 := free_laid (i := 1) HXc.out
      obtain ⟨u1, hu1⟩ : ∃ U, (wc_.setCell ⟨X, 0, none⟩ (.nilFunc)).setCell ⟨X, 1, none⟩ (.nilFunc) = U := ⟨_, rfl⟩
      have HXu : Hid (u1.heap[X]? = some (.cells #[.nilFunc, .nilFunc] 113 (0, 0))) := hid (by rw [← hu1]; exact set_laid (i := 1) (set_laid (i := 0) HXc.out _) _)
      have HBu : Hid (Below V.heap.size V u1) := hid (by rw [← hu1]; exact (HBwc_.out.setCell (by exact LX.out) _).setCell (by exact LX.out) _)
      have HU1 := hid hu1
      clear hu1
      refine wpMix2_h rfl fun R' hR' hO => ?_
      go_wp2
      rw [HU1.out]
      refine hR' _ _ ⟨⟨u1, HBu.out⟩, rfl⟩ ?_
      clear hR' hO R' x0 xf0 x1 xf1
      refine wpMix2_done ?_
      simp only [List.drop_succ_cons, List.drop_nil]
      go_wp2
      go_meet
      exact ⟨X, rfl, hid ⟨HXu.out, HBu.out⟩⟩
  case rest =>
    obtain ⟨X, rfl, hcc⟩ := hcut
    obtain ⟨w1, hw1⟩ : ∃ W, W = wc := ⟨_, rfl⟩
    subst hw1
    have HX := hid hcc.out.1
    have HR1 := hid (HR.out.grow hcc.out.2)
    have HS1 := hid (keep_laid HS.out hcc.out.2)
    have HT1 := hid (Tch.of_below (P := fun k => k = R ∨ k = S) hcc.out.2)
    have hBw : B ≤ w1.heap.size := Nat.le_trans hB hcc.out.2.size
    have x0 := cell_laid (i := 0) HX.out rfl
    have q1 := eq_nil
    clear hcc
    go_wp2
    go_ret
    rw [show seekE M ⟨5, hash, key, link, node, val, found⟩ = (M, ⟨5, hash, key, link, node, val, found⟩, false) from by unfold seekE; rw [if_pos (show (4 : Int) ≤ 5 by decide)]]
    exact ⟨rfl, HR1.out, HS1.out, HT1.out⟩
theorem seek_any (B R S : Nat) (M : Mem) (n : Nat) (s : Sk) (V : World) (h : RunC B R M n V) (hS : V.heap[S]? = some (.cells (sk7 s) 41 (0, 0))) (hB : B ≤ V.heap.size) (hok : okM M = true) (hs : s.Ok) (hp : 0 ≤ s.ph) (hp5 : s.ph ≤ 5) (hn : n ≤ 1000000) :
    Calls Try.prog 57 #[.pointer (some ⟨R, 0, none⟩), .pointer (some ⟨S, 0, none⟩)] V (GivesSk B R S n (seekE M s) V) := by
  rcases (show s.ph = 0 ∨ s.ph = 1 ∨ s.ph = 2 ∨ s.ph = 3 ∨ s.ph = 4 ∨ s.ph = 5 by omega) with e | e | e | e | e | e
  · exact seek0_any B R S M n s V h hS hB hok hs e hn
  · exact seek1_any B R S M n s V h hS hB hok hs e hn
  · exact seek2_any B R S M n s V h hS hB hok hs e hn
  · exact seek3_any B R S M n s V h hS hB hok hs e hn
  · exact seek4_any B R S M n s V h hS hB hok hs e hn
  · exact seek5_any B R S M n s V h hS hB hok hs e hn
end Go.Proofs.Ytipohagcppfgiaa
