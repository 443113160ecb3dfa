/- Lists (printed by gen_ls11.py): a step of who edits. -/
import Derived.Test.YtipohagcppfgiaaLs10
namespace Go.Proofs.Ytipohagcppfgiaa
open Go.RowKit
open Go.Proofs
set_option linter.unusedVariables false
attribute [local go_sem] Oper.semAt_some

/-- Worlds in which two variables lie so. -/
structure RXE (X S : Nat) (cs cs' : Array Value) where
  w : World
  bx : w.heap[X]? = some (.cells cs 142 (0, 0))
  bs : w.heap[S]? = some (.cells cs' 39 (0, 0))
structure RX1 (X : Nat) (cs : Array Value) where
  w : World
  bx : w.heap[X]? = some (.cells cs 142 (0, 0))
def nextE : Nat → Int
  | 0 => 1
  | 1 => 2
  | 2 => 3
  | 3 => 5
  | 4 => 5
  | _ => 6
/-- A step of who edits: the memory, who edits, whether there was one. -/
def editE (M : Mem) (s : Ede) : Mem × Ede × Bool := if 6 ≤ s.ph then (M, s, false) else
  ((stepM M (s.ph != 4) (((needE s s.ph.toNat).2.1 : Nat) : Int) (needE s s.ph.toNat).2.2).1,
    if (stepM M (s.ph != 4) (((needE s s.ph.toNat).2.1 : Nat) : Int) (needE s s.ph.toNat).2.2).2.2 = true then
      { s with ph := nextE s.ph.toNat, next := if s.ph = 4 then (stepM M (s.ph != 4) (((needE s s.ph.toNat).2.1 : Nat) : Int) (needE s s.ph.toNat).2.2).2.1 else s.next }
    else { s with ph := 7 }, true)
theorem eq_fnE (f : Nat) (w : World) : (binOp BinOp.eql 140 (.func (.func f) #[] #[]) .nilFunc).run Try.prog w = .ok (.bool false) w := by kernel_rfl
theorem eq_nilE (w : World) : (binOp BinOp.eql 140 .nilFunc .nilFunc).run Try.prog w = .ok (.bool true) w := by kernel_rfl
def GivesEd (B R S n : Nat) (X : Mem × Ede × Bool) (V : World) (e : Ending) (W : World) : Prop := e = .returned (.bool X.2.2) ∧ RunC B R X.1 (if X.2.2 = true then n + 1 else n) W ∧ W.heap[S]? = some (.cells (ed8 X.2.1) 39 (0, 0)) ∧ Tch (fun k => k = R ∨ k = S) V W
set_option maxRecDepth 100000 in
set_option maxHeartbeats 8000000 in
theorem edit0_any (B R S : Nat) (M : Mem) (n : Nat) (s : Ede) (V : World) (h : RunC B R M n V) (hS : V.heap[S]? = some (.cells (ed8 s) 39 (0, 0))) (hB : B ≤ V.heap.size) (hok : okM M = true) (hs : s.Ok) (hph : s.ph = 0) (hn : n ≤ 1000000) :
    Calls Try.prog 78 #[.pointer (some ⟨R, 0, none⟩), .pointer (some ⟨S, 0, none⟩)] V (GivesEd B R S n (editE M s) V) := by
  obtain ⟨ph, cuts, link, at_, key, val, hash, next⟩ := s
  obtain rfl : ph = 0 := hph
  have HR := hid h
  have HS := hid hS
  have HSK := hid hs
  have ix := edg_at0
  obtain ⟨TB, hTB⟩ : ∃ T, editV = T := ⟨_, rfl⟩
  have HTB := hid hTB
  have HSG : Hid (∀ W, Calls Try.prog 77 #[] W (Ret TB W)) := hid (fun W => by rw [← hTB]; exact edg_any W)
  rw [hTB] at ix
  have r0 : ∀ z : Ext V, z.v.cell? ⟨S, 0, none⟩ = some (.int .i64 0) := fun z => cell_laid (keep_laid HS.out z.b) rfl
  have r1 : ∀ z : Ext V, z.v.cell? ⟨S, 1, none⟩ = some (.bool cuts) := fun z => cell_laid (keep_laid HS.out z.b) rfl
  have r2 : ∀ z : Ext V, z.v.cell? ⟨S, 2, none⟩ = some (.int .u64 ((link : Nat) : Int)) := fun z => cell_laid (keep_laid HS.out z.b) rfl
  have r3 : ∀ z : Ext V, z.v.cell? ⟨S, 3, none⟩ = some (.int .u64 ((at_ : Nat) : Int)) := fun z => cell_laid (keep_laid HS.out z.b) rfl
  have r4 : ∀ z : Ext V, z.v.cell? ⟨S, 4, none⟩ = some (.int .u64 ((key : Nat) : Int)) := fun z => cell_laid (keep_laid HS.out z.b) rfl
  have r5 : ∀ z : Ext V, z.v.cell? ⟨S, 5, none⟩ = some (.int .u64 ((val : Nat) : Int)) := fun z => cell_laid (keep_laid HS.out z.b) rfl
  have r6 : ∀ z : Ext V, z.v.cell? ⟨S, 6, none⟩ = some (.int .u64 ((hash : Nat) : Int)) := fun z => cell_laid (keep_laid HS.out z.b) rfl
  have r7 : ∀ z : Ext V, z.v.cell? ⟨S, 7, none⟩ = some (.int .u64 ((next : Nat) : Int)) := fun z => cell_laid (keep_laid HS.out z.b) rfl
  obtain ⟨D, hD⟩ : ∃ DX, V.drew = DX := ⟨_, rfl⟩
  have hbD : Below V.heap.size V D := by rw [← hD]; exact (Below.refl _ _).drew
  have HD := hid hD
  have HBD := hid hbD
  clear h hS hD hbD hTB hs
  go_enter Try.func78, Try.ntmps78
  go_upto_region 1 with (fail)
  go_cut [5] (fun t5 W => ∃ X : Nat, t5 = .pointer (some ⟨X, 0, none⟩) ∧ Hid (W.heap[X]? = some (.cells #[.func (.func 81) #[] #[], .int .i64 1] 142 (0, 0)) ∧ Below V.heap.size V W))
  case first =>
    refine wp_region_mix2 (fun W => ∃ z : Ext V, W = z.v) 8 (.q 1 (.q 2 (.q 3 (.q 4 (.h2 0 (.q 5 (.h 6 (.h 7 .done))) 6 (.h 0 (.q 5 (.h 7 .done)))))))) (by kernel_rfl) (by kernel_rfl) (by rw [HD.out]; exact ⟨⟨D, HBD.out⟩, rfl⟩) ?_
    rw [HD.out]
    repeat (refine wpMix2_q rfl rfl ?_; go_big_quiet_step (fail); refine wpQuiet_nil ?_)
    refine wpMix2_h2 ?_ ?_
    · skip
      refine wpMix2_h rfl fun R' hR' hO => ?_
      go_wp2_with fail
      refine (HSG.out D).mono ?_
      rintro e wc_ ⟨rfl, hbc⟩
      have HBc := hid (HBD.out.trans (hbc.mono HBD.out.size))
      clear hbc
      go_wp2
      refine hR' _ _ ⟨⟨wc_, HBc.out⟩, rfl⟩ ?_
      clear hR' hO R'
      repeat (refine wpMix2_q rfl rfl ?_; go_big_quiet_step (fail); refine wpQuiet_nil ?_)
      have HBwc_ := HBc
      refine wpMix2_h rfl fun R' hR' hO => ?_
      obtain ⟨wa_, hwa_, hba, hsa, hla⟩ := laid wc_ #[.nilFunc, .int .i64 0] 142
      obtain ⟨X, hX⟩ : ∃ X, wc_.heap.size = X := ⟨_, rfl⟩
      rw [hX] at hla
      have LX := hid (show V.heap.size ≤ X from by have := HBwc_.out.size; omega)
      have HBa := hid (HBwc_.out.trans (hba.mono HBwc_.out.size))
      have HXa := hid hla
      clear hba hsa hla
      go_wp2
      refine hR' _ _ ⟨⟨wa_, HBa.out⟩, rfl⟩ ?_
      clear hR' hO R'
      have HBwa_ := HBa
      have x0 := cell_laid (i := 0) HXa.out rfl
      have xf0 := free_laid (i := 0) HXa.out
      have x1 := cell_laid (i := 1) HXa.out rfl
      have xf1 := free_laid (i := 1) HXa.out
      obtain ⟨u1, hu1⟩ : ∃ U, (wa_.setCell ⟨X, 0, none⟩ (.func (.func 81) #[] #[])).setCell ⟨X, 1, none⟩ (.int .i64 1) = U := ⟨_, rfl⟩
      have HXu : Hid (u1.heap[X]? = some (.cells #[.func (.func 81) #[] #[], .int .i64 1] 142 (0, 0))) := hid (by rw [← hu1]; exact set_laid (i := 1) (set_laid (i := 0) HXa.out _) _)
      have HBu : Hid (Below V.heap.size V u1) := hid (by rw [← hu1]; exact (HBwa_.out.setCell (by exact LX.out) _).setCell (by exact LX.out) _)
      have HU1 := hid hu1
      clear hu1
      refine wpMix2_h rfl fun R' hR' hO => ?_
      go_wp2
      rw [HU1.out]
      refine hR' _ _ ⟨⟨u1, HBu.out⟩, rfl⟩ ?_
      clear hR' hO R' x0 xf0 x1 xf1
      refine wpMix2_done ?_
      simp only [List.drop_succ_cons, List.drop_nil]
      go_wp2
      go_meet
      exact ⟨X, rfl, hid ⟨HXu.out, HBu.out⟩⟩
    · skip
      refine wpMix2_h rfl fun R' hR' hO => ?_
      obtain ⟨wa_, hwa_, hba, hsa, hla⟩ := laid D #[.nilFunc, .int .i64 0] 142
      obtain ⟨X, hX⟩ : ∃ X, D.heap.size = X := ⟨_, rfl⟩
      rw [hX] at hla
      have LX := hid (show V.heap.size ≤ X from by have := HBD.out.size; omega)
      have HBa := hid (HBD.out.trans (hba.mono HBD.out.size))
      have HXa := hid hla
      clear hba hsa hla
      go_wp2
      refine hR' _ _ ⟨⟨wa_, HBa.out⟩, rfl⟩ ?_
      clear hR' hO R'
      have HBwa_ := HBa
      refine wpMix2_h rfl fun R' hR' hO => ?_
      go_wp2_with fail
      refine (HSG.out wa_).mono ?_
      rintro e wc_ ⟨rfl, hbc⟩
      have HBc := hid (HBwa_.out.trans (hbc.mono HBwa_.out.size))
      have HXc := hid (keep_laid HXa.out hbc)
      clear hbc
      go_wp2
      refine hR' _ _ ⟨⟨wc_, HBc.out⟩, rfl⟩ ?_
      clear hR' hO R'
      repeat (refine wpMix2_q rfl rfl ?_; go_big_quiet_step (fail); refine wpQuiet_nil ?_)
      have HBwc_ := HBc
      have x0 := cell_laid (i := 0) HXc.out rfl
      have xf0 := free_laid (i := 0) HXc.out
      have x1 := cell_laid (i := 1) HXc.out rfl
      have xf1 := free_laid (i := 1) HXc.out
      obtain ⟨u1, hu1⟩ : ∃ U, (wc_.setCell ⟨X, 0, none⟩ (.func (.func 81) #[] #[])).setCell ⟨X, 1, none⟩ (.int .i64 1) = U := ⟨_, rfl⟩
      have HXu : Hid (u1.heap[X]? = some (.cells #[.func (.func 81) #[] #[], .int .i64 1] 142 (0, 0))) := hid (by rw [← hu1]; exact set_laid (i := 1) (set_laid (i := 0) HXc.out _) _)
      have HBu : Hid (Below V.heap.size V u1) := hid (by rw [← hu1]; exact (HBwc_.out.setCell (by exact LX.out) _).setCell (by exact LX.out) _)
      have HU1 := hid hu1
      clear hu1
      refine wpMix2_h rfl fun R' hR' hO => ?_
      go_wp2
      rw [HU1.out]
      refine hR' _ _ ⟨⟨u1, HBu.out⟩, rfl⟩ ?_
      clear hR' hO R' x0 xf0 x1 xf1
      refine wpMix2_done ?_
      simp only [List.drop_succ_cons, List.drop_nil]
      go_wp2
      go_meet
      exact ⟨X, rfl, hid ⟨HXu.out, HBu.out⟩⟩
  case rest =>
    obtain ⟨X, rfl, hcc⟩ := hcut
    obtain ⟨w1, hw1⟩ : ∃ W, W = wc := ⟨_, rfl⟩
    subst hw1
    have HX := hid hcc.out.1
    have HR1 := hid (HR.out.grow hcc.out.2)
    have HS1 := hid (keep_laid HS.out hcc.out.2)
    have HT1 := hid (Tch.of_below (P := fun k => k = R ∨ k = S) hcc.out.2)
    have hBw : B ≤ w1.heap.size := Nat.le_trans hB hcc.out.2.size
    have x0 := cell_laid (i := 0) HX.out rfl
    have q1 := eq_fnE
    clear hcc
    go_upto_region 4 with (fail)
    obtain ⟨⟨M', x, d⟩, hX⟩ : ∃ X, stepM M true ((posL at_ 0 : Nat) : Int) key = X := ⟨_, rfl⟩
    have HSE : Hid (editE M ⟨0, cuts, link, at_, key, val, hash, next⟩ = (M', (if d = true then (⟨1, cuts, link, at_, key, val, hash, next⟩ : Ede) else (⟨7, cuts, link, at_, key, val, hash, next⟩ : Ede)), true)) := hid (by
      have e0 : editE M ⟨0, cuts, link, at_, key, val, hash, next⟩ = ((stepM M true ((posL at_ 0 : Nat) : Int) key).1, (if (stepM M true ((posL at_ 0 : Nat) : Int) key).2.2 = true then (⟨1, cuts, link, at_, key, val, hash, next⟩ : Ede) else (⟨7, cuts, link, at_, key, val, hash, next⟩ : Ede)), true) := by
        unfold editE; rw [if_neg (show ¬ ((6 : Int) ≤ 0) by decide)]; rfl
      rw [e0]; rw [hX])
    have HAC : Hid (∀ W, RunC B R M n W → B ≤ W.heap.size → Calls Try.prog 75 #[.pointer (some ⟨R, 0, none⟩), .agg #[.int .i64 2, .int .i64 ((posL at_ 0 : Nat) : Int), .int .u64 0, .int .u64 ((key : Nat) : Int)]] W (GivesAc B R n (M', x, d) W)) := hid (fun W h1 h2 => by have := access_any B R M n true 2 ((posL at_ 0 : Nat) : Int) key W h1 h2 hok (by unfold posL; omega) rfl hn; rw [hX] at this; exact this)
    obtain ⟨D2, hD2⟩ : ∃ DX, w1.drew = DX := ⟨_, rfl⟩
    have hbD : Below w1.heap.size w1 D2 := by rw [← hD2]; exact (Below.refl _ _).drew
    have HD2 := hid hD2
    have HX2 := hid (keep_laid HX.out hbD)
    have HS2 := hid (keep_laid HS1.out hbD)
    have HR2 := hid (HR1.out.grow hbD)
    have HT2 := hid (HT1.out.trans (Tch.of_below hbD))
    have hB2 := Nat.le_trans hBw hbD.size
    have HND : Hid (Calls Try.prog 81 #[.agg #[.int .i64 0, .bool cuts, .int .u64 ((link : Nat) : Int), .int .u64 ((at_ : Nat) : Int), .int .u64 ((key : Nat) : Int), .int .u64 ((val : Nat) : Int), .int .u64 ((hash : Nat) : Int), .int .u64 ((next : Nat) : Int)]] D2 (Ret (.agg #[.int .i64 2, .int .i64 ((posL at_ 0 : Nat) : Int), .int .u64 0, .int .u64 ((key : Nat) : Int)]) D2)) := hid (by exact ned0_any ⟨0, cuts, link, at_, key, val, hash, next⟩ D2 HSK.out)
    clear hD2 hbD hX x0 q1
    haveI : Nonempty (RXE X S #[.func (.func 81) #[] #[], .int .i64 1] (ed8 ⟨0, cuts, link, at_, key, val, hash, next⟩)) := ⟨⟨D2, HX2.out, HS2.out⟩⟩
    have x0 : ∀ z : RXE X S #[.func (.func 81) #[] #[], .int .i64 1] (ed8 ⟨0, cuts, link, at_, key, val, hash, next⟩), z.w.cell? ⟨X, 0, none⟩ = some (.func (.func 81) #[] #[]) := fun z => cell_laid z.bx rfl
    have s0 : ∀ z : RXE X S #[.func (.func 81) #[] #[], .int .i64 1] (ed8 ⟨0, cuts, link, at_, key, val, hash, next⟩), z.w.cell? ⟨S, 0, none⟩ = some (.int .i64 0) := fun z => cell_laid z.bs rfl
    have s1 : ∀ z : RXE X S #[.func (.func 81) #[] #[], .int .i64 1] (ed8 ⟨0, cuts, link, at_, key, val, hash, next⟩), z.w.cell? ⟨S, 1, none⟩ = some (.bool cuts) := fun z => cell_laid z.bs rfl
    have s2 : ∀ z : RXE X S #[.func (.func 81) #[] #[], .int .i64 1] (ed8 ⟨0, cuts, link, at_, key, val, hash, next⟩), z.w.cell? ⟨S, 2, none⟩ = some (.int .u64 ((link : Nat) : Int)) := fun z => cell_laid z.bs rfl
    have s3 : ∀ z : RXE X S #[.func (.func 81) #[] #[], .int .i64 1] (ed8 ⟨0, cuts, link, at_, key, val, hash, next⟩), z.w.cell? ⟨S, 3, none⟩ = some (.int .u64 ((at_ : Nat) : Int)) := fun z => cell_laid z.bs rfl
    have s4 : ∀ z : RXE X S #[.func (.func 81) #[] #[], .int .i64 1] (ed8 ⟨0, cuts, link, at_, key, val, hash, next⟩), z.w.cell? ⟨S, 4, none⟩ = some (.int .u64 ((key : Nat) : Int)) := fun z => cell_laid z.bs rfl
    have s5 : ∀ z : RXE X S #[.func (.func 81) #[] #[], .int .i64 1] (ed8 ⟨0, cuts, link, at_, key, val, hash, next⟩), z.w.cell? ⟨S, 5, none⟩ = some (.int .u64 ((val : Nat) : Int)) := fun z => cell_laid z.bs rfl
    have s6 : ∀ z : RXE X S #[.func (.func 81) #[] #[], .int .i64 1] (ed8 ⟨0, cuts, link, at_, key, val, hash, next⟩), z.w.cell? ⟨S, 6, none⟩ = some (.int .u64 ((hash : Nat) : Int)) := fun z => cell_laid z.bs rfl
    have s7 : ∀ z : RXE X S #[.func (.func 81) #[] #[], .int .i64 1] (ed8 ⟨0, cuts, link, at_, key, val, hash, next⟩), z.w.cell? ⟨S, 7, none⟩ = some (.int .u64 ((next : Nat) : Int)) := fun z => cell_laid z.bs rfl
    refine wp_region_mix2 (fun W => ∃ z : RXE X S #[.func (.func 81) #[] #[], .int .i64 1] (ed8 ⟨0, cuts, link, at_, key, val, hash, next⟩), W = z.w) 13 (.q 0 (.q 1 (.q 2 (.q 3 (.q 4 (.q 5 (.h 6 (.h 7 (.q 8 (.q 9 (.q 10 (.q 11 (.q 12 .done))))))))))))) (by kernel_rfl) (by kernel_rfl) (by rw [HD2.out]; exact ⟨⟨D2, HX2.out, HS2.out⟩, rfl⟩) ?_
    rw [HD2.out]
    repeat (refine wpMix2_q rfl rfl ?_; go_big_quiet_step (fail); refine wpQuiet_nil ?_)
    refine wpMix2_h rfl fun R' hR' hO => ?_
    go_wp2_with fail
    refine HND.out.mono ?_
    rintro e v1 ⟨rfl, hb⟩
    have HX3 := hid (keep_laid HX2.out hb)
    have HS3 := hid (keep_laid HS2.out hb)
    have HR3 := hid (HR2.out.grow hb)
    have HT3 := hid (HT2.out.trans (Tch.of_below hb))
    have hB3 := Nat.le_trans hB2 hb.size
    clear hb
    go_wp2
    refine hR' _ _ ⟨⟨v1, HX3.out, HS3.out⟩, rfl⟩ ?_
    clear hR' hO R'
    repeat (refine wpMix2_q rfl rfl ?_; go_big_quiet_step (fail); refine wpQuiet_nil ?_)
    refine wpMix2_h rfl fun R' hR' hO => ?_
    go_wp2_with fail
    refine (HAC.out v1 HR3.out hB3).mono ?_
    rintro e v2 ⟨rfl, hr4, ht4⟩
    have hRX : X ≠ R := by obtain ⟨_, _, _, _, k, _⟩ := HR3.out; exact type_ne HX3.out k (by decide)
    have hRS : S ≠ R := by obtain ⟨_, _, _, _, k, _⟩ := HR3.out; exact type_ne HS3.out k (by decide)
    have HX4 := hid (ht4.keep HX3.out hRX)
    have HS4 := hid (ht4.keep HS3.out hRS)
    have HR4 := hid hr4
    have HT4 := hid (HT3.out.trans (ht4.mono fun k h => .inl h))
    clear hr4 ht4
    go_wp2
    refine hR' _ _ ⟨⟨v2, HX4.out, HS4.out⟩, rfl⟩ ?_
    clear hR' hO R'
    repeat (refine wpMix2_q rfl rfl ?_; go_big_quiet_step (fail); refine wpQuiet_nil ?_)
    refine wpMix2_done ?_
    simp only [List.drop_succ_cons, List.drop_nil]
    clear x0 s0 s1 s2 s3 s4 s5 s6 s7
    cases d with
    | true =>
      have x1 := cell_laid (i := 1) HX4.out rfl
      have y0 := cell_laid (i := 0) HS4.out rfl
      have yf0 := free_laid (i := 0) HS4.out
      go_wp2
      go_ret
      rw [HSE.out]
      exact ⟨rfl, HR4.out.tch (S := S) (Tch.set (P := fun k => k = S) rfl _) HS4.out (by decide) (by decide) (by decide), set_laid (i := 0) HS4.out (.int .i64 1), HT4.out.trans (Tch.set (P := fun k => k = R ∨ k = S) (.inr rfl) _)⟩
    | false =>
      have y0 := cell_laid (i := 0) HS4.out rfl
      have yf0 := free_laid (i := 0) HS4.out
      go_wp2
      go_ret
      rw [HSE.out]
      exact ⟨rfl, HR4.out.tch (S := S) (Tch.set (P := fun k => k = S) rfl _) HS4.out (by decide) (by decide) (by decide), set_laid (i := 0) HS4.out (.int .i64 7), HT4.out.trans (Tch.set (P := fun k => k = R ∨ k = S) (.inr rfl) _)⟩
set_option maxRecDepth 100000 in
set_option maxHeartbeats 8000000 in
theorem edit1_any (B R S : Nat) (M : Mem) (n : Nat) (s : Ede) (V : World) (h : RunC B R M n V) (hS : V.heap[S]? = some (.cells (ed8 s) 39 (0, 0))) (hB : B ≤ V.heap.size) (hok : okM M = true) (hs : s.Ok) (hph : s.ph = 1) (hn : n ≤ 1000000) :
    Calls Try.prog 78 #[.pointer (some ⟨R, 0, none⟩), .pointer (some ⟨S, 0, none⟩)] V (GivesEd B R S n (editE M s) V) := by
  obtain ⟨ph, cuts, link, at_, key, val, hash, next⟩ := s
  obtain rfl : ph = 1 := hph
  have HR := hid h
  have HS := hid hS
  have HSK := hid hs
  have ix := edg_at1
  obtain ⟨TB, hTB⟩ : ∃ T, editV = T := ⟨_, rfl⟩
  have HTB := hid hTB
  have HSG : Hid (∀ W, Calls Try.prog 77 #[] W (Ret TB W)) := hid (fun W => by rw [← hTB]; exact edg_any W)
  rw [hTB] at ix
  have r0 : ∀ z : Ext V, z.v.cell? ⟨S, 0, none⟩ = some (.int .i64 1) := fun z => cell_laid (keep_laid HS.out z.b) rfl
  have r1 : ∀ z : Ext V, z.v.cell? ⟨S, 1, none⟩ = some (.bool cuts) := fun z => cell_laid (keep_laid HS.out z.b) rfl
  have r2 : ∀ z : Ext V, z.v.cell? ⟨S, 2, none⟩ = some (.int .u64 ((link : Nat) : Int)) := fun z => cell_laid (keep_laid HS.out z.b) rfl
  have r3 : ∀ z : Ext V, z.v.cell? ⟨S, 3, none⟩ = some (.int .u64 ((at_ : Nat) : Int)) := fun z => cell_laid (keep_laid HS.out z.b) rfl
  have r4 : ∀ z : Ext V, z.v.cell? ⟨S, 4, none⟩ = some (.int .u64 ((key : Nat) : Int)) := fun z => cell_laid (keep_laid HS.out z.b) rfl
  have r5 : ∀ z : Ext V, z.v.cell? ⟨S, 5, none⟩ = some (.int .u64 ((val : Nat) : Int)) := fun z => cell_laid (keep_laid HS.out z.b) rfl
  have r6 : ∀ z : Ext V, z.v.cell? ⟨S, 6, none⟩ = some (.int .u64 ((hash : Nat) : Int)) := fun z => cell_laid (keep_laid HS.out z.b) rfl
  have r7 : ∀ z : Ext V, z.v.cell? ⟨S, 7, none⟩ = some (.int .u64 ((next : Nat) : Int)) := fun z => cell_laid (keep_laid HS.out z.b) rfl
  obtain ⟨D, hD⟩ : ∃ DX, V.drew = DX := ⟨_, rfl⟩
  have hbD : Below V.heap.size V D := by rw [← hD]; exact (Below.refl _ _).drew
  have HD := hid hD
  have HBD := hid hbD
  clear h hS hD hbD hTB hs
  go_enter Try.func78, Try.ntmps78
  go_upto_region 1 with (fail)
  go_cut [5] (fun t5 W => ∃ X : Nat, t5 = .pointer (some ⟨X, 0, none⟩) ∧ Hid (W.heap[X]? = some (.cells #[.func (.func 83) #[] #[], .int .i64 2] 142 (0, 0)) ∧ Below V.heap.size V W))
  case first =>
    refine wp_region_mix2 (fun W => ∃ z : Ext V, W = z.v) 8 (.q 1 (.q 2 (.q 3 (.q 4 (.h2 0 (.q 5 (.h 6 (.h 7 .done))) 6 (.h 0 (.q 5 (.h 7 .done)))))))) (by kernel_rfl) (by kernel_rfl) (by rw [HD.out]; exact ⟨⟨D, HBD.out⟩, rfl⟩) ?_
    rw [HD.out]
    repeat (refine wpMix2_q rfl rfl ?_; go_big_quiet_step (fail); refine wpQuiet_nil ?_)
    refine wpMix2_h2 ?_ ?_
    · skip
      refine wpMix2_h rfl fun R' hR' hO => ?_
      go_wp2_with fail
      refine (HSG.out D).mono ?_
      rintro e wc_ ⟨rfl, hbc⟩
      have HBc := hid (HBD.out.trans (hbc.mono HBD.out.size))
      clear hbc
      go_wp2
      refine hR' _ _ ⟨⟨wc_, HBc.out⟩, rfl⟩ ?_
      clear hR' hO R'
      repeat (refine wpMix2_q rfl rfl ?_; go_big_quiet_step (fail); refine wpQuiet_nil ?_)
      have HBwc_ := HBc
      refine wpMix2_h rfl fun R' hR' hO => ?_
      obtain ⟨wa_, hwa_, hba, hsa, hla⟩ := laid wc_ #[.nilFunc, .int .i64 0] 142
      obtain ⟨X, hX⟩ : ∃ X, wc_.heap.size = X := ⟨_, rfl⟩
      rw [hX] at hla
      have LX := hid (show V.heap.size ≤ X from by have := HBwc_.out.size; omega)
      have HBa := hid (HBwc_.out.trans (hba.mono HBwc_.out.size))
      have HXa := hid hla
      clear hba hsa hla
      go_wp2
      refine hR' _ _ ⟨⟨wa_, HBa.out⟩, rfl⟩ ?_
      clear hR' hO R'
      have HBwa_ := HBa
      have x0 := cell_laid (i := 0) HXa.out rfl
      have xf0 := free_laid (i := 0) HXa.out
      have x1 := cell_laid (i := 1) HXa.out rfl
      have xf1 := free_laid (i := 1) HXa.out
      obtain ⟨u1, hu1⟩ : ∃ U, (wa_.setCell ⟨X, 0, none⟩ (.func (.func 83) #[] #[])).setCell ⟨X, 1, none⟩ (.int .i64 2) = U := ⟨_, rfl⟩
      have HXu : Hid (u1.heap[X]? = some (.cells #[.func (.func 83) #[] #[], .int .i64 2] 142 (0, 0))) := hid (by rw [← hu1]; exact set_laid (i := 1) (set_laid (i := 0) HXa.out _) _)
      have HBu : Hid (Below V.heap.size V u1) := hid (by rw [← hu1]; exact (HBwa_.out.setCell (by exact LX.out) _).setCell (by exact LX.out) _)
      have HU1 := hid hu1
      clear hu1
      refine wpMix2_h rfl fun R' hR' hO => ?_
      go_wp2
      rw [HU1.out]
      refine hR' _ _ ⟨⟨u1, HBu.out⟩, rfl⟩ ?_
      clear hR' hO R' x0 xf0 x1 xf1
      refine wpMix2_done ?_
      simp only [List.drop_succ_cons, List.drop_nil]
      go_wp2
      go_meet
      exact ⟨X, rfl, hid ⟨HXu.out, HBu.out⟩⟩
    · skip
      refine wpMix2_h rfl fun R' hR' hO => ?_
      obtain ⟨wa_, hwa_, hba, hsa, hla⟩ := laid D #[.nilFunc, .int .i64 0] 142
      obtain ⟨X, hX⟩ : ∃ X, D.heap.size = X := ⟨_, rfl⟩
      rw [hX] at hla
      have LX := hid (show V.heap.size ≤ X from by have := HBD.out.size; omega)
      have HBa := hid (HBD.out.trans (hba.mono HBD.out.size))
      have HXa := hid hla
      clear hba hsa hla
      go_wp2
      refine hR' _ _ ⟨⟨wa_, HBa.out⟩, rfl⟩ ?_
      clear hR' hO R'
      have HBwa_ := HBa
      refine wpMix2_h rfl fun R' hR' hO => ?_
      go_wp2_with fail
      refine (HSG.out wa_).mono ?_
      rintro e wc_ ⟨rfl, hbc⟩
      have HBc := hid (HBwa_.out.trans (hbc.mono HBwa_.out.size))
      have HXc := hid (keep_laid HXa.out hbc)
      clear hbc
      go_wp2
      refine hR' _ _ ⟨⟨wc_, HBc.out⟩, rfl⟩ ?_
      clear hR' hO R'
      repeat (refine wpMix2_q rfl rfl ?_; go_big_quiet_step (fail); refine wpQuiet_nil ?_)
      have HBwc_ := HBc
      have x0 := cell_laid (i := 0) HXc.out rfl
      have xf0 := free_laid (i := 0) HXc.out
      have x1 := cell_laid (i := 1) HXc.out rfl
      have xf1 := free_laid (i := 1) HXc.out
      obtain ⟨u1, hu1⟩ : ∃ U, (wc_.setCell ⟨X, 0, none⟩ (.func (.func 83) #[] #[])).setCell ⟨X, 1, none⟩ (.int .i64 2) = U := ⟨_, rfl⟩
      have HXu : Hid (u1.heap[X]? = some (.cells #[.func (.func 83) #[] #[], .int .i64 2] 142 (0, 0))) := hid (by rw [← hu1]; exact set_laid (i := 1) (set_laid (i := 0) HXc.out _) _)
      have HBu : Hid (Below V.heap.size V u1) := hid (by rw [← hu1]; exact (HBwc_.out.setCell (by exact LX.out) _).setCell (by exact LX.out) _)
      have HU1 := hid hu1
      clear hu1
      refine wpMix2_h rfl fun R' hR' hO => ?_
      go_wp2
      rw [HU1.out]
      refine hR' _ _ ⟨⟨u1, HBu.out⟩, rfl⟩ ?_
      clear hR' hO R' x0 xf0 x1 xf1
      refine wpMix2_done ?_
      simp only [List.drop_succ_cons, List.drop_nil]
      go_wp2
      go_meet
      exact ⟨X, rfl, hid ⟨HXu.out, HBu.out⟩⟩
  case rest =>
    obtain ⟨X, rfl, hcc⟩ := hcut
    obtain ⟨w1, hw1⟩ : ∃ W, W = wc := ⟨_, rfl⟩
    subst hw1
    have HX := hid hcc.out.1
    have HR1 := hid (HR.out.grow hcc.out.2)
    have HS1 := hid (keep_laid HS.out hcc.out.2)
    have HT1 := hid (Tch.of_below (P := fun k => k = R ∨ k = S) hcc.out.2)
    have hBw : B ≤ w1.heap.size := Nat.le_trans hB hcc.out.2.size
    have x0 := cell_laid (i := 0) HX.out rfl
    have q1 := eq_fnE
    clear hcc
    go_upto_region 4 with (fail)
    obtain ⟨⟨M', x, d⟩, hX⟩ : ∃ X, stepM M true ((posL at_ 1 : Nat) : Int) val = X := ⟨_, rfl⟩
    have HSE : Hid (editE M ⟨1, cuts, link, at_, key, val, hash, next⟩ = (M', (if d = true then (⟨2, cuts, link, at_, key, val, hash, next⟩ : Ede) else (⟨7, cuts, link, at_, key, val, hash, next⟩ : Ede)), true)) := hid (by
      have e0 : editE M ⟨1, cuts, link, at_, key, val, hash, next⟩ = ((stepM M true ((posL at_ 1 : Nat) : Int) val).1, (if (stepM M true ((posL at_ 1 : Nat) : Int) val).2.2 = true then (⟨2, cuts, link, at_, key, val, hash, next⟩ : Ede) else (⟨7, cuts, link, at_, key, val, hash, next⟩ : Ede)), true) := by
        unfold editE; rw [if_neg (show ¬ ((6 : Int) ≤ 1) by decide)]; rfl
      rw [e0]; rw [hX])
    have HAC : Hid (∀ W, RunC B R M n W → B ≤ W.heap.size → Calls Try.prog 75 #[.pointer (some ⟨R, 0, none⟩), .agg #[.int .i64 2, .int .i64 ((posL at_ 1 : Nat) : Int), .int .u64 0, .int .u64 ((val : Nat) : Int)]] W (GivesAc B R n (M', x, d) W)) := hid (fun W h1 h2 => by have := access_any B R M n true 2 ((posL at_ 1 : Nat) : Int) val W h1 h2 hok (by unfold posL; omega) rfl hn; rw [hX] at this; exact this)
    obtain ⟨D2, hD2⟩ : ∃ DX, w1.drew = DX := ⟨_, rfl⟩
    have hbD : Below w1.heap.size w1 D2 := by rw [← hD2]; exact (Below.refl _ _).drew
    have HD2 := hid hD2
    have HX2 := hid (keep_laid HX.out hbD)
    have HS2 := hid (keep_laid HS1.out hbD)
    have HR2 := hid (HR1.out.grow hbD)
    have HT2 := hid (HT1.out.trans (Tch.of_below hbD))
    have hB2 := Nat.le_trans hBw hbD.size
    have HND : Hid (Calls Try.prog 83 #[.agg #[.int .i64 1, .bool cuts, .int .u64 ((link : Nat) : Int), .int .u64 ((at_ : Nat) : Int), .int .u64 ((key : Nat) : Int), .int .u64 ((val : Nat) : Int), .int .u64 ((hash : Nat) : Int), .int .u64 ((next : Nat) : Int)]] D2 (Ret (.agg #[.int .i64 2, .int .i64 ((posL at_ 1 : Nat) : Int), .int .u64 0, .int .u64 ((val : Nat) : Int)]) D2)) := hid (by exact ned1_any ⟨1, cuts, link, at_, key, val, hash, next⟩ D2 HSK.out)
    clear hD2 hbD hX x0 q1
    haveI : Nonempty (RXE X S #[.func (.func 83) #[] #[], .int .i64 2] (ed8 ⟨1, cuts, link, at_, key, val, hash, next⟩)) := ⟨⟨D2, HX2.out, HS2.out⟩⟩
    have x0 : ∀ z : RXE X S #[.func (.func 83) #[] #[], .int .i64 2] (ed8 ⟨1, cuts, link, at_, key, val, hash, next⟩), z.w.cell? ⟨X, 0, none⟩ = some (.func (.func 83) #[] #[]) := fun z => cell_laid z.bx rfl
    have s0 : ∀ z : RXE X S #[.func (.func 83) #[] #[], .int .i64 2] (ed8 ⟨1, cuts, link, at_, key, val, hash, next⟩), z.w.cell? ⟨S, 0, none⟩ = some (.int .i64 1) := fun z => cell_laid z.bs rfl
    have s1 : ∀ z : RXE X S #[.func (.func 83) #[] #[], .int .i64 2] (ed8 ⟨1, cuts, link, at_, key, val, hash, next⟩), z.w.cell? ⟨S, 1, none⟩ = some (.bool cuts) := fun z => cell_laid z.bs rfl
    have s2 : ∀ z : RXE X S #[.func (.func 83) #[] #[], .int .i64 2] (ed8 ⟨1, cuts, link, at_, key, val, hash, next⟩), z.w.cell? ⟨S, 2, none⟩ = some (.int .u64 ((link : Nat) : Int)) := fun z => cell_laid z.bs rfl
    have s3 : ∀ z : RXE X S #[.func (.func 83) #[] #[], .int .i64 2] (ed8 ⟨1, cuts, link, at_, key, val, hash, next⟩), z.w.cell? ⟨S, 3, none⟩ = some (.int .u64 ((at_ : Nat) : Int)) := fun z => cell_laid z.bs rfl
    have s4 : ∀ z : RXE X S #[.func (.func 83) #[] #[], .int .i64 2] (ed8 ⟨1, cuts, link, at_, key, val, hash, next⟩), z.w.cell? ⟨S, 4, none⟩ = some (.int .u64 ((key : Nat) : Int)) := fun z => cell_laid z.bs rfl
    have s5 : ∀ z : RXE X S #[.func (.func 83) #[] #[], .int .i64 2] (ed8 ⟨1, cuts, link, at_, key, val, hash, next⟩), z.w.cell? ⟨S, 5, none⟩ = some (.int .u64 ((val : Nat) : Int)) := fun z => cell_laid z.bs rfl
    have s6 : ∀ z : RXE X S #[.func (.func 83) #[] #[], .int .i64 2] (ed8 ⟨1, cuts, link, at_, key, val, hash, next⟩), z.w.cell? ⟨S, 6, none⟩ = some (.int .u64 ((hash : Nat) : Int)) := fun z => cell_laid z.bs rfl
    have s7 : ∀ z : RXE X S #[.func (.func 83) #[] #[], .int .i64 2] (ed8 ⟨1, cuts, link, at_, key, val, hash, next⟩), z.w.cell? ⟨S, 7, none⟩ = some (.int .u64 ((next : Nat) : Int)) := fun z => cell_laid z.bs rfl
    refine wp_region_mix2 (fun W => ∃ z : RXE X S #[.func (.func 83) #[] #[], .int .i64 2] (ed8 ⟨1, cuts, link, at_, key, val, hash, next⟩), W = z.w) 13 (.q 0 (.q 1 (.q 2 (.q 3 (.q 4 (.q 5 (.h 6 (.h 7 (.q 8 (.q 9 (.q 10 (.q 11 (.q 12 .done))))))))))))) (by kernel_rfl) (by kernel_rfl) (by rw [HD2.out]; exact ⟨⟨D2, HX2.out, HS2.out⟩, rfl⟩) ?_
    rw [HD2.out]
    repeat (refine wpMix2_q rfl rfl ?_; go_big_quiet_step (fail); refine wpQuiet_nil ?_)
    refine wpMix2_h rfl fun R' hR' hO => ?_
    go_wp2_with fail
    refine HND.out.mono ?_
    rintro e v1 ⟨rfl, hb⟩
    have HX3 := hid (keep_laid HX2.out hb)
    have HS3 := hid (keep_laid HS2.out hb)
    have HR3 := hid (HR2.out.grow hb)
    have HT3 := hid (HT2.out.trans (Tch.of_below hb))
    have hB3 := Nat.le_trans hB2 hb.size
    clear hb
    go_wp2
    refine hR' _ _ ⟨⟨v1, HX3.out, HS3.out⟩, rfl⟩ ?_
    clear hR' hO R'
    repeat (refine wpMix2_q rfl rfl ?_; go_big_quiet_step (fail); refine wpQuiet_nil ?_)
    refine wpMix2_h rfl fun R' hR' hO => ?_
    go_wp2_with fail
    refine (HAC.out v1 HR3.out hB3).mono ?_
    rintro e v2 ⟨rfl, hr4, ht4⟩
    have hRX : X ≠ R := by obtain ⟨_, _, _, _, k, _⟩ := HR3.out; exact type_ne HX3.out k (by decide)
    have hRS : S ≠ R := by obtain ⟨_, _, _, _, k, _⟩ := HR3.out; exact type_ne HS3.out k (by decide)
    have HX4 := hid (ht4.keep HX3.out hRX)
    have HS4 := hid (ht4.keep HS3.out hRS)
    have HR4 := hid hr4
    have HT4 := hid (HT3.out.trans (ht4.mono fun k h => .inl h))
    clear hr4 ht4
    go_wp2
    refine hR' _ _ ⟨⟨v2, HX4.out, HS4.out⟩, rfl⟩ ?_
    clear hR' hO R'
    repeat (refine wpMix2_q rfl rfl ?_; go_big_quiet_step (fail); refine wpQuiet_nil ?_)
    refine wpMix2_done ?_
    simp only [List.drop_succ_cons, List.drop_nil]
    clear x0 s0 s1 s2 s3 s4 s5 s6 s7
    cases d with
    | true =>
      have x1 := cell_laid (i := 1) HX4.out rfl
      have y0 := cell_laid (i := 0) HS4.out rfl
      have yf0 := free_laid (i := 0) HS4.out
      go_wp2
      go_ret
      rw [HSE.out]
      exact ⟨rfl, HR4.out.tch (S := S) (Tch.set (P := fun k => k = S) rfl _) HS4.out (by decide) (by decide) (by decide), set_laid (i := 0) HS4.out (.int .i64 2), HT4.out.trans (Tch.set (P := fun k => k = R ∨ k = S) (.inr rfl) _)⟩
    | false =>
      have y0 := cell_laid (i := 0) HS4.out rfl
      have yf0 := free_laid (i := 0) HS4.out
      go_wp2
      go_ret
      rw [HSE.out]
      exact ⟨rfl, HR4.out.tch (S := S) (Tch.set (P := fun k => k = S) rfl _) HS4.out (by decide) (by decide) (by decide), set_laid (i := 0) HS4.out (.int .i64 7), HT4.out.trans (Tch.set (P := fun k => k = R ∨ k = S) (.inr rfl) _)⟩
set_option maxRecDepth 100000 in
set_option maxHeartbeats 8000000 in
theorem edit2_any (B R S : Nat) (M : Mem) (n : Nat) (s : Ede) (V : World) (h : RunC B R M n V) (hS : V.heap[S]? = some (.cells (ed8 s) 39 (0, 0))) (hB : B ≤ V.heap.size) (hok : okM M = true) (hs : s.Ok) (hph : s.ph = 2) (hn : n ≤ 1000000) :
    Calls Try.prog 78 #[.pointer (some ⟨R, 0, none⟩), .pointer (some ⟨S, 0, none⟩)] V (GivesEd B R S n (editE M s) V) := by
  obtain ⟨ph, cuts, link, at_, key, val, hash, next⟩ := s
  obtain rfl : ph = 2 := hph
  have HR := hid h
  have HS := hid hS
  have HSK := hid hs
  have ix := edg_at2
  obtain ⟨TB, hTB⟩ : ∃ T, editV = T := ⟨_, rfl⟩
  have HTB := hid hTB
  have HSG : Hid (∀ W, Calls Try.prog 77 #[] W (Ret TB W)) := hid (fun W => by rw [← hTB]; exact edg_any W)
  rw [hTB] at ix
  have r0 : ∀ z : Ext V, z.v.cell? ⟨S, 0, none⟩ = some (.int .i64 2) := fun z => cell_laid (keep_laid HS.out z.b) rfl
  have r1 : ∀ z : Ext V, z.v.cell? ⟨S, 1, none⟩ = some (.bool cuts) := fun z => cell_laid (keep_laid HS.out z.b) rfl
  have r2 : ∀ z : Ext V, z.v.cell? ⟨S, 2, none⟩ = some (.int .u64 ((link : Nat) : Int)) := fun z => cell_laid (keep_laid HS.out z.b) rfl
  have r3 : ∀ z : Ext V, z.v.cell? ⟨S, 3, none⟩ = some (.int .u64 ((at_ : Nat) : Int)) := fun z => cell_laid (keep_laid HS.out z.b) rfl
  have r4 : ∀ z : Ext V, z.v.cell? ⟨S, 4, none⟩ = some (.int .u64 ((key : Nat) : Int)) := fun z => cell_laid (keep_laid HS.out z.b) rfl
  have r5 : ∀ z : Ext V, z.v.cell? ⟨S, 5, none⟩ = some (.int .u64 ((val : Nat) : Int)) := fun z => cell_laid (keep_laid HS.out z.b) rfl
  have r6 : ∀ z : Ext V, z.v.cell? ⟨S, 6, none⟩ = some (.int .u64 ((hash : Nat) : Int)) := fun z => cell_laid (keep_laid HS.out z.b) rfl
  have r7 : ∀ z : Ext V, z.v.cell? ⟨S, 7, none⟩ = some (.int .u64 ((next : Nat) : Int)) := fun z => cell_laid (keep_laid HS.out z.b) rfl
  obtain ⟨D, hD⟩ : ∃ DX, V.drew = DX := ⟨_, rfl⟩
  have hbD : Below V.heap.size V D := by rw [← hD]; exact (Below.refl _ _).drew
  have HD := hid hD
  have HBD := hid hbD
  clear h hS hD hbD hTB hs
  go_enter Try.func78, Try.ntmps78
  go_upto_region 1 with (fail)
  go_cut [5] (fun t5 W => ∃ X : Nat, t5 = .pointer (some ⟨X, 0, none⟩) ∧ Hid (W.heap[X]? = some (.cells #[.func (.func 84) #[] #[], .int .i64 3] 142 (0, 0)) ∧ Below V.heap.size V W))
  case first =>
    refine wp_region_mix2 (fun W => ∃ z : Ext V, W = z.v) 8 (.q 1 (.q 2 (.q 3 (.q 4 (.h2 0 (.q 5 (.h 6 (.h 7 .done))) 6 (.h 0 (.q 5 (.h 7 .done)))))))) (by kernel_rfl) (by kernel_rfl) (by rw [HD.out]; exact ⟨⟨D, HBD.out⟩, rfl⟩) ?_
    rw [HD.out]
    repeat (refine wpMix2_q rfl rfl ?_; go_big_quiet_step (fail); refine wpQuiet_nil ?_)
    refine wpMix2_h2 ?_ ?_
    · skip
      refine wpMix2_h rfl fun R' hR' hO => ?_
      go_wp2_with fail
      refine (HSG.out D).mono ?_
      rintro e wc_ ⟨rfl, hbc⟩
      have HBc := hid (HBD.out.trans (hbc.mono HBD.out.size))
      clear hbc
      go_wp2
      refine hR' _ _ ⟨⟨wc_, HBc.out⟩, rfl⟩ ?_
      clear hR' hO R'
      repeat (refine wpMix2_q rfl rfl ?_; go_big_quiet_step (fail); refine wpQuiet_nil ?_)
      have HBwc_ := HBc
      refine wpMix2_h rfl fun R' hR' hO => ?_
      obtain ⟨wa_, hwa_, hba, hsa, hla⟩ := laid wc_ #[.nilFunc, .int .i64 0] 142
      obtain ⟨X, hX⟩ : ∃ X, wc_.heap.size = X := ⟨_, rfl⟩
      rw [hX] at hla
      have LX := hid (show V.heap.size ≤ X from by have := HBwc_.out.size; omega)
      have HBa := hid (HBwc_.out.trans (hba.mono HBwc_.out.size))
      have HXa := hid hla
      clear hba hsa hla
      go_wp2
      refine hR' _ _ ⟨⟨wa_, HBa.out⟩, rfl⟩ ?_
      clear hR' hO R'
      have HBwa_ := HBa
      have x0 := cell_laid (i := 0) HXa.out rfl
      have xf0 := free_laid (i := 0) HXa.out
      have x1 := cell_laid (i := 1) HXa.out rfl
      have xf1 := free_laid (i := 1) HXa.out
      obtain ⟨u1, hu1⟩ : ∃ U, (wa_.setCell ⟨X, 0, none⟩ (.func (.func 84) #[] #[])).setCell ⟨X, 1, none⟩ (.int .i64 3) = U := ⟨_, rfl⟩
      have HXu : Hid (u1.heap[X]? = some (.cells #[.func (.func 84) #[] #[], .int .i64 3] 142 (0, 0))) := hid (by rw [← hu1]; exact set_laid (i := 1) (set_laid (i := 0) HXa.out _) _)
      have HBu : Hid (Below V.heap.size V u1) := hid (by rw [← hu1]; exact (HBwa_.out.setCell (by exact LX.out) _).setCell (by exact LX.out) _)
      have HU1 := hid hu1
      clear hu1
      refine wpMix2_h rfl fun R' hR' hO => ?_
      go_wp2
      rw [HU1.out]
      refine hR' _ _ ⟨⟨u1, HBu.out⟩, rfl⟩ ?_
      clear hR' hO R' x0 xf0 x1 xf1
      refine wpMix2_done ?_
      simp only [List.drop_succ_cons, List.drop_nil]
      go_wp2
      go_meet
      exact ⟨X, rfl, hid ⟨HXu.out, HBu.out⟩⟩
    · skip
      refine wpMix2_h rfl fun R' hR' hO => ?_
      obtain ⟨wa_, hwa_, hba, hsa, hla⟩ := laid D #[.nilFunc, .int .i64 0] 142
      obtain ⟨X, hX⟩ : ∃ X, D.heap.size = X := ⟨_, rfl⟩
      rw [hX] at hla
      have LX := hid (show V.heap.size ≤ X from by have := HBD.out.size; omega)
      have HBa := hid (HBD.out.trans (hba.mono HBD.out.size))
      have HXa := hid hla
      clear hba hsa hla
      go_wp2
      refine hR' _ _ ⟨⟨wa_, HBa.out⟩, rfl⟩ ?_
      clear hR' hO R'
      have HBwa_ := HBa
      refine wpMix2_h rfl fun R' hR' hO => ?_
      go_wp2_with fail
      refine (HSG.out wa_).mono ?_
      rintro e wc_ ⟨rfl, hbc⟩
      have HBc := hid (HBwa_.out.trans (hbc.mono HBwa_.out.size))
      have HXc := hid (keep_laid HXa.out hbc)
      clear hbc
      go_wp2
      refine hR' _ _ ⟨⟨wc_, HBc.out⟩, rfl⟩ ?_
      clear hR' hO R'
      repeat (refine wpMix2_q rfl rfl ?_; go_big_quiet_step (fail); refine wpQuiet_nil ?_)
      have HBwc_ := HBc
      have x0 := cell_laid (i := 0) HXc.out rfl
      have xf0 := free_laid (i := 0) HXc.out
      have x1 := cell_laid (i := 1) HXc.out rfl
      have xf1 := free_laid (i := 1) HXc.out
      obtain ⟨u1, hu1⟩ : ∃ U, (wc_.setCell ⟨X, 0, none⟩ (.func (.func 84) #[] #[])).setCell ⟨X, 1, none⟩ (.int .i64 3) = U := ⟨_, rfl⟩
      have HXu : Hid (u1.heap[X]? = some (.cells #[.func (.func 84) #[] #[], .int .i64 3] 142 (0, 0))) := hid (by rw [← hu1]; exact set_laid (i := 1) (set_laid (i := 0) HXc.out _) _)
      have HBu : Hid (Below V.heap.size V u1) := hid (by rw [← hu1]; exact (HBwc_.out.setCell (by exact LX.out) _).setCell (by exact LX.out) _)
      have HU1 := hid hu1
      clear hu1
      refine wpMix2_h rfl fun R' hR' hO => ?_
      go_wp2
      rw [HU1.out]
      refine hR' _ _ ⟨⟨u1, HBu.out⟩, rfl⟩ ?_
      clear hR' hO R' x0 xf0 x1 xf1
      refine wpMix2_done ?_
      simp only [List.drop_succ_cons, List.drop_nil]
      go_wp2
      go_meet
      exact ⟨X, rfl, hid ⟨HXu.out, HBu.out⟩⟩
  case rest =>
    obtain ⟨X, rfl, hcc⟩ := hcut
    obtain ⟨w1, hw1⟩ : ∃ W, W = wc := ⟨_, rfl⟩
    subst hw1
    have HX := hid hcc.out.1
    have HR1 := hid (HR.out.grow hcc.out.2)
    have HS1 := hid (keep_laid HS.out hcc.out.2)
    have HT1 := hid (Tch.of_below (P := fun k => k = R ∨ k = S) hcc.out.2)
    have hBw : B ≤ w1.heap.size := Nat.le_trans hB hcc.out.2.size
    have x0 := cell_laid (i := 0) HX.out rfl
    have q1 := eq_fnE
    clear hcc
    go_upto_region 4 with (fail)
    obtain ⟨⟨M', x, d⟩, hX⟩ : ∃ X, stepM M true ((posL at_ 3 : Nat) : Int) hash = X := ⟨_, rfl⟩
    have HSE : Hid (editE M ⟨2, cuts, link, at_, key, val, hash, next⟩ = (M', (if d = true then (⟨3, cuts, link, at_, key, val, hash, next⟩ : Ede) else (⟨7, cuts, link, at_, key, val, hash, next⟩ : Ede)), true)) := hid (by
      have e0 : editE M ⟨2, cuts, link, at_, key, val, hash, next⟩ = ((stepM M true ((posL at_ 3 : Nat) : Int) hash).1, (if (stepM M true ((posL at_ 3 : Nat) : Int) hash).2.2 = true then (⟨3, cuts, link, at_, key, val, hash, next⟩ : Ede) else (⟨7, cuts, link, at_, key, val, hash, next⟩ : Ede)), true) := by
        unfold editE; rw [if_neg (show ¬ ((6 : Int) ≤ 2) by decide)]; rfl
      rw [e0]; rw [hX])
    have HAC : Hid (∀ W, RunC B R M n W → B ≤ W.heap.size → Calls Try.prog 75 #[.pointer (some ⟨R, 0, none⟩), .agg #[.int .i64 2, .int .i64 ((posL at_ 3 : Nat) : Int), .int .u64 0, .int .u64 ((hash : Nat) : Int)]] W (GivesAc B R n (M', x, d) W)) := hid (fun W h1 h2 => by have := access_any B R M n true 2 ((posL at_ 3 : Nat) : Int) hash W h1 h2 hok (by unfold posL; omega) rfl hn; rw [hX] at this; exact this)
    obtain ⟨D2, hD2⟩ : ∃ DX, w1.drew = DX := ⟨_, rfl⟩
    have hbD : Below w1.heap.size w1 D2 := by rw [← hD2]; exact (Below.refl _ _).drew
    have HD2 := hid hD2
    have HX2 := hid (keep_laid HX.out hbD)
    have HS2 := hid (keep_laid HS1.out hbD)
    have HR2 := hid (HR1.out.grow hbD)
    have HT2 := hid (HT1.out.trans (Tch.of_below hbD))
    have hB2 := Nat.le_trans hBw hbD.size
    have HND : Hid (Calls Try.prog 84 #[.agg #[.int .i64 2, .bool cuts, .int .u64 ((link : Nat) : Int), .int .u64 ((at_ : Nat) : Int), .int .u64 ((key : Nat) : Int), .int .u64 ((val : Nat) : Int), .int .u64 ((hash : Nat) : Int), .int .u64 ((next : Nat) : Int)]] D2 (Ret (.agg #[.int .i64 2, .int .i64 ((posL at_ 3 : Nat) : Int), .int .u64 0, .int .u64 ((hash : Nat) : Int)]) D2)) := hid (by exact ned2_any ⟨2, cuts, link, at_, key, val, hash, next⟩ D2 HSK.out)
    clear hD2 hbD hX x0 q1
    haveI : Nonempty (RXE X S #[.func (.func 84) #[] #[], .int .i64 3] (ed8 ⟨2, cuts, link, at_, key, val, hash, next⟩)) := ⟨⟨D2, HX2.out, HS2.out⟩⟩
    have x0 : ∀ z : RXE X S #[.func (.func 84) #[] #[], .int .i64 3] (ed8 ⟨2, cuts, link, at_, key, val, hash, next⟩), z.w.cell? ⟨X, 0, none⟩ = some (.func (.func 84) #[] #[]) := fun z => cell_laid z.bx rfl
    have s0 : ∀ z : RXE X S #[.func (.func 84) #[] #[], .int .i64 3] (ed8 ⟨2, cuts, link, at_, key, val, hash, next⟩), z.w.cell? ⟨S, 0, none⟩ = some (.int .i64 2) := fun z => cell_laid z.bs rfl
    have s1 : ∀ z : RXE X S #[.func (.func 84) #[] #[], .int .i64 3] (ed8 ⟨2, cuts, link, at_, key, val, hash, next⟩), z.w.cell? ⟨S, 1, none⟩ = some (.bool cuts) := fun z => cell_laid z.bs rfl
    have s2 : ∀ z : RXE X S #[.func (.func 84) #[] #[], .int .i64 3] (ed8 ⟨2, cuts, link, at_, key, val, hash, next⟩), z.w.cell? ⟨S, 2, none⟩ = some (.int .u64 ((link : Nat) : Int)) := fun z => cell_laid z.bs rfl
    have s3 : ∀ z : RXE X S #[.func (.func 84) #[] #[], .int .i64 3] (ed8 ⟨2, cuts, link, at_, key, val, hash, next⟩), z.w.cell? ⟨S, 3, none⟩ = some (.int .u64 ((at_ : Nat) : Int)) := fun z => cell_laid z.bs rfl
    have s4 : ∀ z : RXE X S #[.func (.func 84) #[] #[], .int .i64 3] (ed8 ⟨2, cuts, link, at_, key, val, hash, next⟩), z.w.cell? ⟨S, 4, none⟩ = some (.int .u64 ((key : Nat) : Int)) := fun z => cell_laid z.bs rfl
    have s5 : ∀ z : RXE X S #[.func (.func 84) #[] #[], .int .i64 3] (ed8 ⟨2, cuts, link, at_, key, val, hash, next⟩), z.w.cell? ⟨S, 5, none⟩ = some (.int .u64 ((val : Nat) : Int)) := fun z => cell_laid z.bs rfl
    have s6 : ∀ z : RXE X S #[.func (.func 84) #[] #[], .int .i64 3] (ed8 ⟨2, cuts, link, at_, key, val, hash, next⟩), z.w.cell? ⟨S, 6, none⟩ = some (.int .u64 ((hash : Nat) : Int)) := fun z => cell_laid z.bs rfl
    have s7 : ∀ z : RXE X S #[.func (.func 84) #[] #[], .int .i64 3] (ed8 ⟨2, cuts, link, at_, key, val, hash, next⟩), z.w.cell? ⟨S, 7, none⟩ = some (.int .u64 ((next : Nat) : Int)) := fun z => cell_laid z.bs rfl
    refine wp_region_mix2 (fun W => ∃ z : RXE X S #[.func (.func 84) #[] #[], .int .i64 3] (ed8 ⟨2, cuts, link, at_, key, val, hash, next⟩), W = z.w) 13 (.q 0 (.q 1 (.q 2 (.q 3 (.q 4 (.q 5 (.h 6 (.h 7 (.q 8 (.q 9 (.q 10 (.q 11 (.q 12 .done))))))))))))) (by kernel_rfl) (by kernel_rfl) (by rw [HD2.out]; exact ⟨⟨D2, HX2.out, HS2.out⟩, rfl⟩) ?_
    rw [HD2.out]
    repeat (refine wpMix2_q rfl rfl ?_; go_big_quiet_step (fail); refine wpQuiet_nil ?_)
    refine wpMix2_h rfl fun R' hR' hO => ?_
    go_wp2_with fail
    refine HND.out.mono ?_
    rintro e v1 ⟨rfl, hb⟩
    have HX3 := hid (keep_laid HX2.out hb)
    have HS3 := hid (keep_laid HS2.out hb)
    have HR3 := hid (HR2.out.grow hb)
    have HT3 := hid (HT2.out.trans (Tch.of_below hb))
    have hB3 := Nat.le_trans hB2 hb.size
    clear hb
    go_wp2
    refine hR' _ _ ⟨⟨v1, HX3.out, HS3.out⟩, rfl⟩ ?_
    clear hR' hO R'
    repeat (refine wpMix2_q rfl rfl ?_; go_big_quiet_step (fail); refine wpQuiet_nil ?_)
    refine wpMix2_h rfl fun R' hR' hO => ?_
    go_wp2_with fail
    refine (HAC.out v1 HR3.out hB3).mono ?_
    rintro e v2 ⟨rfl, hr4, ht4⟩
    have hRX : X ≠ R := by obtain ⟨_, _, _, _, k, _⟩ := HR3.out; exact type_ne HX3.out k (by decide)
    have hRS : S ≠ R := by obtain ⟨_, _, _, _, k, _⟩ := HR3.out; exact type_ne HS3.out k (by decide)
    have HX4 := hid (ht4.keep HX3.out hRX)
    have HS4 := hid (ht4.keep HS3.out hRS)
    have HR4 := hid hr4
    have HT4 := hid (HT3.out.trans (ht4.mono fun k h => .inl h))
    clear hr4 ht4
    go_wp2
    refine hR' _ _ ⟨⟨v2, HX4.out, HS4.out⟩, rfl⟩ ?_
    clear hR' hO R'
    repeat (refine wpMix2_q rfl rfl ?_; go_big_quiet_step (fail); refine wpQuiet_nil ?_)
    refine wpMix2_done ?_
    simp only [List.drop_succ_cons, List.drop_nil]
    clear x0 s0 s1 s2 s3 s4 s5 s6 s7
    cases d with
    | true =>
      have x1 := cell_laid (i := 1) HX4.out rfl
      have y0 := cell_laid (i := 0) HS4.out rfl
      have yf0 := free_laid (i := 0) HS4.out
      go_wp2
      go_ret
      rw [HSE.out]
      exact ⟨rfl, HR4.out.tch (S := S) (Tch.set (P := fun k => k = S) rfl _) HS4.out (by decide) (by decide) (by decide), set_laid (i := 0) HS4.out (.int .i64 3), HT4.out.trans (Tch.set (P := fun k => k = R ∨ k = S) (.inr rfl) _)⟩
    | false =>
      have y0 := cell_laid (i := 0) HS4.out rfl
      have yf0 := free_laid (i := 0) HS4.out
      go_wp2
      go_ret
      rw [HSE.out]
      exact ⟨rfl, HR4.out.tch (S := S) (Tch.set (P := fun k => k = S) rfl _) HS4.out (by decide) (by decide) (by decide), set_laid (i := 0) HS4.out (.int .i64 7), HT4.out.trans (Tch.set (P := fun k => k = R ∨ k = S) (.inr rfl) _)⟩
set_option maxRecDepth 100000 in
set_option maxHeartbeats 8000000 in
theorem edit3_any (B R S : Nat) (M : Mem) (n : Nat) (s : Ede) (V : World) (h : RunC B R M n V) (hS : V.heap[S]? = some (.cells (ed8 s) 39 (0, 0))) (hB : B ≤ V.heap.size) (hok : okM M = true) (hs : s.Ok) (hph : s.ph = 3) (hn : n ≤ 1000000) :
    Calls Try.prog 78 #[.pointer (some ⟨R, 0, none⟩), .pointer (some ⟨S, 0, none⟩)] V (GivesEd B R S n (editE M s) V) := by
  obtain ⟨ph, cuts, link, at_, key, val, hash, next⟩ := s
  obtain rfl : ph = 3 := hph
  have HR := hid h
  have HS := hid hS
  have HSK := hid hs
  have ix := edg_at3
  obtain ⟨TB, hTB⟩ : ∃ T, editV = T := ⟨_, rfl⟩
  have HTB := hid hTB
  have HSG : Hid (∀ W, Calls Try.prog 77 #[] W (Ret TB W)) := hid (fun W => by rw [← hTB]; exact edg_any W)
  rw [hTB] at ix
  have r0 : ∀ z : Ext V, z.v.cell? ⟨S, 0, none⟩ = some (.int .i64 3) := fun z => cell_laid (keep_laid HS.out z.b) rfl
  have r1 : ∀ z : Ext V, z.v.cell? ⟨S, 1, none⟩ = some (.bool cuts) := fun z => cell_laid (keep_laid HS.out z.b) rfl
  have r2 : ∀ z : Ext V, z.v.cell? ⟨S, 2, none⟩ = some (.int .u64 ((link : Nat) : Int)) := fun z => cell_laid (keep_laid HS.out z.b) rfl
  have r3 : ∀ z : Ext V, z.v.cell? ⟨S, 3, none⟩ = some (.int .u64 ((at_ : Nat) : Int)) := fun z => cell_laid (keep_laid HS.out z.b) rfl
  have r4 : ∀ z : Ext V, z.v.cell? ⟨S, 4, none⟩ = some (.int .u64 ((key : Nat) : Int)) := fun z => cell_laid (keep_laid HS.out z.b) rfl
  have r5 : ∀ z : Ext V, z.v.cell? ⟨S, 5, none⟩ = some (.int .u64 ((val : Nat) : Int)) := fun z => cell_laid (keep_laid HS.out z.b) rfl
  have r6 : ∀ z : Ext V, z.v.cell? ⟨S, 6, none⟩ = some (.int .u64 ((hash : Nat) : Int)) := fun z => cell_laid (keep_laid HS.out z.b) rfl
  have r7 : ∀ z : Ext V, z.v.cell? ⟨S, 7, none⟩ = some (.int .u64 ((next : Nat) : Int)) := fun z => cell_laid (keep_laid HS.out z.b) rfl
  obtain ⟨D, hD⟩ : ∃ DX, V.drew = DX := ⟨_, rfl⟩
  have hbD : Below V.heap.size V D := by rw [← hD]; exact (Below.refl _ _).drew
  have HD := hid hD
  have HBD := hid hbD
  clear h hS hD hbD hTB hs
  go_enter Try.func78, Try.ntmps78
  go_upto_region 1 with (fail)
  go_cut [5] (fun t5 W => ∃ X : Nat, t5 = .pointer (some ⟨X, 0, none⟩) ∧ Hid (W.heap[X]? = some (.cells #[.func (.func 85) #[] #[], .int .i64 5] 142 (0, 0)) ∧ Below V.heap.size V W))
  case first =>
    refine wp_region_mix2 (fun W => ∃ z : Ext V, W = z.v) 8 (.q 1 (.q 2 (.q 3 (.q 4 (.h2 0 (.q 5 (.h 6 (.h 7 .done))) 6 (.h 0 (.q 5 (.h 7 .done)))))))) (by kernel_rfl) (by kernel_rfl) (by rw [HD.out]; exact ⟨⟨D, HBD.out⟩, rfl⟩) ?_
    rw [HD.out]
    repeat (refine wpMix2_q rfl rfl ?_; go_big_quiet_step (fail); refine wpQuiet_nil ?_)
    refine wpMix2_h2 ?_ ?_
    · skip
      refine wpMix2_h rfl fun R' hR' hO => ?_
      go_wp2_with fail
      refine (HSG.out D).mono ?_
      rintro e wc_ ⟨rfl, hbc⟩
      have HBc := hid (HBD.out.trans (hbc.mono HBD.out.size))
      clear hbc
      go_wp2
      refine hR' _ _ ⟨⟨wc_, HBc.out⟩, rfl⟩ ?_
      clear hR' hO R'
      repeat (refine wpMix2_q rfl rfl ?_; go_big_quiet_step (fail); refine wpQuiet_nil ?_)
      have HBwc_ := HBc
      refine wpMix2_h rfl fun R' hR' hO => ?_
      obtain ⟨wa_, hwa_, hba, hsa, hla⟩ := laid wc_ #[.nilFunc, .int .i64 0] 142
      obtain ⟨X, hX⟩ : ∃ X, wc_.heap.size = X := ⟨_, rfl⟩
      rw [hX] at hla
      have LX := hid (show V.heap.size ≤ X from by have := HBwc_.out.size; omega)
      have HBa := hid (HBwc_.out.trans (hba.mono HBwc_.out.size))
      have HXa := hid hla
      clear hba hsa hla
      go_wp2
      refine hR' _ _ ⟨⟨wa_, HBa.out⟩, rfl⟩ ?_
      clear hR' hO R'
      have HBwa_ := HBa
      have x0 := cell_laid (i := 0) HXa.out rfl
      have xf0 := free_laid (i := 0) HXa.out
      have x1 := cell_laid (i := 1) HXa.out rfl
      have xf1 := free_laid (i := 1) HXa.out
      obtain ⟨u1, hu1⟩ : ∃ U, (wa_.setCell ⟨X, 0, none⟩ (.func (.func 85) #[] #[])).setCell ⟨X, 1, none⟩ (.int .i64 5) = U := ⟨_, rfl⟩
      have HXu : Hid (u1.heap[X]? = some (.cells #[.func (.func 85) #[] #[], .int .i64 5] 142 (0, 0))) := hid (by rw [← hu1]; exact set_laid (i := 1) (set_laid (i := 0) HXa.out _) _)
      have HBu : Hid (Below V.heap.size V u1) := hid (by rw [← hu1]; exact (HBwa_.out.setCell (by exact LX.out) _).setCell (by exact LX.out) _)
      have HU1 := hid hu1
      clear hu1
      refine wpMix2_h rfl fun R' hR' hO => ?_
      go_wp2
      rw [HU1.out]
      refine hR' _ _ ⟨⟨u1, HBu.out⟩, rfl⟩ ?_
      clear hR' hO R' x0 xf0 x1 xf1
      refine wpMix2_done ?_
      simp only [List.drop_succ_cons, List.drop_nil]
      go_wp2
      go_meet
      exact ⟨X, rfl, hid ⟨HXu.out, HBu.out⟩⟩
    · skip
      refine wpMix2_h rfl fun R' hR' hO => ?_
      obtain ⟨wa_, hwa_, hba, hsa, hla⟩ := laid D #[.nilFunc, .int .i64 0] 142
      obtain ⟨X, hX⟩ : ∃ X, D.heap.size = X := ⟨_, rfl⟩
      rw [hX] at hla
      have LX := hid (show V.heap.size ≤ X from by have := HBD.out.size; omega)
      have HBa := hid (HBD.out.trans (hba.mono HBD.out.size))
      have HXa := hid hla
      clear hba hsa hla
      go_wp2
      refine hR' _ _ ⟨⟨wa_, HBa.out⟩, rfl⟩ ?_
      clear hR' hO R'
      have HBwa_ := HBa
      refine wpMix2_h rfl fun R' hR' hO => ?_
      go_wp2_with fail
      refine (HSG.out wa_).mono ?_
      rintro e wc_ ⟨rfl, hbc⟩
      have HBc := hid (HBwa_.out.trans (hbc.mono HBwa_.out.size))
      have HXc := hid (keep_laid HXa.out hbc)
      clear hbc
      go_wp2
      refine hR' _ _ ⟨⟨wc_, HBc.out⟩, rfl⟩ ?_
      clear hR' hO R'
      repeat (refine wpMix2_q rfl rfl ?_; go_big_quiet_step (fail); refine wpQuiet_nil ?_)
      have HBwc_ := HBc
      have x0 := cell_laid (i := 0) HXc.out rfl
      have xf0 := free_laid (i := 0) HXc.out
      have x1 := cell_laid (i := 1) HXc.out rfl
      have xf1 := free_laid (i := 1) HXc.out
      obtain ⟨u1, hu1⟩ : ∃ U, (wc_.setCell ⟨X, 0, none⟩ (.func (.func 85) #[] #[])).setCell ⟨X, 1, none⟩ (.int .i64 5) = U := ⟨_, rfl⟩
      have HXu : Hid (u1.heap[X]? = some (.cells #[.func (.func 85) #[] #[], .int .i64 5] 142 (0, 0))) := hid (by rw [← hu1]; exact set_laid (i := 1) (set_laid (i := 0) HXc.out _) _)
      have HBu : Hid (Below V.heap.size V u1) := hid (by rw [← hu1]; exact (HBwc_.out.setCell (by exact LX.out) _).setCell (by exact LX.out) _)
      have HU1 := hid hu1
      clear hu1
      refine wpMix2_h rfl fun R' hR' hO => ?_
      go_wp2
      rw [HU1.out]
      refine hR' _ _ ⟨⟨u1, HBu.out⟩, rfl⟩ ?_
      clear hR' hO R' x0 xf0 x1 xf1
      refine wpMix2_done ?_
      simp only [List.drop_succ_cons, List.drop_nil]
      go_wp2
      go_meet
      exact ⟨X, rfl, hid ⟨HXu.out, HBu.out⟩⟩
  case rest =>
    obtain ⟨X, rfl, hcc⟩ := hcut
    obtain ⟨w1, hw1⟩ : ∃ W, W = wc := ⟨_, rfl⟩
    subst hw1
    have HX := hid hcc.out.1
    have HR1 := hid (HR.out.grow hcc.out.2)
    have HS1 := hid (keep_laid HS.out hcc.out.2)
    have HT1 := hid (Tch.of_below (P := fun k => k = R ∨ k = S) hcc.out.2)
    have hBw : B ≤ w1.heap.size := Nat.le_trans hB hcc.out.2.size
    have x0 := cell_laid (i := 0) HX.out rfl
    have q1 := eq_fnE
    clear hcc
    go_upto_region 4 with (fail)
    obtain ⟨⟨M', x, d⟩, hX⟩ : ∃ X, stepM M true ((posL at_ 2 : Nat) : Int) next = X := ⟨_, rfl⟩
    have HSE : Hid (editE M ⟨3, cuts, link, at_, key, val, hash, next⟩ = (M', (if d = true then (⟨5, cuts, link, at_, key, val, hash, next⟩ : Ede) else (⟨7, cuts, link, at_, key, val, hash, next⟩ : Ede)), true)) := hid (by
      have e0 : editE M ⟨3, cuts, link, at_, key, val, hash, next⟩ = ((stepM M true ((posL at_ 2 : Nat) : Int) next).1, (if (stepM M true ((posL at_ 2 : Nat) : Int) next).2.2 = true then (⟨5, cuts, link, at_, key, val, hash, next⟩ : Ede) else (⟨7, cuts, link, at_, key, val, hash, next⟩ : Ede)), true) := by
        unfold editE; rw [if_neg (show ¬ ((6 : Int) ≤ 3) by decide)]; rfl
      rw [e0]; rw [hX])
    have HAC : Hid (∀ W, RunC B R M n W → B ≤ W.heap.size → Calls Try.prog 75 #[.pointer (some ⟨R, 0, none⟩), .agg #[.int .i64 2, .int .i64 ((posL at_ 2 : Nat) : Int), .int .u64 0, .int .u64 ((next : Nat) : Int)]] W (GivesAc B R n (M', x, d) W)) := hid (fun W h1 h2 => by have := access_any B R M n true 2 ((posL at_ 2 : Nat) : Int) next W h1 h2 hok (by unfold posL; omega) rfl hn; rw [hX] at this; exact this)
    obtain ⟨D2, hD2⟩ : ∃ DX, w1.drew = DX := ⟨_, rfl⟩
    have hbD : Below w1.heap.size w1 D2 := by rw [← hD2]; exact (Below.refl _ _).drew
    have HD2 := hid hD2
    have HX2 := hid (keep_laid HX.out hbD)
    have HS2 := hid (keep_laid HS1.out hbD)
    have HR2 := hid (HR1.out.grow hbD)
    have HT2 := hid (HT1.out.trans (Tch.of_below hbD))
    have hB2 := Nat.le_trans hBw hbD.size
    have HND : Hid (Calls Try.prog 85 #[.agg #[.int .i64 3, .bool cuts, .int .u64 ((link : Nat) : Int), .int .u64 ((at_ : Nat) : Int), .int .u64 ((key : Nat) : Int), .int .u64 ((val : Nat) : Int), .int .u64 ((hash : Nat) : Int), .int .u64 ((next : Nat) : Int)]] D2 (Ret (.agg #[.int .i64 2, .int .i64 ((posL at_ 2 : Nat) : Int), .int .u64 0, .int .u64 ((next : Nat) : Int)]) D2)) := hid (by exact ned3_any ⟨3, cuts, link, at_, key, val, hash, next⟩ D2 HSK.out)
    clear hD2 hbD hX x0 q1
    haveI : Nonempty (RXE X S #[.func (.func 85) #[] #[], .int .i64 5] (ed8 ⟨3, cuts, link, at_, key, val, hash, next⟩)) := ⟨⟨D2, HX2.out, HS2.out⟩⟩
    have x0 : ∀ z : RXE X S #[.func (.func 85) #[] #[], .int .i64 5] (ed8 ⟨3, cuts, link, at_, key, val, hash, next⟩), z.w.cell? ⟨X, 0, none⟩ = some (.func (.func 85) #[] #[]) := fun z => cell_laid z.bx rfl
    have s0 : ∀ z : RXE X S #[.func (.func 85) #[] #[], .int .i64 5] (ed8 ⟨3, cuts, link, at_, key, val, hash, next⟩), z.w.cell? ⟨S, 0, none⟩ = some (.int .i64 3) := fun z => cell_laid z.bs rfl
    have s1 : ∀ z : RXE X S #[.func (.func 85) #[] #[], .int .i64 5] (ed8 ⟨3, cuts, link, at_, key, val, hash, next⟩), z.w.cell? ⟨S, 1, none⟩ = some (.bool cuts) := fun z => cell_laid z.bs rfl
    have s2 : ∀ z : RXE X S #[.func (.func 85) #[] #[], .int .i64 5] (ed8 ⟨3, cuts, link, at_, key, val, hash, next⟩), z.w.cell? ⟨S, 2, none⟩ = some (.int .u64 ((link : Nat) : Int)) := fun z => cell_laid z.bs rfl
    have s3 : ∀ z : RXE X S #[.func (.func 85) #[] #[], .int .i64 5] (ed8 ⟨3, cuts, link, at_, key, val, hash, next⟩), z.w.cell? ⟨S, 3, none⟩ = some (.int .u64 ((at_ : Nat) : Int)) := fun z => cell_laid z.bs rfl
    have s4 : ∀ z : RXE X S #[.func (.func 85) #[] #[], .int .i64 5] (ed8 ⟨3, cuts, link, at_, key, val, hash, next⟩), z.w.cell? ⟨S, 4, none⟩ = some (.int .u64 ((key : Nat) : Int)) := fun z => cell_laid z.bs rfl
    have s5 : ∀ z : RXE X S #[.func (.func 85) #[] #[], .int .i64 5] (ed8 ⟨3, cuts, link, at_, key, val, hash, next⟩), z.w.cell? ⟨S, 5, none⟩ = some (.int .u64 ((val : Nat) : Int)) := fun z => cell_laid z.bs rfl
    have s6 : ∀ z : RXE X S #[.func (.func 85) #[] #[], .int .i64 5] (ed8 ⟨3, cuts, link, at_, key, val, hash, next⟩), z.w.cell? ⟨S, 6, none⟩ = some (.int .u64 ((hash : Nat) : Int)) := fun z => cell_laid z.bs rfl
    have s7 : ∀ z : RXE X S #[.func (.func 85) #[] #[], .int .i64 5] (ed8 ⟨3, cuts, link, at_, key, val, hash, next⟩), z.w.cell? ⟨S, 7, none⟩ = some (.int .u64 ((next : Nat) : Int)) := fun z => cell_laid z.bs rfl
    refine wp_region_mix2 (fun W => ∃ z : RXE X S #[.func (.func 85) #[] #[], .int .i64 5] (ed8 ⟨3, cuts, link, at_, key, val, hash, next⟩), W = z.w) 13 (.q 0 (.q 1 (.q 2 (.q 3 (.q 4 (.q 5 (.h 6 (.h 7 (.q 8 (.q 9 (.q 10 (.q 11 (.q 12 .done))))))))))))) (by kernel_rfl) (by kernel_rfl) (by rw [HD2.out]; exact ⟨⟨D2, HX2.out, HS2.out⟩, rfl⟩) ?_
    rw [HD2.out]
    repeat (refine wpMix2_q rfl rfl ?_; go_big_quiet_step (fail); refine wpQuiet_nil ?_)
    refine wpMix2_h rfl fun R' hR' hO => ?_
    go_wp2_with fail
    refine HND.out.mono ?_
    rintro e v1 ⟨rfl, hb⟩
    have HX3 := hid (keep_laid HX2.out hb)
    have HS3 := hid (keep_laid HS2.out hb)
    have HR3 := hid (HR2.out.grow hb)
    have HT3 := hid (HT2.out.trans (Tch.of_below hb))
    have hB3 := Nat.le_trans hB2 hb.size
    clear hb
    go_wp2
    refine hR' _ _ ⟨⟨v1, HX3.out, HS3.out⟩, rfl⟩ ?_
    clear hR' hO R'
    repeat (refine wpMix2_q rfl rfl ?_; go_big_quiet_step (fail); refine wpQuiet_nil ?_)
    refine wpMix2_h rfl fun R' hR' hO => ?_
    go_wp2_with fail
    refine (HAC.out v1 HR3.out hB3).mono ?_
    rintro e v2 ⟨rfl, hr4, ht4⟩
    have hRX : X ≠ R := by obtain ⟨_, _, _, _, k, _⟩ := HR3.out; exact type_ne HX3.out k (by decide)
    have hRS : S ≠ R := by obtain ⟨_, _, _, _, k, _⟩ := HR3.out; exact type_ne HS3.out k (by decide)
    have HX4 := hid (ht4.keep HX3.out hRX)
    have HS4 := hid (ht4.keep HS3.out hRS)
    have HR4 := hid hr4
    have HT4 := hid (HT3.out.trans (ht4.mono fun k h => .inl h))
    clear hr4 ht4
    go_wp2
    refine hR' _ _ ⟨⟨v2, HX4.out, HS4.out⟩, rfl⟩ ?_
    clear hR' hO R'
    repeat (refine wpMix2_q rfl rfl ?_; go_big_quiet_step (fail); refine wpQuiet_nil ?_)
    refine wpMix2_done ?_
    simp only [List.drop_succ_cons, List.drop_nil]
    clear x0 s0 s1 s2 s3 s4 s5 s6 s7
    cases d with
    | true =>
      have x1 := cell_laid (i := 1) HX4.out rfl
      have y0 := cell_laid (i := 0) HS4.out rfl
      have yf0 := free_laid (i := 0) HS4.out
      go_wp2
      go_ret
      rw [HSE.out]
      exact ⟨rfl, HR4.out.tch (S := S) (Tch.set (P := fun k => k = S) rfl _) HS4.out (by decide) (by decide) (by decide), set_laid (i := 0) HS4.out (.int .i64 5), HT4.out.trans (Tch.set (P := fun k => k = R ∨ k = S) (.inr rfl) _)⟩
    | false =>
      have y0 := cell_laid (i := 0) HS4.out rfl
      have yf0 := free_laid (i := 0) HS4.out
      go_wp2
      go_ret
      rw [HSE.out]
      exact ⟨rfl, HR4.out.tch (S := S) (Tch.set (P := fun k => k = S) rfl _) HS4.out (by decide) (by decide) (by decide), set_laid (i := 0) HS4.out (.int .i64 7), HT4.out.trans (Tch.set (P := fun k => k = R ∨ k = S) (.inr rfl) _)⟩
set_option maxRecDepth 100000 in
set_option maxHeartbeats 8000000 in
theorem edit4_any (B R S : Nat) (M : Mem) (n : Nat) (s : Ede) (V : World) (h : RunC B R M n V) (hS : V.heap[S]? = some (.cells (ed8 s) 39 (0, 0))) (hB : B ≤ V.heap.size) (hok : okM M = true) (hs : s.Ok) (hph : s.ph = 4) (hn : n ≤ 1000000) :
    Calls Try.prog 78 #[.pointer (some ⟨R, 0, none⟩), .pointer (some ⟨S, 0, none⟩)] V (GivesEd B R S n (editE M s) V) := by
  obtain ⟨ph, cuts, link, at_, key, val, hash, next⟩ := s
  obtain rfl : ph = 4 := hph
  have HR := hid h
  have HS := hid hS
  have HSK := hid hs
  have ix := edg_at4
  obtain ⟨TB, hTB⟩ : ∃ T, editV = T := ⟨_, rfl⟩
  have HTB := hid hTB
  have HSG : Hid (∀ W, Calls Try.prog 77 #[] W (Ret TB W)) := hid (fun W => by rw [← hTB]; exact edg_any W)
  rw [hTB] at ix
  have r0 : ∀ z : Ext V, z.v.cell? ⟨S, 0, none⟩ = some (.int .i64 4) := fun z => cell_laid (keep_laid HS.out z.b) rfl
  have r1 : ∀ z : Ext V, z.v.cell? ⟨S, 1, none⟩ = some (.bool cuts) := fun z => cell_laid (keep_laid HS.out z.b) rfl
  have r2 : ∀ z : Ext V, z.v.cell? ⟨S, 2, none⟩ = some (.int .u64 ((link : Nat) : Int)) := fun z => cell_laid (keep_laid HS.out z.b) rfl
  have r3 : ∀ z : Ext V, z.v.cell? ⟨S, 3, none⟩ = some (.int .u64 ((at_ : Nat) : Int)) := fun z => cell_laid (keep_laid HS.out z.b) rfl
  have r4 : ∀ z : Ext V, z.v.cell? ⟨S, 4, none⟩ = some (.int .u64 ((key : Nat) : Int)) := fun z => cell_laid (keep_laid HS.out z.b) rfl
  have r5 : ∀ z : Ext V, z.v.cell? ⟨S, 5, none⟩ = some (.int .u64 ((val : Nat) : Int)) := fun z => cell_laid (keep_laid HS.out z.b) rfl
  have r6 : ∀ z : Ext V, z.v.cell? ⟨S, 6, none⟩ = some (.int .u64 ((hash : Nat) : Int)) := fun z => cell_laid (keep_laid HS.out z.b) rfl
  have r7 : ∀ z : Ext V, z.v.cell? ⟨S, 7, none⟩ = some (.int .u64 ((next : Nat) : Int)) := fun z => cell_laid (keep_laid HS.out z.b) rfl
  obtain ⟨D, hD⟩ : ∃ DX, V.drew = DX := ⟨_, rfl⟩
  have hbD : Below V.heap.size V D := by rw [← hD]; exact (Below.refl _ _).drew
  have HD := hid hD
  have HBD := hid hbD
  clear h hS hD hbD hTB hs
  go_enter Try.func78, Try.ntmps78
  go_upto_region 1 with (fail)
  go_cut [5] (fun t5 W => ∃ X : Nat, t5 = .pointer (some ⟨X, 0, none⟩) ∧ Hid (W.heap[X]? = some (.cells #[.func (.func 86) #[] #[], .int .i64 5] 142 (0, 0)) ∧ Below V.heap.size V W))
  case first =>
    refine wp_region_mix2 (fun W => ∃ z : Ext V, W = z.v) 8 (.q 1 (.q 2 (.q 3 (.q 4 (.h2 0 (.q 5 (.h 6 (.h 7 .done))) 6 (.h 0 (.q 5 (.h 7 .done)))))))) (by kernel_rfl) (by kernel_rfl) (by rw [HD.out]; exact ⟨⟨D, HBD.out⟩, rfl⟩) ?_
    rw [HD.out]
    repeat (refine wpMix2_q rfl rfl ?_; go_big_quiet_step (fail); refine wpQuiet_nil ?_)
    refine wpMix2_h2 ?_ ?_
    · skip
      refine wpMix2_h rfl fun R' hR' hO => ?_
      go_wp2_with fail
      refine (HSG.out D).mono ?_
      rintro e wc_ ⟨rfl, hbc⟩
      have HBc := hid (HBD.out.trans (hbc.mono HBD.out.size))
      clear hbc
      go_wp2
      refine hR' _ _ ⟨⟨wc_, HBc.out⟩, rfl⟩ ?_
      clear hR' hO R'
      repeat (refine wpMix2_q rfl rfl ?_; go_big_quiet_step (fail); refine wpQuiet_nil ?_)
      have HBwc_ := HBc
      refine wpMix2_h rfl fun R' hR' hO => ?_
      obtain ⟨wa_, hwa_, hba, hsa, hla⟩ := laid wc_ #[.nilFunc, .int .i64 0] 142
      obtain ⟨X, hX⟩ : ∃ X, wc_.heap.size = X := ⟨_, rfl⟩
      rw [hX] at hla
      have LX := hid (show V.heap.size ≤ X from by have := HBwc_.out.size; omega)
      have HBa := hid (HBwc_.out.trans (hba.mono HBwc_.out.size))
      have HXa := hid hla
      clear hba hsa hla
      go_wp2
      refine hR' _ _ ⟨⟨wa_, HBa.out⟩, rfl⟩ ?_
      clear hR' hO R'
      have HBwa_ := HBa
      have x0 := cell_laid (i := 0) HXa.out rfl
      have xf0 := free_laid (i := 0) HXa.out
      have x1 := cell_laid (i := 1) HXa.out rfl
      have xf1 := free_laid (i := 1) HXa.out
      obtain ⟨u1, hu1⟩ : ∃ U, (wa_.setCell ⟨X, 0, none⟩ (.func (.func 86) #[] #[])).setCell ⟨X, 1, none⟩ (.int .i64 5) = U := ⟨_, rfl⟩
      have HXu : Hid (u1.heap[X]? = some (.cells #[.func (.func 86) #[] #[], .int .i64 5] 142 (0, 0))) := hid (by rw [← hu1]; exact set_laid (i := 1) (set_laid (i := 0) HXa.out _) _)
      have HBu : Hid (Below V.heap.size V u1) := hid (by rw [← hu1]; exact (HBwa_.out.setCell (by exact LX.out) _).setCell (by exact LX.out) _)
      have HU1 := hid hu1
      clear hu1
      refine wpMix2_h rfl fun R' hR' hO => ?_
      go_wp2
      rw [HU1.out]
      refine hR' _ _ ⟨⟨u1, HBu.out⟩, rfl⟩ ?_
      clear hR' hO R' x0 xf0 x1 xf1
      refine wpMix2_done ?_
      simp only [List.drop_succ_cons, List.drop_nil]
      go_wp2
      go_meet
      exact ⟨X, rfl, hid ⟨HXu.out, HBu.out⟩⟩
    · skip
      refine wpMix2_h rfl fun R' hR' hO => ?_
      obtain ⟨wa_, hwa_, hba, hsa, hla⟩ := laid D #[.nilFunc, .int .i64 0] 142
      obtain ⟨X, hX⟩ : ∃ X, D.heap.size = X := ⟨_, rfl⟩
      rw [hX] at hla
      have LX := hid (show V.heap.size ≤ X from by have := HBD.out.size; omega)
      have HBa := hid (HBD.out.trans (hba.mono HBD.out.size))
      have HXa := hid hla
      clear hba hsa hla
      go_wp2
      refine hR' _ _ ⟨⟨wa_, HBa.out⟩, rfl⟩ ?_
      clear hR' hO R'
      have HBwa_ := HBa
      refine wpMix2_h rfl fun R' hR' hO => ?_
      go_wp2_with fail
      refine (HSG.out wa_).mono ?_
      rintro e wc_ ⟨rfl, hbc⟩
      have HBc := hid (HBwa_.out.trans (hbc.mono HBwa_.out.size))
      have HXc := hid (keep_laid HXa.out hbc)
      clear hbc
      go_wp2
      refine hR' _ _ ⟨⟨wc_, HBc.out⟩, rfl⟩ ?_
      clear hR' hO R'
      repeat (refine wpMix2_q rfl rfl ?_; go_big_quiet_step (fail); refine wpQuiet_nil ?_)
      have HBwc_ := HBc
      have x0 := cell_laid (i := 0) HXc.out rfl
      have xf0 := free_laid (i := 0) HXc.out
      have x1 := cell_laid (i := 1) HXc.out rfl
      have xf1 := free_laid (i := 1) HXc.out
      obtain ⟨u1, hu1⟩ : ∃ U, (wc_.setCell ⟨X, 0, none⟩ (.func (.func 86) #[] #[])).setCell ⟨X, 1, none⟩ (.int .i64 5) = U := ⟨_, rfl⟩
      have HXu : Hid (u1.heap[X]? = some (.cells #[.func (.func 86) #[] #[], .int .i64 5] 142 (0, 0))) := hid (by rw [← hu1]; exact set_laid (i := 1) (set_laid (i := 0) HXc.out _) _)
      have HBu : Hid (Below V.heap.size V u1) := hid (by rw [← hu1]; exact (HBwc_.out.setCell (by exact LX.out) _).setCell (by exact LX.out) _)
      have HU1 := hid hu1
      clear hu1
      refine wpMix2_h rfl fun R' hR' hO => ?_
      go_wp2
      rw [HU1.out]
      refine hR' _ _ ⟨⟨u1, HBu.out⟩, rfl⟩ ?_
      clear hR' hO R' x0 xf0 x1 xf1
      refine wpMix2_done ?_
      simp only [List.drop_succ_cons, List.drop_nil]
      go_wp2
      go_meet
      exact ⟨X, rfl, hid ⟨HXu.out, HBu.out⟩⟩
  case rest =>
    obtain ⟨X, rfl, hcc⟩ := hcut
    obtain ⟨w1, hw1⟩ : ∃ W, W = wc := ⟨_, rfl⟩
    subst hw1
    have HX := hid hcc.out.1
    have HR1 := hid (HR.out.grow hcc.out.2)
    have HS1 := hid (keep_laid HS.out hcc.out.2)
    have HT1 := hid (Tch.of_below (P := fun k => k = R ∨ k = S) hcc.out.2)
    have hBw : B ≤ w1.heap.size := Nat.le_trans hB hcc.out.2.size
    have x0 := cell_laid (i := 0) HX.out rfl
    have q1 := eq_fnE
    clear hcc
    go_upto_region 4 with (fail)
    obtain ⟨⟨M', x, d⟩, hX⟩ : ∃ X, stepM M false ((posL at_ 2 : Nat) : Int) 0 = X := ⟨_, rfl⟩
    have HSE : Hid (editE M ⟨4, cuts, link, at_, key, val, hash, next⟩ = (M', (if d = true then (⟨5, cuts, link, at_, key, val, hash, x⟩ : Ede) else (⟨7, cuts, link, at_, key, val, hash, next⟩ : Ede)), true)) := hid (by
      have e0 : editE M ⟨4, cuts, link, at_, key, val, hash, next⟩ = ((stepM M false ((posL at_ 2 : Nat) : Int) 0).1, (if (stepM M false ((posL at_ 2 : Nat) : Int) 0).2.2 = true then (⟨5, cuts, link, at_, key, val, hash, (stepM M false ((posL at_ 2 : Nat) : Int) 0).2.1⟩ : Ede) else (⟨7, cuts, link, at_, key, val, hash, next⟩ : Ede)), true) := by
        unfold editE; rw [if_neg (show ¬ ((6 : Int) ≤ 4) by decide)]; rfl
      rw [e0]; rw [hX])
    have HAC : Hid (∀ W, RunC B R M n W → B ≤ W.heap.size → Calls Try.prog 75 #[.pointer (some ⟨R, 0, none⟩), .agg #[.int .i64 1, .int .i64 ((posL at_ 2 : Nat) : Int), .int .u64 0, .int .u64 0]] W (GivesAc B R n (M', x, d) W)) := hid (fun W h1 h2 => by have := access_any B R M n false 1 ((posL at_ 2 : Nat) : Int) 0 W h1 h2 hok (by unfold posL; omega) rfl hn; rw [hX] at this; exact this)
    obtain ⟨D2, hD2⟩ : ∃ DX, w1.drew = DX := ⟨_, rfl⟩
    have hbD : Below w1.heap.size w1 D2 := by rw [← hD2]; exact (Below.refl _ _).drew
    have HD2 := hid hD2
    have HX2 := hid (keep_laid HX.out hbD)
    have HS2 := hid (keep_laid HS1.out hbD)
    have HR2 := hid (HR1.out.grow hbD)
    have HT2 := hid (HT1.out.trans (Tch.of_below hbD))
    have hB2 := Nat.le_trans hBw hbD.size
    have HND : Hid (Calls Try.prog 86 #[.agg #[.int .i64 4, .bool cuts, .int .u64 ((link : Nat) : Int), .int .u64 ((at_ : Nat) : Int), .int .u64 ((key : Nat) : Int), .int .u64 ((val : Nat) : Int), .int .u64 ((hash : Nat) : Int), .int .u64 ((next : Nat) : Int)]] D2 (Ret (.agg #[.int .i64 1, .int .i64 ((posL at_ 2 : Nat) : Int), .int .u64 0, .int .u64 0]) D2)) := hid (by exact ned4_any ⟨4, cuts, link, at_, key, val, hash, next⟩ D2 HSK.out)
    clear hD2 hbD hX x0 q1
    haveI : Nonempty (RXE X S #[.func (.func 86) #[] #[], .int .i64 5] (ed8 ⟨4, cuts, link, at_, key, val, hash, next⟩)) := ⟨⟨D2, HX2.out, HS2.out⟩⟩
    have x0 : ∀ z : RXE X S #[.func (.func 86) #[] #[], .int .i64 5] (ed8 ⟨4, cuts, link, at_, key, val, hash, next⟩), z.w.cell? ⟨X, 0, none⟩ = some (.func (.func 86) #[] #[]) := fun z => cell_laid z.bx rfl
    have s0 : ∀ z : RXE X S #[.func (.func 86) #[] #[], .int .i64 5] (ed8 ⟨4, cuts, link, at_, key, val, hash, next⟩), z.w.cell? ⟨S, 0, none⟩ = some (.int .i64 4) := fun z => cell_laid z.bs rfl
    have s1 : ∀ z : RXE X S #[.func (.func 86) #[] #[], .int .i64 5] (ed8 ⟨4, cuts, link, at_, key, val, hash, next⟩), z.w.cell? ⟨S, 1, none⟩ = some (.bool cuts) := fun z => cell_laid z.bs rfl
    have s2 : ∀ z : RXE X S #[.func (.func 86) #[] #[], .int .i64 5] (ed8 ⟨4, cuts, link, at_, key, val, hash, next⟩), z.w.cell? ⟨S, 2, none⟩ = some (.int .u64 ((link : Nat) : Int)) := fun z => cell_laid z.bs rfl
    have s3 : ∀ z : RXE X S #[.func (.func 86) #[] #[], .int .i64 5] (ed8 ⟨4, cuts, link, at_, key, val, hash, next⟩), z.w.cell? ⟨S, 3, none⟩ = some (.int .u64 ((at_ : Nat) : Int)) := fun z => cell_laid z.bs rfl
    have s4 : ∀ z : RXE X S #[.func (.func 86) #[] #[], .int .i64 5] (ed8 ⟨4, cuts, link, at_, key, val, hash, next⟩), z.w.cell? ⟨S, 4, none⟩ = some (.int .u64 ((key : Nat) : Int)) := fun z => cell_laid z.bs rfl
    have s5 : ∀ z : RXE X S #[.func (.func 86) #[] #[], .int .i64 5] (ed8 ⟨4, cuts, link, at_, key, val, hash, next⟩), z.w.cell? ⟨S, 5, none⟩ = some (.int .u64 ((val : Nat) : Int)) := fun z => cell_laid z.bs rfl
    have s6 : ∀ z : RXE X S #[.func (.func 86) #[] #[], .int .i64 5] (ed8 ⟨4, cuts, link, at_, key, val, hash, next⟩), z.w.cell? ⟨S, 6, none⟩ = some (.int .u64 ((hash : Nat) : Int)) := fun z => cell_laid z.bs rfl
    have s7 : ∀ z : RXE X S #[.func (.func 86) #[] #[], .int .i64 5] (ed8 ⟨4, cuts, link, at_, key, val, hash, next⟩), z.w.cell? ⟨S, 7, none⟩ = some (.int .u64 ((next : Nat) : Int)) := fun z => cell_laid z.bs rfl
    refine wp_region_mix2 (fun W => ∃ z : RXE X S #[.func (.func 86) #[] #[], .int .i64 5] (ed8 ⟨4, cuts, link, at_, key, val, hash, next⟩), W = z.w) 13 (.q 0 (.q 1 (.q 2 (.q 3 (.q 4 (.q 5 (.h 6 (.h 7 (.q 8 (.q 9 (.q 10 (.q 11 (.q 12 .done))))))))))))) (by kernel_rfl) (by kernel_rfl) (by rw [HD2.out]; exact ⟨⟨D2, HX2.out, HS2.out⟩, rfl⟩) ?_
    rw [HD2.out]
    repeat (refine wpMix2_q rfl rfl ?_; go_big_quiet_step (fail); refine wpQuiet_nil ?_)
    refine wpMix2_h rfl fun R' hR' hO => ?_
    go_wp2_with fail
    refine HND.out.mono ?_
    rintro e v1 ⟨rfl, hb⟩
    have HX3 := hid (keep_laid HX2.out hb)
    have HS3 := hid (keep_laid HS2.out hb)
    have HR3 := hid (HR2.out.grow hb)
    have HT3 := hid (HT2.out.trans (Tch.of_below hb))
    have hB3 := Nat.le_trans hB2 hb.size
    clear hb
    go_wp2
    refine hR' _ _ ⟨⟨v1, HX3.out, HS3.out⟩, rfl⟩ ?_
    clear hR' hO R'
    repeat (refine wpMix2_q rfl rfl ?_; go_big_quiet_step (fail); refine wpQuiet_nil ?_)
    refine wpMix2_h rfl fun R' hR' hO => ?_
    go_wp2_with fail
    refine (HAC.out v1 HR3.out hB3).mono ?_
    rintro e v2 ⟨rfl, hr4, ht4⟩
    have hRX : X ≠ R := by obtain ⟨_, _, _, _, k, _⟩ := HR3.out; exact type_ne HX3.out k (by decide)
    have hRS : S ≠ R := by obtain ⟨_, _, _, _, k, _⟩ := HR3.out; exact type_ne HS3.out k (by decide)
    have HX4 := hid (ht4.keep HX3.out hRX)
    have HS4 := hid (ht4.keep HS3.out hRS)
    have HR4 := hid hr4
    have HT4 := hid (HT3.out.trans (ht4.mono fun k h => .inl h))
    clear hr4 ht4
    go_wp2
    refine hR' _ _ ⟨⟨v2, HX4.out, HS4.out⟩, rfl⟩ ?_
    clear hR' hO R'
    repeat (refine wpMix2_q rfl rfl ?_; go_big_quiet_step (fail); refine wpQuiet_nil ?_)
    refine wpMix2_done ?_
    simp only [List.drop_succ_cons, List.drop_nil]
    clear x0 s0 s1 s2 s3 s4 s5 s6 s7
    cases d with
    | true =>
      have hXS : X ≠ S := type_ne HX4.out HS4.out (by decide)
      have y0 := cell_laid (i := 0) HS4.out rfl
      go_upto_region 9 with (fail)
      obtain ⟨D3, hD3⟩ : ∃ DX, v2.drew = DX := ⟨_, rfl⟩
      have hbD3 : Below v2.heap.size v2 D3 := by rw [← hD3]; exact (Below.refl _ _).drew
      have HD3 := hid hD3
      have HX5 := hid (keep_laid HX4.out hbD3)
      have HS5 := hid (keep_laid HS4.out hbD3)
      have HR5 := hid (HR4.out.grow hbD3)
      have HT5 := hid (HT4.out.trans (Tch.of_below hbD3))
      clear hbD3 hD3 y0
      obtain ⟨U1, hU1⟩ : ∃ U, D3.setCell ⟨S, 7, none⟩ (.int .u64 ((x : Nat) : Int)) = U := ⟨_, rfl⟩
      have HS6 : Hid (U1.heap[S]? = some (.cells #[.int .i64 4, .bool cuts, .int .u64 ((link : Nat) : Int), .int .u64 ((at_ : Nat) : Int), .int .u64 ((key : Nat) : Int), .int .u64 ((val : Nat) : Int), .int .u64 ((hash : Nat) : Int), .int .u64 ((x : Nat) : Int)] 39 (0, 0))) := hid (by rw [← hU1]; exact set_laid (i := 7) HS5.out _)
      have HX6 : Hid (U1.heap[X]? = some (.cells #[.func (.func 86) #[] #[], .int .i64 5] 142 (0, 0))) := hid (by rw [← hU1]; exact (Tch.set (P := fun k => k = S) rfl _).keep HX5.out hXS)
      obtain ⟨U2, hU2⟩ : ∃ U, U1.setCell ⟨S, 0, none⟩ (.int .i64 5) = U := ⟨_, rfl⟩
      have HS7 : Hid (U2.heap[S]? = some (.cells #[.int .i64 5, .bool cuts, .int .u64 ((link : Nat) : Int), .int .u64 ((at_ : Nat) : Int), .int .u64 ((key : Nat) : Int), .int .u64 ((val : Nat) : Int), .int .u64 ((hash : Nat) : Int), .int .u64 ((x : Nat) : Int)] 39 (0, 0))) := hid (by rw [← hU2]; exact set_laid (i := 0) HS6.out _)
      have HX7 : Hid (U2.heap[X]? = some (.cells #[.func (.func 86) #[] #[], .int .i64 5] 142 (0, 0))) := hid (by rw [← hU2]; exact (Tch.set (P := fun k => k = S) rfl _).keep HX6.out hXS)
      have HT7 : Hid (Tch (fun k => k = S) D3 U2) := hid (by rw [← hU2, ← hU1]; exact (Tch.set (P := fun k => k = S) rfl _).trans (Tch.set (P := fun k => k = S) rfl _))
      have HU1 := hid hU1
      have HU2 := hid hU2
      have yf7 := free_laid (i := 7) HS5.out
      have yf0 := free_laid (i := 0) HS6.out
      have yc7 := cell_laid (i := 7) HS5.out rfl
      have yc0 := cell_laid (i := 0) HS6.out rfl
      clear hU1 hU2
      haveI : Nonempty (RX1 X #[.func (.func 86) #[] #[], .int .i64 5]) := ⟨⟨D3, HX5.out⟩⟩
      have x1 : ∀ z : RX1 X #[.func (.func 86) #[] #[], .int .i64 5], z.w.cell? ⟨X, 1, none⟩ = some (.int .i64 5) := fun z => cell_laid z.bx rfl
      refine wp_region_mix2 (fun W => ∃ z : RX1 X #[.func (.func 86) #[] #[], .int .i64 5], W = z.w) 11 (.q 0 (.q 1 (.q 2 (.q 3 (.q 4 (.q 5 (.q 6 (.h 7 (.q 8 (.q 9 (.h 10 .done))))))))))) (by kernel_rfl) (by kernel_rfl) (by rw [HD3.out]; exact ⟨⟨D3, HX5.out⟩, rfl⟩) ?_
      rw [HD3.out]
      repeat (refine wpMix2_q rfl rfl ?_; go_big_quiet_step (fail); refine wpQuiet_nil ?_)
      refine wpMix2_h rfl fun R' hR' hO => ?_
      go_wp2
      rw [HU1.out]
      refine hR' _ _ ⟨⟨U1, HX6.out⟩, rfl⟩ ?_
      clear hR' hO R'
      repeat (refine wpMix2_q rfl rfl ?_; go_big_quiet_step (fail); refine wpQuiet_nil ?_)
      refine wpMix2_h rfl fun R' hR' hO => ?_
      go_wp2
      rw [HU2.out]
      refine hR' _ _ ⟨⟨U2, HX7.out⟩, rfl⟩ ?_
      clear hR' hO R'
      refine wpMix2_done ?_
      simp only [List.drop_succ_cons, List.drop_nil]
      go_wp2
      go_ret
      rw [HSE.out]
      exact ⟨rfl, HR5.out.tch (S := S) HT7.out HS5.out (by decide) (by decide) (by decide), HS7.out, HT5.out.trans (HT7.out.mono fun k h => .inr h)⟩
    | false =>
      have y0 := cell_laid (i := 0) HS4.out rfl
      have yf0 := free_laid (i := 0) HS4.out
      go_wp2
      go_ret
      rw [HSE.out]
      exact ⟨rfl, HR4.out.tch (S := S) (Tch.set (P := fun k => k = S) rfl _) HS4.out (by decide) (by decide) (by decide), set_laid (i := 0) HS4.out (.int .i64 7), HT4.out.trans (Tch.set (P := fun k => k = R ∨ k = S) (.inr rfl) _)⟩
set_option maxRecDepth 100000 in
set_option maxHeartbeats 8000000 in
theorem edit5_any (B R S : Nat) (M : Mem) (n : Nat) (s : Ede) (V : World) (h : RunC B R M n V) (hS : V.heap[S]? = some (.cells (ed8 s) 39 (0, 0))) (hB : B ≤ V.heap.size) (hok : okM M = true) (hs : s.Ok) (hph : s.ph = 5) (hn : n ≤ 1000000) :
    Calls Try.prog 78 #[.pointer (some ⟨R, 0, none⟩), .pointer (some ⟨S, 0, none⟩)] V (GivesEd B R S n (editE M s) V) := by
  obtain ⟨ph, cuts, link, at_, key, val, hash, next⟩ := s
  obtain rfl : ph = 5 := hph
  have HR := hid h
  have HS := hid hS
  have HSK := hid hs
  have ix := edg_at5
  obtain ⟨TB, hTB⟩ : ∃ T, editV = T := ⟨_, rfl⟩
  have HTB := hid hTB
  have HSG : Hid (∀ W, Calls Try.prog 77 #[] W (Ret TB W)) := hid (fun W => by rw [← hTB]; exact edg_any W)
  rw [hTB] at ix
  have r0 : ∀ z : Ext V, z.v.cell? ⟨S, 0, none⟩ = some (.int .i64 5) := fun z => cell_laid (keep_laid HS.out z.b) rfl
  have r1 : ∀ z : Ext V, z.v.cell? ⟨S, 1, none⟩ = some (.bool cuts) := fun z => cell_laid (keep_laid HS.out z.b) rfl
  have r2 : ∀ z : Ext V, z.v.cell? ⟨S, 2, none⟩ = some (.int .u64 ((link : Nat) : Int)) := fun z => cell_laid (keep_laid HS.out z.b) rfl
  have r3 : ∀ z : Ext V, z.v.cell? ⟨S, 3, none⟩ = some (.int .u64 ((at_ : Nat) : Int)) := fun z => cell_laid (keep_laid HS.out z.b) rfl
  have r4 : ∀ z : Ext V, z.v.cell? ⟨S, 4, none⟩ = some (.int .u64 ((key : Nat) : Int)) := fun z => cell_laid (keep_laid HS.out z.b) rfl
  have r5 : ∀ z : Ext V, z.v.cell? ⟨S, 5, none⟩ = some (.int .u64 ((val : Nat) : Int)) := fun z => cell_laid (keep_laid HS.out z.b) rfl
  have r6 : ∀ z : Ext V, z.v.cell? ⟨S, 6, none⟩ = some (.int .u64 ((hash : Nat) : Int)) := fun z => cell_laid (keep_laid HS.out z.b) rfl
  have r7 : ∀ z : Ext V, z.v.cell? ⟨S, 7, none⟩ = some (.int .u64 ((next : Nat) : Int)) := fun z => cell_laid (keep_laid HS.out z.b) rfl
  obtain ⟨D, hD⟩ : ∃ DX, V.drew = DX := ⟨_, rfl⟩
  have hbD : Below V.heap.size V D := by rw [← hD]; exact (Below.refl _ _).drew
  have HD := hid hD
  have HBD := hid hbD
  clear h hS hD hbD hTB hs
  go_enter Try.func78, Try.ntmps78
  go_upto_region 1 with (fail)
  go_cut [5] (fun t5 W => ∃ X : Nat, t5 = .pointer (some ⟨X, 0, none⟩) ∧ Hid (W.heap[X]? = some (.cells #[.func (.func 87) #[] #[], .int .i64 6] 142 (0, 0)) ∧ Below V.heap.size V W))
  case first =>
    refine wp_region_mix2 (fun W => ∃ z : Ext V, W = z.v) 8 (.q 1 (.q 2 (.q 3 (.q 4 (.h2 0 (.q 5 (.h 6 (.h 7 .done))) 6 (.h 0 (.q 5 (.h 7 .done)))))))) (by kernel_rfl) (by kernel_rfl) (by rw [HD.out]; exact ⟨⟨D, HBD.out⟩, rfl⟩) ?_
    rw [HD.out]
    repeat (refine wpMix2_q rfl rfl ?_; go_big_quiet_step (fail); refine wpQuiet_nil ?_)
    refine wpMix2_h2 ?_ ?_
    · skip
      refine wpMix2_h rfl fun R' hR' hO => ?_
      go_wp2_with fail
      refine (HSG.out D).mono ?_
      rintro e wc_ ⟨rfl, hbc⟩
      have HBc := hid (HBD.out.trans (hbc.mono HBD.out.size))
      clear hbc
      go_wp2
      refine hR' _ _ ⟨⟨wc_, HBc.out⟩, rfl⟩ ?_
      clear hR' hO R'
      repeat (refine wpMix2_q rfl rfl ?_; go_big_quiet_step (fail); refine wpQuiet_nil ?_)
      have HBwc_ := HBc
      refine wpMix2_h rfl fun R' hR' hO => ?_
      obtain ⟨wa_, hwa_, hba, hsa, hla⟩ := laid wc_ #[.nilFunc, .int .i64 0] 142
      obtain ⟨X, hX⟩ : ∃ X, wc_.heap.size = X := ⟨_, rfl⟩
      rw [hX] at hla
      have LX := hid (show V.heap.size ≤ X from by have := HBwc_.out.size; omega)
      have HBa := hid (HBwc_.out.trans (hba.mono HBwc_.out.size))
      have HXa := hid hla
      clear hba hsa hla
      go_wp2
      refine hR' _ _ ⟨⟨wa_, HBa.out⟩, rfl⟩ ?_
      clear hR' hO R'
      have HBwa_ := HBa
      have x0 := cell_laid (i := 0) HXa.out rfl
      have xf0 := free_laid (i := 0) HXa.out
      have x1 := cell_laid (i := 1) HXa.out rfl
      have xf1 := free_laid (i := 1) HXa.out
      obtain ⟨u1, hu1⟩ : ∃ U, (wa_.setCell ⟨X, 0, none⟩ (.func (.func 87) #[] #[])).setCell ⟨X, 1, none⟩ (.int .i64 6) = U := ⟨_, rfl⟩
      have HXu : Hid (u1.heap[X]? = some (.cells #[.func (.func 87) #[] #[], .int .i64 6] 142 (0, 0))) := hid (by rw [← hu1]; exact set_laid (i := 1) (set_laid (i := 0) HXa.out _) _)
      have HBu : Hid (Below V.heap.size V u1) := hid (by rw [← hu1]; exact (HBwa_.out.setCell (by exact LX.out) _).setCell (by exact LX.out) _)
      have HU1 := hid hu1
      clear hu1
      refine wpMix2_h rfl fun R' hR' hO => ?_
      go_wp2
      rw [HU1.out]
      refine hR' _ _ ⟨⟨u1, HBu.out⟩, rfl⟩ ?_
      clear hR' hO R' x0 xf0 x1 xf1
      refine wpMix2_done ?_
      simp only [List.drop_succ_cons, List.drop_nil]
      go_wp2
      go_meet
      exact ⟨X, rfl, hid ⟨HXu.out, HBu.out⟩⟩
    · skip
      refine wpMix2_h rfl fun R' hR' hO => ?_
      obtain ⟨wa_, hwa_, hba, hsa, hla⟩ := laid D #[.nilFunc, .int .i64 0] 142
      obtain ⟨X, hX⟩ : ∃ X, D.heap.size = X := ⟨_, rfl⟩
      rw [hX] at hla
      have LX := hid (show V.heap.size ≤ X from by have := HBD.out.size; omega)
      have HBa := hid (HBD.out.trans (hba.mono HBD.out.size))
      have HXa := hid hla
      clear hba hsa hla
      go_wp2
      refine hR' _ _ ⟨⟨wa_, HBa.out⟩, rfl⟩ ?_
      clear hR' hO R'
      have HBwa_ := HBa
      refine wpMix2_h rfl fun R' hR' hO => ?_
      go_wp2_with fail
      refine (HSG.out wa_).mono ?_
      rintro e wc_ ⟨rfl, hbc⟩
      have HBc := hid (HBwa_.out.trans (hbc.mono HBwa_.out.size))
      have HXc := hid (keep_laid HXa.out hbc)
      clear hbc
      go_wp2
      refine hR' _ _ ⟨⟨wc_, HBc.out⟩, rfl⟩ ?_
      clear hR' hO R'
      repeat (refine wpMix2_q rfl rfl ?_; go_big_quiet_step (fail); refine wpQuiet_nil ?_)
      have HBwc_ := HBc
      have x0 := cell_laid (i := 0) HXc.out rfl
      have xf0 := free_laid (i := 0) HXc.out
      have x1 := cell_laid (i := 1) HXc.out rfl
      have xf1 := free_laid (i := 1) HXc.out
      obtain ⟨u1, hu1⟩ : ∃ U, (wc_.setCell ⟨X, 0, none⟩ (.func (.func 87) #[] #[])).setCell ⟨X, 1, none⟩ (.int .i64 6) = U := ⟨_, rfl⟩
      have HXu : Hid (u1.heap[X]? = some (.cells #[.func (.func 87) #[] #[], .int .i64 6] 142 (0, 0))) := hid (by rw [← hu1]; exact set_laid (i := 1) (set_laid (i := 0) HXc.out _) _)
      have HBu : Hid (Below V.heap.size V u1) := hid (by rw [← hu1]; exact (HBwc_.out.setCell (by exact LX.out) _).setCell (by exact LX.out) _)
      have HU1 := hid hu1
      clear hu1
      refine wpMix2_h rfl fun R' hR' hO => ?_
      go_wp2
      rw [HU1.out]
      refine hR' _ _ ⟨⟨u1, HBu.out⟩, rfl⟩ ?_
      clear hR' hO R' x0 xf0 x1 xf1
      refine wpMix2_done ?_
      simp only [List.drop_succ_cons, List.drop_nil]
      go_wp2
      go_meet
      exact ⟨X, rfl, hid ⟨HXu.out, HBu.out⟩⟩
  case rest =>
    obtain ⟨X, rfl, hcc⟩ := hcut
    obtain ⟨w1, hw1⟩ : ∃ W, W = wc := ⟨_, rfl⟩
    subst hw1
    have HX := hid hcc.out.1
    have HR1 := hid (HR.out.grow hcc.out.2)
    have HS1 := hid (keep_laid HS.out hcc.out.2)
    have HT1 := hid (Tch.of_below (P := fun k => k = R ∨ k = S) hcc.out.2)
    have hBw : B ≤ w1.heap.size := Nat.le_trans hB hcc.out.2.size
    have x0 := cell_laid (i := 0) HX.out rfl
    have q1 := eq_fnE
    clear hcc
    go_upto_region 4 with (fail)
    obtain ⟨wd, hwd⟩ : ∃ n : Nat, (if cuts = true then next else at_) = n := ⟨_, rfl⟩
    obtain ⟨⟨M', x, d⟩, hX⟩ : ∃ X, stepM M true ((posL link 0 : Nat) : Int) wd = X := ⟨_, rfl⟩
    have HSE : Hid (editE M ⟨5, cuts, link, at_, key, val, hash, next⟩ = (M', (if d = true then (⟨6, cuts, link, at_, key, val, hash, next⟩ : Ede) else (⟨7, cuts, link, at_, key, val, hash, next⟩ : Ede)), true)) := hid (by
      have e0 : editE M ⟨5, cuts, link, at_, key, val, hash, next⟩ = ((stepM M true ((posL link 0 : Nat) : Int) (if cuts = true then next else at_)).1, (if (stepM M true ((posL link 0 : Nat) : Int) (if cuts = true then next else at_)).2.2 = true then (⟨6, cuts, link, at_, key, val, hash, next⟩ : Ede) else (⟨7, cuts, link, at_, key, val, hash, next⟩ : Ede)), true) := by
        unfold editE; rw [if_neg (show ¬ ((6 : Int) ≤ 5) by decide)]; rfl
      rw [e0]; rw [hwd]; rw [hX])
    have HAC : Hid (∀ W, RunC B R M n W → B ≤ W.heap.size → Calls Try.prog 75 #[.pointer (some ⟨R, 0, none⟩), .agg #[.int .i64 2, .int .i64 ((posL link 0 : Nat) : Int), .int .u64 0, .int .u64 ((wd : Nat) : Int)]] W (GivesAc B R n (M', x, d) W)) := hid (fun W h1 h2 => by have := access_any B R M n true 2 ((posL link 0 : Nat) : Int) wd W h1 h2 hok (by unfold posL; omega) rfl hn; rw [hX] at this; exact this)
    obtain ⟨D2, hD2⟩ : ∃ DX, w1.drew = DX := ⟨_, rfl⟩
    have hbD : Below w1.heap.size w1 D2 := by rw [← hD2]; exact (Below.refl _ _).drew
    have HD2 := hid hD2
    have HX2 := hid (keep_laid HX.out hbD)
    have HS2 := hid (keep_laid HS1.out hbD)
    have HR2 := hid (HR1.out.grow hbD)
    have HT2 := hid (HT1.out.trans (Tch.of_below hbD))
    have hB2 := Nat.le_trans hBw hbD.size
    have HND : Hid (Calls Try.prog 87 #[.agg #[.int .i64 5, .bool cuts, .int .u64 ((link : Nat) : Int), .int .u64 ((at_ : Nat) : Int), .int .u64 ((key : Nat) : Int), .int .u64 ((val : Nat) : Int), .int .u64 ((hash : Nat) : Int), .int .u64 ((next : Nat) : Int)]] D2 (Ret (.agg #[.int .i64 2, .int .i64 ((posL link 0 : Nat) : Int), .int .u64 0, .int .u64 ((wd : Nat) : Int)]) D2)) := hid (by rw [← hwd]; exact ned5_any ⟨5, cuts, link, at_, key, val, hash, next⟩ D2 HSK.out)
    clear hD2 hbD hX x0 q1 hwd
    haveI : Nonempty (RXE X S #[.func (.func 87) #[] #[], .int .i64 6] (ed8 ⟨5, cuts, link, at_, key, val, hash, next⟩)) := ⟨⟨D2, HX2.out, HS2.out⟩⟩
    have x0 : ∀ z : RXE X S #[.func (.func 87) #[] #[], .int .i64 6] (ed8 ⟨5, cuts, link, at_, key, val, hash, next⟩), z.w.cell? ⟨X, 0, none⟩ = some (.func (.func 87) #[] #[]) := fun z => cell_laid z.bx rfl
    have s0 : ∀ z : RXE X S #[.func (.func 87) #[] #[], .int .i64 6] (ed8 ⟨5, cuts, link, at_, key, val, hash, next⟩), z.w.cell? ⟨S, 0, none⟩ = some (.int .i64 5) := fun z => cell_laid z.bs rfl
    have s1 : ∀ z : RXE X S #[.func (.func 87) #[] #[], .int .i64 6] (ed8 ⟨5, cuts, link, at_, key, val, hash, next⟩), z.w.cell? ⟨S, 1, none⟩ = some (.bool cuts) := fun z => cell_laid z.bs rfl
    have s2 : ∀ z : RXE X S #[.func (.func 87) #[] #[], .int .i64 6] (ed8 ⟨5, cuts, link, at_, key, val, hash, next⟩), z.w.cell? ⟨S, 2, none⟩ = some (.int .u64 ((link : Nat) : Int)) := fun z => cell_laid z.bs rfl
    have s3 : ∀ z : RXE X S #[.func (.func 87) #[] #[], .int .i64 6] (ed8 ⟨5, cuts, link, at_, key, val, hash, next⟩), z.w.cell? ⟨S, 3, none⟩ = some (.int .u64 ((at_ : Nat) : Int)) := fun z => cell_laid z.bs rfl
    have s4 : ∀ z : RXE X S #[.func (.func 87) #[] #[], .int .i64 6] (ed8 ⟨5, cuts, link, at_, key, val, hash, next⟩), z.w.cell? ⟨S, 4, none⟩ = some (.int .u64 ((key : Nat) : Int)) := fun z => cell_laid z.bs rfl
    have s5 : ∀ z : RXE X S #[.func (.func 87) #[] #[], .int .i64 6] (ed8 ⟨5, cuts, link, at_, key, val, hash, next⟩), z.w.cell? ⟨S, 5, none⟩ = some (.int .u64 ((val : Nat) : Int)) := fun z => cell_laid z.bs rfl
    have s6 : ∀ z : RXE X S #[.func (.func 87) #[] #[], .int .i64 6] (ed8 ⟨5, cuts, link, at_, key, val, hash, next⟩), z.w.cell? ⟨S, 6, none⟩ = some (.int .u64 ((hash : Nat) : Int)) := fun z => cell_laid z.bs rfl
    have s7 : ∀ z : RXE X S #[.func (.func 87) #[] #[], .int .i64 6] (ed8 ⟨5, cuts, link, at_, key, val, hash, next⟩), z.w.cell? ⟨S, 7, none⟩ = some (.int .u64 ((next : Nat) : Int)) := fun z => cell_laid z.bs rfl
    refine wp_region_mix2 (fun W => ∃ z : RXE X S #[.func (.func 87) #[] #[], .int .i64 6] (ed8 ⟨5, cuts, link, at_, key, val, hash, next⟩), W = z.w) 13 (.q 0 (.q 1 (.q 2 (.q 3 (.q 4 (.q 5 (.h 6 (.h 7 (.q 8 (.q 9 (.q 10 (.q 11 (.q 12 .done))))))))))))) (by kernel_rfl) (by kernel_rfl) (by rw [HD2.out]; exact ⟨⟨D2, HX2.out, HS2.out⟩, rfl⟩) ?_
    rw [HD2.out]
    repeat (refine wpMix2_q rfl rfl ?_; go_big_quiet_step (fail); refine wpQuiet_nil ?_)
    refine wpMix2_h rfl fun R' hR' hO => ?_
    go_wp2_with fail
    refine HND.out.mono ?_
    rintro e v1 ⟨rfl, hb⟩
    have HX3 := hid (keep_laid HX2.out hb)
    have HS3 := hid (keep_laid HS2.out hb)
    have HR3 := hid (HR2.out.grow hb)
    have HT3 := hid (HT2.out.trans (Tch.of_below hb))
    have hB3 := Nat.le_trans hB2 hb.size
    clear hb
    go_wp2
    refine hR' _ _ ⟨⟨v1, HX3.out, HS3.out⟩, rfl⟩ ?_
    clear hR' hO R'
    repeat (refine wpMix2_q rfl rfl ?_; go_big_quiet_step (fail); refine wpQuiet_nil ?_)
    refine wpMix2_h rfl fun R' hR' hO => ?_
    go_wp2_with fail
    refine (HAC.out v1 HR3.out hB3).mono ?_
    rintro e v2 ⟨rfl, hr4, ht4⟩
    have hRX : X ≠ R := by obtain ⟨_, _, _, _, k, _⟩ := HR3.out; exact type_ne HX3.out k (by decide)
    have hRS : S ≠ R := by obtain ⟨_, _, _, _, k, _⟩ := HR3.out; exact type_ne HS3.out k (by decide)
    have HX4 := hid (ht4.keep HX3.out hRX)
    have HS4 := hid (ht4.keep HS3.out hRS)
    have HR4 := hid hr4
    have HT4 := hid (HT3.out.trans (ht4.mono fun k h => .inl h))
    clear hr4 ht4
    go_wp2
    refine hR' _ _ ⟨⟨v2, HX4.out, HS4.out⟩, rfl⟩ ?_
    clear hR' hO R'
    repeat (refine wpMix2_q rfl rfl ?_; go_big_quiet_step (fail); refine wpQuiet_nil ?_)
    refine wpMix2_done ?_
    simp only [List.drop_succ_cons, List.drop_nil]
    clear x0 s0 s1 s2 s3 s4 s5 s6 s7
    cases d with
    | true =>
      have x1 := cell_laid (i := 1) HX4.out rfl
      have y0 := cell_laid (i := 0) HS4.out rfl
      have yf0 := free_laid (i := 0) HS4.out
      go_wp2
      go_ret
      rw [HSE.out]
      exact ⟨rfl, HR4.out.tch (S := S) (Tch.set (P := fun k => k = S) rfl _) HS4.out (by decide) (by decide) (by decide), set_laid (i := 0) HS4.out (.int .i64 6), HT4.out.trans (Tch.set (P := fun k => k = R ∨ k = S) (.inr rfl) _)⟩
    | false =>
      have y0 := cell_laid (i := 0) HS4.out rfl
      have yf0 := free_laid (i := 0) HS4.out
      go_wp2
      go_ret
      rw [HSE.out]
      exact ⟨rfl, HR4.out.tch (S := S) (Tch.set (P := fun k => k = S) rfl _) HS4.out (by decide) (by decide) (by decide), set_laid (i := 0) HS4.out (.int .i64 7), HT4.out.trans (Tch.set (P := fun k => k = R ∨ k = S) (.inr rfl) _)⟩
set_option maxRecDepth 100000 in
set_option maxHeartbeats 8000000 in
theorem edit6_any (B R S : Nat) (M : Mem) (n : Nat) (s : Ede) (V : World) (h : RunC B R M n V) (hS : V.heap[S]? = some (.cells (ed8 s) 39 (0, 0))) (hB : B ≤ V.heap.size) (hok : okM M = true) (hs : s.Ok) (hph : s.ph = 6) (hn : n ≤ 1000000) :
    Calls Try.prog 78 #[.pointer (some ⟨R, 0, none⟩), .pointer (some ⟨S, 0, none⟩)] V (GivesEd B R S n (editE M s) V) := by
  obtain ⟨ph, cuts, link, at_, key, val, hash, next⟩ := s
  obtain rfl : ph = 6 := hph
  have HR := hid h
  have HS := hid hS
  have HSK := hid hs
  have ix := edg_at6
  obtain ⟨TB, hTB⟩ : ∃ T, editV = T := ⟨_, rfl⟩
  have HTB := hid hTB
  have HSG : Hid (∀ W, Calls Try.prog 77 #[] W (Ret TB W)) := hid (fun W => by rw [← hTB]; exact edg_any W)
  rw [hTB] at ix
  have r0 : ∀ z : Ext V, z.v.cell? ⟨S, 0, none⟩ = some (.int .i64 6) := fun z => cell_laid (keep_laid HS.out z.b) rfl
  have r1 : ∀ z : Ext V, z.v.cell? ⟨S, 1, none⟩ = some (.bool cuts) := fun z => cell_laid (keep_laid HS.out z.b) rfl
  have r2 : ∀ z : Ext V, z.v.cell? ⟨S, 2, none⟩ = some (.int .u64 ((link : Nat) : Int)) := fun z => cell_laid (keep_laid HS.out z.b) rfl
  have r3 : ∀ z : Ext V, z.v.cell? ⟨S, 3, none⟩ = some (.int .u64 ((at_ : Nat) : Int)) := fun z => cell_laid (keep_laid HS.out z.b) rfl
  have r4 : ∀ z : Ext V, z.v.cell? ⟨S, 4, none⟩ = some (.int .u64 ((key : Nat) : Int)) := fun z => cell_laid (keep_laid HS.out z.b) rfl
  have r5 : ∀ z : Ext V, z.v.cell? ⟨S, 5, none⟩ = some (.int .u64 ((val : Nat) : Int)) := fun z => cell_laid (keep_laid HS.out z.b) rfl
  have r6 : ∀ z : Ext V, z.v.cell? ⟨S, 6, none⟩ = some (.int .u64 ((hash : Nat) : Int)) := fun z => cell_laid (keep_laid HS.out z.b) rfl
  have r7 : ∀ z : Ext V, z.v.cell? ⟨S, 7, none⟩ = some (.int .u64 ((next : Nat) : Int)) := fun z => cell_laid (keep_laid HS.out z.b) rfl
  obtain ⟨D, hD⟩ : ∃ DX, V.drew = DX := ⟨_, rfl⟩
  have hbD : Below V.heap.size V D := by rw [← hD]; exact (Below.refl _ _).drew
  have HD := hid hD
  have HBD := hid hbD
  clear h hS hD hbD hTB hs
  go_enter Try.func78, Try.ntmps78
  go_upto_region 1 with (fail)
  go_cut [5] (fun t5 W => ∃ X : Nat, t5 = .pointer (some ⟨X, 0, none⟩) ∧ Hid (W.heap[X]? = some (.cells #[.nilFunc, .int .i64 0] 142 (0, 0)) ∧ Below V.heap.size V W))
  case first =>
    refine wp_region_mix2 (fun W => ∃ z : Ext V, W = z.v) 8 (.q 1 (.q 2 (.q 3 (.q 4 (.h2 0 (.q 5 (.h 6 (.h 7 .done))) 6 (.h 0 (.q 5 (.h 7 .done)))))))) (by kernel_rfl) (by kernel_rfl) (by rw [HD.out]; exact ⟨⟨D, HBD.out⟩, rfl⟩) ?_
    rw [HD.out]
    repeat (refine wpMix2_q rfl rfl ?_; go_big_quiet_step (fail); refine wpQuiet_nil ?_)
    refine wpMix2_h2 ?_ ?_
    · skip
      refine wpMix2_h rfl fun R' hR' hO => ?_
      go_wp2_with fail
      refine (HSG.out D).mono ?_
      rintro e wc_ ⟨rfl, hbc⟩
      have HBc := hid (HBD.out.trans (hbc.mono HBD.out.size))
      clear hbc
      go_wp2
      refine hR' _ _ ⟨⟨wc_, HBc.out⟩, rfl⟩ ?_
      clear hR' hO R'
      repeat (refine wpMix2_q rfl rfl ?_; go_big_quiet_step (fail); refine wpQuiet_nil ?_)
      have HBwc_ := HBc
      refine wpMix2_h rfl fun R' hR' hO => ?_
      obtain ⟨wa_, hwa_, hba, hsa, hla⟩ := laid wc_ #[.nilFunc, .int .i64 0] 142
      obtain ⟨X, hX⟩ : ∃ X, wc_.heap.size = X := ⟨_, rfl⟩
      rw [hX] at hla
      have LX := hid (show V.heap.size ≤ X from by have := HBwc_.out.size; omega)
      have HBa := hid (HBwc_.out.trans (hba.mono HBwc_.out.size))
      have HXa := hid hla
      clear hba hsa hla
      go_wp2
      refine hR' _ _ ⟨⟨wa_, HBa.out⟩, rfl⟩ ?_
      clear hR' hO R'
      have HBwa_ := HBa
      have x0 := cell_laid (i := 0) HXa.out rfl
      have xf0 := free_laid (i := 0) HXa.out
      have x1 := cell_laid (i := 1) HXa.out rfl
      have xf1 := free_laid (i := 1) HXa.out
      obtain ⟨u1, hu1⟩ : ∃ U, (wa_.setCell ⟨X, 0, none⟩ (.nilFunc)).setCell ⟨X, 1, none⟩ (.int .i64 0) = U := ⟨_, rfl⟩
      have HXu : Hid (u1.heap[X]? = some (.cells #[.nilFunc, .int .i64 0] 142 (0, 0))) := hid (by rw [← hu1]; exact set_laid (i := 1) (set_laid (i := 0) HXa.out _) _)
      have HBu : Hid (Below V.heap.size V u1) := hid (by rw [← hu1]; exact (HBwa_.out.setCell (by exact LX.out) _).setCell (by exact LX.out) _)
      have HU1 := hid hu1
      clear hu1
      refine wpMix2_h rfl fun R' hR' hO => ?_
      go_wp2
      rw [HU1.out]
      refine hR' _ _ ⟨⟨u1, HBu.out⟩, rfl⟩ ?_
      clear hR' hO R' x0 xf0 x1 xf1
      refine wpMix2_done ?_
      simp only [List.drop_succ_cons, List.drop_nil]
      go_wp2
      go_meet
      exact ⟨X, rfl, hid ⟨HXu.out, HBu.out⟩⟩
    · skip
      refine wpMix2_h rfl fun R' hR' hO => ?_
      obtain ⟨wa_, hwa_, hba, hsa, hla⟩ := laid D #[.nilFunc, .int .i64 0] 142
      obtain ⟨X, hX⟩ : ∃ X, D.heap.size = X := ⟨_, rfl⟩
      rw [hX] at hla
      have LX := hid (show V.heap.size ≤ X from by have := HBD.out.size; omega)
      have HBa := hid (HBD.out.trans (hba.mono HBD.out.size))
      have HXa := hid hla
      clear hba hsa hla
      go_wp2
      refine hR' _ _ ⟨⟨wa_, HBa.out⟩, rfl⟩ ?_
      clear hR' hO R'
      have HBwa_ := HBa
      refine wpMix2_h rfl fun R' hR' hO => ?_
      go_wp2_with fail
      refine (HSG.out wa_).mono ?_
      rintro e wc_ ⟨rfl, hbc⟩
      have HBc := hid (HBwa_.out.trans (hbc.mono HBwa_.out.size))
      have HXc := hid (keep_laid HXa.out hbc)
      clear hbc
      go_wp2
      refine hR' _ _ ⟨⟨wc_, HBc.out⟩, rfl⟩ ?_
      clear hR' hO R'
      repeat (refine wpMix2_q rfl rfl ?_; go_big_quiet_step (fail); refine wpQuiet_nil ?_)
      have HBwc_ := HBc
      have x0 := cell_laid (i := 0) HXc.out rfl
      have xf0 := free_laid (i := 0) HXc.out
      have x1 := cell_laid (i := 1) HXc.out rfl
      have xf1 := free_laid (i := 1) HXc.out
      obtain ⟨u1, hu1⟩ : ∃ U, (wc_.setCell ⟨X, 0, none⟩ (.nilFunc)).setCell ⟨X, 1, none⟩ (.int .i64 0) = U := ⟨_, rfl⟩
      have HXu : Hid (u1.heap[X]? = some (.cells #[.nilFunc, .int .i64 0] 142 (0, 0))) := hid (by rw [← hu1]; exact set_laid (i := 1) (set_laid (i := 0) HXc.out _) _)
      have HBu : Hid (Below V.heap.size V u1) := hid (by rw [← hu1]; exact (HBwc_.out.setCell (by exact LX.out) _).setCell (by exact LX.out) _)
      have HU1 := hid hu1
      clear hu1
      refine wpMix2_h rfl fun R' hR' hO => ?_
      go_wp2
      rw [HU1.out]
      refine hR' _ _ ⟨⟨u1, HBu.out⟩, rfl⟩ ?_
      clear hR' hO R' x0 xf0 x1 xf1
      refine wpMix2_done ?_
      simp only [List.drop_succ_cons, List.drop_nil]
      go_wp2
      go_meet
      exact ⟨X, rfl, hid ⟨HXu.out, HBu.out⟩⟩
  case rest =>
    obtain ⟨X, rfl, hcc⟩ := hcut
    obtain ⟨w1, hw1⟩ : ∃ W, W = wc := ⟨_, rfl⟩
    subst hw1
    have HX := hid hcc.out.1
    have HR1 := hid (HR.out.grow hcc.out.2)
    have HS1 := hid (keep_laid HS.out hcc.out.2)
    have HT1 := hid (Tch.of_below (P := fun k => k = R ∨ k = S) hcc.out.2)
    have hBw : B ≤ w1.heap.size := Nat.le_trans hB hcc.out.2.size
    have x0 := cell_laid (i := 0) HX.out rfl
    have q1 := eq_nilE
    clear hcc
    go_wp2
    go_ret
    rw [show editE M ⟨6, cuts, link, at_, key, val, hash, next⟩ = (M, ⟨6, cuts, link, at_, key, val, hash, next⟩, false) from by unfold editE; rw [if_pos (show (6 : Int) ≤ 6 by decide)]]
    exact ⟨rfl, HR1.out, HS1.out, HT1.out⟩
set_option maxRecDepth 100000 in
set_option maxHeartbeats 8000000 in
theorem edit7_any (B R S : Nat) (M : Mem) (n : Nat) (s : Ede) (V : World) (h : RunC B R M n V) (hS : V.heap[S]? = some (.cells (ed8 s) 39 (0, 0))) (hB : B ≤ V.heap.size) (hok : okM M = true) (hs : s.Ok) (hph : s.ph = 7) (hn : n ≤ 1000000) :
    Calls Try.prog 78 #[.pointer (some ⟨R, 0, none⟩), .pointer (some ⟨S, 0, none⟩)] V (GivesEd B R S n (editE M s) V) := by
  obtain ⟨ph, cuts, link, at_, key, val, hash, next⟩ := s
  obtain rfl : ph = 7 := hph
  have HR := hid h
  have HS := hid hS
  have HSK := hid hs
  have ix := edg_at7
  obtain ⟨TB, hTB⟩ : ∃ T, editV = T := ⟨_, rfl⟩
  have HTB := hid hTB
  have HSG : Hid (∀ W, Calls Try.prog 77 #[] W (Ret TB W)) := hid (fun W => by rw [← hTB]; exact edg_any W)
  rw [hTB] at ix
  have r0 : ∀ z : Ext V, z.v.cell? ⟨S, 0, none⟩ = some (.int .i64 7) := fun z => cell_laid (keep_laid HS.out z.b) rfl
  have r1 : ∀ z : Ext V, z.v.cell? ⟨S, 1, none⟩ = some (.bool cuts) := fun z => cell_laid (keep_laid HS.out z.b) rfl
  have r2 : ∀ z : Ext V, z.v.cell? ⟨S, 2, none⟩ = some (.int .u64 ((link : Nat) : Int)) := fun z => cell_laid (keep_laid HS.out z.b) rfl
  have r3 : ∀ z : Ext V, z.v.cell? ⟨S, 3, none⟩ = some (.int .u64 ((at_ : Nat) : Int)) := fun z => cell_laid (keep_laid HS.out z.b) rfl
  have r4 : ∀ z : Ext V, z.v.cell? ⟨S, 4, none⟩ = some (.int .u64 ((key : Nat) : Int)) := fun z => cell_laid (keep_laid HS.out z.b) rfl
  have r5 : ∀ z : Ext V, z.v.cell? ⟨S, 5, none⟩ = some (.int .u64 ((val : Nat) : Int)) := fun z => cell_laid (keep_laid HS.out z.b) rfl
  have r6 : ∀ z : Ext V, z.v.cell? ⟨S, 6, none⟩ = some (.int .u64 ((hash : Nat) : Int)) := fun z => cell_laid (keep_laid HS.out z.b) rfl
  have r7 : ∀ z : Ext V, z.v.cell? ⟨S, 7, none⟩ = some (.int .u64 ((next : Nat) : Int)) := fun z => cell_laid (keep_laid HS.out z.b) rfl
  obtain ⟨D, hD⟩ : ∃ DX, V.drew = DX := ⟨_, rfl⟩
  have hbD : Below V.heap.size V D := by rw [← hD]; exact (Below.refl _ _).drew
  have HD := hid hD
  have HBD := hid hbD
  clear h hS hD hbD hTB hs
  go_enter Try.func78, Try.ntmps78
  go_upto_region 1 with (fail)
  go_cut [5] (fun t5 W => ∃ X : Nat, t5 = .pointer (some ⟨X, 0, none⟩) ∧ Hid (W.heap[X]? = some (.cells #[.nilFunc, .int .i64 0] 142 (0, 0)) ∧ Below V.heap.size V W))
  case first =>
    refine wp_region_mix2 (fun W => ∃ z : Ext V, W = z.v) 8 (.q 1 (.q 2 (.q 3 (.q 4 (.h2 0 (.q 5 (.h 6 (.h 7 .done))) 6 (.h 0 (.q 5 (.h 7 .done)))))))) (by kernel_rfl) (by kernel_rfl) (by rw [HD.out]; exact ⟨⟨D, HBD.out⟩, rfl⟩) ?_
    rw [HD.out]
    repeat (refine wpMix2_q rfl rfl ?_; go_big_quiet_step (fail); refine wpQuiet_nil ?_)
    refine wpMix2_h2 ?_ ?_
    · skip
      refine wpMix2_h rfl fun R' hR' hO => ?_
      go_wp2_with fail
      refine (HSG.out D).mono ?_
      rintro e wc_ ⟨rfl, hbc⟩
      have HBc := hid (HBD.out.trans (hbc.mono HBD.out.size))
      clear hbc
      go_wp2
      refine hR' _ _ ⟨⟨wc_, HBc.out⟩, rfl⟩ ?_
      clear hR' hO R'
      repeat (refine wpMix2_q rfl rfl ?_; go_big_quiet_step (fail); refine wpQuiet_nil ?_)
      have HBwc_ := HBc
      refine wpMix2_h rfl fun R' hR' hO => ?_
      obtain ⟨wa_, hwa_, hba, hsa, hla⟩ := laid wc_ #[.nilFunc, .int .i64 0] 142
      obtain ⟨X, hX⟩ : ∃ X, wc_.heap.size = X := ⟨_, rfl⟩
      rw [hX] at hla
      have LX := hid (show V.heap.size ≤ X from by have := HBwc_.out.size; omega)
      have HBa := hid (HBwc_.out.trans (hba.mono HBwc_.out.size))
      have HXa := hid hla
      clear hba hsa hla
      go_wp2
      refine hR' _ _ ⟨⟨wa_, HBa.out⟩, rfl⟩ ?_
      clear hR' hO R'
      have HBwa_ := HBa
      have x0 := cell_laid (i := 0) HXa.out rfl
      have xf0 := free_laid (i := 0) HXa.out
      have x1 := cell_laid (i := 1) HXa.out rfl
      have xf1 := free_laid (i := 1) HXa.out
      obtain ⟨u1, hu1⟩ : ∃ U, (wa_.setCell ⟨X, 0, none⟩ (.nilFunc)).setCell ⟨X, 1, none⟩ (.int .i64 0) = U := ⟨_, rfl⟩
      have HXu : Hid (u1.heap[X]? = some (.cells #[.nilFunc, .int .i64 0] 142 (0, 0))) := hid (by rw [← hu1]; exact set_laid (i := 1) (set_laid (i := 0) HXa.out _) _)
      have HBu : Hid (Below V.heap.size V u1) := hid (by rw [← hu1]; exact (HBwa_.out.setCell (by exact LX.out) _).setCell (by exact LX.out) _)
      have HU1 := hid hu1
      clear hu1
      refine wpMix2_h rfl fun R' hR' hO => ?_
      go_wp2
      rw [HU1.out]
      refine hR' _ _ ⟨⟨u1, HBu.out⟩, rfl⟩ ?_
      clear hR' hO R' x0 xf0 x1 xf1
      refine wpMix2_done ?_
      simp only [List.drop_succ_cons, List.drop_nil]
      go_wp2
      go_meet
      exact ⟨X, rfl, hid ⟨HXu.out, HBu.out⟩⟩
    · skip
      refine wpMix2_h rfl fun R' hR' hO => ?_
      obtain ⟨wa_, hwa_, hba, hsa, hla⟩ := laid D #[.nilFunc, .int .i64 0] 142
      obtain ⟨X, hX⟩ : ∃ X, D.heap.size = X := ⟨_, rfl⟩
      rw [hX] at hla
      have LX := hid (show V.heap.size ≤ X from by have := HBD.out.size; omega)
      have HBa := hid (HBD.out.trans (hba.mono HBD.out.size))
      have HXa := hid hla
      clear hba hsa hla
      go_wp2
      refine hR' _ _ ⟨⟨wa_, HBa.out⟩, rfl⟩ ?_
      clear hR' hO R'
      have HBwa_ := HBa
      refine wpMix2_h rfl fun R' hR' hO => ?_
      go_wp2_with fail
      refine (HSG.out wa_).mono ?_
      rintro e wc_ ⟨rfl, hbc⟩
      have HBc := hid (HBwa_.out.trans (hbc.mono HBwa_.out.size))
      have HXc := hid (keep_laid HXa.out hbc)
      clear hbc
      go_wp2
      refine hR' _ _ ⟨⟨wc_, HBc.out⟩, rfl⟩ ?_
      clear hR' hO R'
      repeat (refine wpMix2_q rfl rfl ?_; go_big_quiet_step (fail); refine wpQuiet_nil ?_)
      have HBwc_ := HBc
      have x0 := cell_laid (i := 0) HXc.out rfl
      have xf0 := free_laid (i := 0) HXc.out
      have x1 := cell_laid (i := 1) HXc.out rfl
      have xf1 := free_laid (i := 1) HXc.out
      obtain ⟨u1, hu1⟩ : ∃ U, (wc_.setCell ⟨X, 0, none⟩ (.nilFunc)).setCell ⟨X, 1, none⟩ (.int .i64 0) = U := ⟨_, rfl⟩
      have HXu : Hid (u1.heap[X]? = some (.cells #[.nilFunc, .int .i64 0] 142 (0, 0))) := hid (by rw [← hu1]; exact set_laid (i := 1) (set_laid (i := 0) HXc.out _) _)
      have HBu : Hid (Below V.heap.size V u1) := hid (by rw [← hu1]; exact (HBwc_.out.setCell (by exact LX.out) _).setCell (by exact LX.out) _)
      have HU1 := hid hu1
      clear hu1
      refine wpMix2_h rfl fun R' hR' hO => ?_
      go_wp2
      rw [HU1.out]
      refine hR' _ _ ⟨⟨u1, HBu.out⟩, rfl⟩ ?_
      clear hR' hO R' x0 xf0 x1 xf1
      refine wpMix2_done ?_
      simp only [List.drop_succ_cons, List.drop_nil]
      go_wp2
      go_meet
      exact ⟨X, rfl, hid ⟨HXu.out, HBu.out⟩⟩
  case rest =>
    obtain ⟨X, rfl, hcc⟩ := hcut
    obtain ⟨w1, hw1⟩ : ∃ W, W = wc := ⟨_, rfl⟩
    subst hw1
    have HX := hid hcc.out.1
    have HR1 := hid (HR.out.grow hcc.out.2)
    have HS1 := hid (keep_laid HS.out hcc.out.2)
    have HT1 := hid (Tch.of_below (P := fun k => k = R ∨ k = S) hcc.out.2)
    have hBw : B ≤ w1.heap.size := Nat.le_trans hB hcc.out.2.size
    have x0 := cell_laid (i := 0) HX.out rfl
    have q1 := eq_nilE
    clear hcc
    go_wp2
    go_ret
    rw [show editE M ⟨7, cuts, link, at_, key, val, hash, next⟩ = (M, ⟨7, cuts, link, at_, key, val, hash, next⟩, false) from by unfold editE; rw [if_pos (show (6 : Int) ≤ 7 by decide)]]
    exact ⟨rfl, HR1.out, HS1.out, HT1.out⟩
theorem edit_any (B R S : Nat) (M : Mem) (n : Nat) (s : Ede) (V : World) (h : RunC B R M n V) (hS : V.heap[S]? = some (.cells (ed8 s) 39 (0, 0))) (hB : B ≤ V.heap.size) (hok : okM M = true) (hs : s.Ok) (hp : 0 ≤ s.ph) (hp5 : s.ph ≤ 7) (hn : n ≤ 1000000) :
    Calls Try.prog 78 #[.pointer (some ⟨R, 0, none⟩), .pointer (some ⟨S, 0, none⟩)] V (GivesEd B R S n (editE M s) V) := by
  rcases (show s.ph = 0 ∨ s.ph = 1 ∨ s.ph = 2 ∨ s.ph = 3 ∨ s.ph = 4 ∨ s.ph = 5 ∨ s.ph = 6 ∨ s.ph = 7 by omega) with e | e | e | e | e | e | e | e
  · exact edit0_any B R S M n s V h hS hB hok hs e hn
  · exact edit1_any B R S M n s V h hS hB hok hs e hn
  · exact edit2_any B R S M n s V h hS hB hok hs e hn
  · exact edit3_any B R S M n s V h hS hB hok hs e hn
  · exact edit4_any B R S M n s V h hS hB hok hs e hn
  · exact edit5_any B R S M n s V h hS hB hok hs e hn
  · exact edit6_any B R S M n s V h hS hB hok hs e hn
  · exact edit7_any B R S M n s V h hS hB hok hs e hn
end Go.Proofs.Ytipohagcppfgiaa
