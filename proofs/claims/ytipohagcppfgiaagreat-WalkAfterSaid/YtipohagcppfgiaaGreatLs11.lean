/- Lists (printed by gen_ls11.py): a step of who edits. -/
import Derived.Test.YtipohagcppfgiaaGreatLs10
namespace Go.Proofs.YtipohagcppfgiaaGreat
open Go.RowKit
open Go.Proofs
set_option linter.unusedVariables false
attribute [local go_sem] Oper.semAt_some
/-- Worlds in which two variables lie so. -/
structure RXE (X S : Nat) (cs cs' : Array Value) where
 w : World
 bx : w.heap[X]? = some (.cells cs 169 (0, 0))
 bs : w.heap[S]? = some (.cells cs' 44 (0, 0))
structure RX1 (X : Nat) (cs : Array Value) where
 w : World
 bx : w.heap[X]? = some (.cells cs 169 (0, 0))
def nextE : Nat → Int
 | 0 => 1
 | 1 => 2
 | 2 => 3
 | 3 => 5
 | 4 => 5
 | _ => 6
/-- A step of who edits: the memory, who edits, whether there was one. -/
def editE (M : Mem) (s : Ede) : Mem × Ede × Bool := if 6 ≤ s.ph then (M, s, false) else
 ((stepM M (s.ph != 4) (((needE s s.ph.toNat).2.1 : Nat) : Int) (needE s s.ph.toNat).2.2).1,
  if (stepM M (s.ph != 4) (((needE s s.ph.toNat).2.1 : Nat) : Int) (needE s s.ph.toNat).2.2).2.2 = true then
   { s with ph := nextE s.ph.toNat, next := if s.ph = 4 then (stepM M (s.ph != 4) (((needE s s.ph.toNat).2.1 : Nat) : Int) (needE s s.ph.toNat).2.2).2.1 else s.next }
  else { s with ph := 7 }, true)
theorem eq_fnE (f : Nat) (w : World) : (binOp BinOp.eql 167 (.func (.func f) #[] #[]) .nilFunc).run Tryz.prog w = .ok (.bool false) w := by kernel_rfl
theorem eq_nilE (w : World) : (binOp BinOp.eql 167 .nilFunc .nilFunc).run Tryz.prog w = .ok (.bool true) w := by kernel_rfl
def GivesEd (B R S n : Nat) (X : Mem × Ede × Bool) (V : World) (e : Ending) (W : World) : Prop := e = .returned (.bool X.2.2) ∧ RunC B R X.1 (if X.2.2 = true then n + 1 else n) W ∧ W.heap[S]? = some (.cells (ed8 X.2.1) 44 (0, 0)) ∧ Tch (fun k => k = R ∨ k = S) V W
theorem needE_le {s : Ede} : ∀ k, k < 6 → (needE s k).2.1 ≤ 5000
 | 0, _ => by show min _ 4096 + _ ≤ 5000; omega
 | 1, _ => by show min _ 4096 + _ ≤ 5000; omega
 | 2, _ => by show min _ 4096 + _ ≤ 5000; omega
 | 3, _ => by show min _ 4096 + _ ≤ 5000; omega
 | 4, _ => by show min _ 4096 + _ ≤ 5000; omega
 | 5, _ => by show min _ 4096 + _ ≤ 5000; omega
theorem needE_st {s : Ede} : ∀ k, k < 6 → (needE s k).1 = if ((((k : Nat) : Int) != 4) = true) then 2 else 1
 | 0, _ => rfl
 | 1, _ => rfl
 | 2, _ => rfl
 | 3, _ => rfl
 | 4, _ => rfl
 | 5, _ => rfl
set_option maxRecDepth 100000 in
set_option maxHeartbeats 8000000 in
theorem editk_any (k fk : Nat) (nk : Int) (hk : k < 6) (ix : ∀ W, (Instr.index 170 editV (.int .i64 k)).run Tryz.prog W = .ok (.agg #[.func (.func fk) #[] #[], .int .i64 nk]) W) (hcf : ∀ (a : Array Value) (w : World), (callFunc fk a).run Tryz.prog w = .ok (.enter fk a) w) (hnk : nextE k = nk) (B R S : Nat) (M : Mem) (n : Nat) (s : Ede) (V : World) (hnd : ∀ W, Calls Tryz.prog fk #[edV s] W (Ret (.agg (ac4 (needE s k))) W)) (h : RunC B R M n V) (hS : V.heap[S]? = some (.cells (ed8 s) 44 (0, 0))) (hB : B ≤ V.heap.size) (hok : okM M = true) (hs : s.Ok) (hph : s.ph = ((k : Nat) : Int)) (hn : n ≤ 1000000) :
  Calls Tryz.prog 100 #[.pointer (some ⟨R, 0, none⟩), .pointer (some ⟨S, 0, none⟩)] V (GivesEd B R S n (editE M s) V) := by
 obtain ⟨ph, cuts, link, at_, key, val, hash, next⟩ := s
 obtain rfl : ph = ((k : Nat) : Int) := hph
 have HR := hid h
 have HS := hid hS
 have HSK := hid hs
 obtain ⟨TB, hTB⟩ := nm (editV)
 have HTB := hid hTB
 have HSG : Hid (∀ W, Calls Tryz.prog 99 #[] W (Ret TB W)) := hid (fun W => by rw [← hTB]; exact edg_any W)
 rw [hTB] at ix
 have r0 : ∀ z : Ext V, z.v.cell? ⟨S, 0, none⟩ = some (.int .i64 k) := fun z => clD (klD HS.out z.b) rfl
 have r1 : ∀ z : Ext V, z.v.cell? ⟨S, 1, none⟩ = some (.bool cuts) := fun z => clD (klD HS.out z.b) rfl
 have r2 : ∀ z : Ext V, z.v.cell? ⟨S, 2, none⟩ = some (.int .u64 link) := fun z => clD (klD HS.out z.b) rfl
 have r3 : ∀ z : Ext V, z.v.cell? ⟨S, 3, none⟩ = some (.int .u64 at_) := fun z => clD (klD HS.out z.b) rfl
 have r4 : ∀ z : Ext V, z.v.cell? ⟨S, 4, none⟩ = some (.int .u64 key) := fun z => clD (klD HS.out z.b) rfl
 have r5 : ∀ z : Ext V, z.v.cell? ⟨S, 5, none⟩ = some (.int .u64 val) := fun z => clD (klD HS.out z.b) rfl
 have r6 : ∀ z : Ext V, z.v.cell? ⟨S, 6, none⟩ = some (.int .u64 hash) := fun z => clD (klD HS.out z.b) rfl
 have r7 : ∀ z : Ext V, z.v.cell? ⟨S, 7, none⟩ = some (.int .u64 next) := fun z => clD (klD HS.out z.b) rfl
 obtain ⟨D, hD⟩ := nm (V.drew)
 have hbD : Below V.heap.size V D := by rw [← hD]; exact (Below.refl _ _).drew
 have HD := hid hD
 have HBD := hid hbD
 have HOK := hid hok
 clear h hS hD hbD hTB hs hok
 go_enter Tryz.func100, Tryz.ntmps100
 go_upto_region 1 with (fail)
 go_cut [5] (fun t5 W => ∃ X : Nat, t5 = .pointer (some ⟨X, 0, none⟩) ∧ Hid (W.heap[X]? = some (.cells #[.func (.func fk) #[] #[], .int .i64 nk] 169 (0, 0)) ∧ Below V.heap.size V W))
 case first =>
  refine rgm2 (fun W => ∃ z : Ext V, W = z.v) 8 (.q 1 (.q 2 (.q 3 (.q 4 (.h2 0 (.q 5 (.h 6 (.h 7 .done))) 6 (.h 0 (.q 5 (.h 7 .done)))))))) (by kernel_rfl) (by kernel_rfl) (by rw [HD.out]; exact ⟨⟨D, HBD.out⟩, rfl⟩) ?_
  rw [HD.out]
  repeat (refine m2q rfl rfl ?_; go_big_quiet_step (fail); refine wpQuiet_nil ?_)
  refine wpMix2_h2 ?_ ?_
  ·skip
   refine m2h rfl fun R' hR' hO => ?_
   go_wp2_with fail
   refine (HSG.out D).mono ?_
   rintro e wc_ ⟨rfl, hbc⟩
   have HBc := hid (HBD.out.trans (hbc.mono HBD.out.size))
   clear hbc
   go_wp2
   refine hR' _ _ ⟨⟨wc_, HBc.out⟩, rfl⟩ ?_
   clear hR' hO R'
   repeat (refine m2q rfl rfl ?_; go_big_quiet_step (fail); refine wpQuiet_nil ?_)
   have HBwc_ := HBc
   refine m2h rfl fun R' hR' hO => ?_
   obtain ⟨wa_, hwa_, hba, hsa, hla⟩ := laid wc_ #[.nilFunc, .int .i64 0] 169
   obtain ⟨X, hX⟩ := nm (wc_.heap.size)
   rw [hX] at hla
   have LX := hid (show V.heap.size ≤ X from by have := HBwc_.out.size; omega)
   have HBa := hid (HBwc_.out.trans (hba.mono HBwc_.out.size))
   have HXa := hid hla
   clear hba hsa hla
   go_wp2
   refine hR' _ _ ⟨⟨wa_, HBa.out⟩, rfl⟩ ?_
   clear hR' hO R'
   have HBwa_ := HBa
   have x0 := clD (i := 0) HXa.out rfl
   have xf0 := flD (i := 0) HXa.out
   have x1 := clD (i := 1) HXa.out rfl
   have xf1 := flD (i := 1) HXa.out
   obtain ⟨u1, hu1⟩ : ∃ U, (wa_.setCell ⟨X, 0, none⟩ (.func (.func fk) #[] #[])).setCell ⟨X, 1, none⟩ (.int .i64 nk) = U := ⟨_, rfl⟩
   have HXu : Hid (u1.heap[X]? = some (.cells #[.func (.func fk) #[] #[], .int .i64 nk] 169 (0, 0))) := hid (by rw [← hu1]; exact slD (i := 1) (slD (i := 0) HXa.out _) _)
   have HBu : Hid (Below V.heap.size V u1) := hid (by rw [← hu1]; exact (HBwa_.out.setCell (by exact LX.out) _).setCell (by exact LX.out) _)
   have HU1 := hid hu1
   clear hu1
   refine m2h rfl fun R' hR' hO => ?_
   go_wp2
   rw [HU1.out]
   refine hR' _ _ ⟨⟨u1, HBu.out⟩, rfl⟩ ?_
   clear hR' hO R' x0 xf0 x1 xf1
   refine m2d ?_
   simp only [List.drop_succ_cons, List.drop_nil]
   go_wp2
   go_meet
   exact ⟨X, rfl, hid ⟨HXu.out, HBu.out⟩⟩
  ·skip
   refine m2h rfl fun R' hR' hO => ?_
   obtain ⟨wa_, hwa_, hba, hsa, hla⟩ := laid D #[.nilFunc, .int .i64 0] 169
   obtain ⟨X, hX⟩ := nm (D.heap.size)
   rw [hX] at hla
   have LX := hid (show V.heap.size ≤ X from by have := HBD.out.size; omega)
   have HBa := hid (HBD.out.trans (hba.mono HBD.out.size))
   have HXa := hid hla
   clear hba hsa hla
   go_wp2
   refine hR' _ _ ⟨⟨wa_, HBa.out⟩, rfl⟩ ?_
   clear hR' hO R'
   have HBwa_ := HBa
   refine m2h rfl fun R' hR' hO => ?_
   go_wp2_with fail
   refine (HSG.out wa_).mono ?_
   rintro e wc_ ⟨rfl, hbc⟩
   have HBc := hid (HBwa_.out.trans (hbc.mono HBwa_.out.size))
   have HXc := hid (klD HXa.out hbc)
   clear hbc
   go_wp2
   refine hR' _ _ ⟨⟨wc_, HBc.out⟩, rfl⟩ ?_
   clear hR' hO R'
   repeat (refine m2q rfl rfl ?_; go_big_quiet_step (fail); refine wpQuiet_nil ?_)
   have HBwc_ := HBc
   have x0 := clD (i := 0) HXc.out rfl
   have xf0 := flD (i := 0) HXc.out
   have x1 := clD (i := 1) HXc.out rfl
   have xf1 := flD (i := 1) HXc.out
   obtain ⟨u1, hu1⟩ : ∃ U, (wc_.setCell ⟨X, 0, none⟩ (.func (.func fk) #[] #[])).setCell ⟨X, 1, none⟩ (.int .i64 nk) = U := ⟨_, rfl⟩
   have HXu : Hid (u1.heap[X]? = some (.cells #[.func (.func fk) #[] #[], .int .i64 nk] 169 (0, 0))) := hid (by rw [← hu1]; exact slD (i := 1) (slD (i := 0) HXc.out _) _)
   have HBu : Hid (Below V.heap.size V u1) := hid (by rw [← hu1]; exact (HBwc_.out.setCell (by exact LX.out) _).setCell (by exact LX.out) _)
   have HU1 := hid hu1
   clear hu1
   refine m2h rfl fun R' hR' hO => ?_
   go_wp2
   rw [HU1.out]
   refine hR' _ _ ⟨⟨u1, HBu.out⟩, rfl⟩ ?_
   clear hR' hO R' x0 xf0 x1 xf1
   refine m2d ?_
   simp only [List.drop_succ_cons, List.drop_nil]
   go_wp2
   go_meet
   exact ⟨X, rfl, hid ⟨HXu.out, HBu.out⟩⟩
 case rest =>
  obtain ⟨X, rfl, hcc⟩ := hcut
  obtain ⟨w1, hw1⟩ : ∃ W, W = wc := ⟨_, rfl⟩
  subst hw1
  have HX := hid hcc.out.1
  have HR1 := hid (HR.out.grow hcc.out.2)
  have HS1 := hid (klD HS.out hcc.out.2)
  have HT1 := hid (Tch.of_below (P := fun k => k = R ∨ k = S) hcc.out.2)
  have hBw : B ≤ w1.heap.size := Nat.le_trans hB hcc.out.2.size
  have x0 := clD (i := 0) HX.out rfl
  have q1 := eq_fnE
  clear hcc
  go_upto_region 4 with (fail)
  obtain ⟨⟨kd, ps, nw⟩, hnx⟩ : ∃ q, needE ⟨((k : Nat) : Int), cuts, link, at_, key, val, hash, next⟩ k = q := ⟨_, rfl⟩
  obtain ⟨⟨M', x, d⟩, hX⟩ : ∃ X, stepM M (((k : Nat) : Int) != 4) ((ps : Nat) : Int) nw = X := ⟨_, rfl⟩
  have HSE : Hid (editE M ⟨((k : Nat) : Int), cuts, link, at_, key, val, hash, next⟩ = (M', (if d = true then (⟨nk, cuts, link, at_, key, val, hash, if ((k : Nat) : Int) = 4 then x else next⟩ : Ede) else (⟨7, cuts, link, at_, key, val, hash, next⟩ : Ede)), true)) := hid (by
   unfold editE
   rw [if_neg (by dsimp only; omega)]
   dsimp only
   rw [Int.toNat_natCast, hnx]
   dsimp only
   rw [hX, hnk])
  have HAC : Hid (∀ W, RunC B R M n W → B ≤ W.heap.size → Calls Tryz.prog 96 #[.pointer (some ⟨R, 0, none⟩), .agg (ac4 (kd, ps, nw))] W (GivesAc B R n (M', x, d) W)) := hid (fun W h1 h2 => by
   have e1 := needE_le (s := ⟨((k : Nat) : Int), cuts, link, at_, key, val, hash, next⟩) k hk
   have e2 := needE_st (s := ⟨((k : Nat) : Int), cuts, link, at_, key, val, hash, next⟩) k hk
   rw [hnx] at e1 e2
   dsimp only at e1 e2
   have := access_any B R M n (((k : Nat) : Int) != 4) kd ((ps : Nat) : Int) nw W h1 h2 HOK.out (by omega) e2 hn
   rw [hX] at this
   exact this)
  obtain ⟨D2, hD2⟩ := nm (w1.drew)
  have hbD : Below w1.heap.size w1 D2 := by rw [← hD2]; exact (Below.refl _ _).drew
  have HD2 := hid hD2
  have HX2 := hid (klD HX.out hbD)
  have HS2 := hid (klD HS1.out hbD)
  have HR2 := hid (HR1.out.grow hbD)
  have HT2 := hid (HT1.out.trans (Tch.of_below hbD))
  have hB2 := Nat.le_trans hBw hbD.size
  have HND := hid (hnd D2)
  unfold edV at HND
  rw [hnx] at HND
  dsimp only at HND
  clear hnd hnx
  clear hD2 hbD hX x0 q1
  haveI : Nonempty (RXE X S #[.func (.func fk) #[] #[], .int .i64 nk] (ed8 ⟨((k : Nat) : Int), cuts, link, at_, key, val, hash, next⟩)) := ⟨⟨D2, HX2.out, HS2.out⟩⟩
  have x0 : ∀ z : RXE X S #[.func (.func fk) #[] #[], .int .i64 nk] (ed8 ⟨((k : Nat) : Int), cuts, link, at_, key, val, hash, next⟩), z.w.cell? ⟨X, 0, none⟩ = some (.func (.func fk) #[] #[]) := fun z => clD z.bx rfl
  have s0 : ∀ z : RXE X S #[.func (.func fk) #[] #[], .int .i64 nk] (ed8 ⟨((k : Nat) : Int), cuts, link, at_, key, val, hash, next⟩), z.w.cell? ⟨S, 0, none⟩ = some (.int .i64 k) := fun z => clD z.bs rfl
  have s1 : ∀ z : RXE X S #[.func (.func fk) #[] #[], .int .i64 nk] (ed8 ⟨((k : Nat) : Int), cuts, link, at_, key, val, hash, next⟩), z.w.cell? ⟨S, 1, none⟩ = some (.bool cuts) := fun z => clD z.bs rfl
  have s2 : ∀ z : RXE X S #[.func (.func fk) #[] #[], .int .i64 nk] (ed8 ⟨((k : Nat) : Int), cuts, link, at_, key, val, hash, next⟩), z.w.cell? ⟨S, 2, none⟩ = some (.int .u64 link) := fun z => clD z.bs rfl
  have s3 : ∀ z : RXE X S #[.func (.func fk) #[] #[], .int .i64 nk] (ed8 ⟨((k : Nat) : Int), cuts, link, at_, key, val, hash, next⟩), z.w.cell? ⟨S, 3, none⟩ = some (.int .u64 at_) := fun z => clD z.bs rfl
  have s4 : ∀ z : RXE X S #[.func (.func fk) #[] #[], .int .i64 nk] (ed8 ⟨((k : Nat) : Int), cuts, link, at_, key, val, hash, next⟩), z.w.cell? ⟨S, 4, none⟩ = some (.int .u64 key) := fun z => clD z.bs rfl
  have s5 : ∀ z : RXE X S #[.func (.func fk) #[] #[], .int .i64 nk] (ed8 ⟨((k : Nat) : Int), cuts, link, at_, key, val, hash, next⟩), z.w.cell? ⟨S, 5, none⟩ = some (.int .u64 val) := fun z => clD z.bs rfl
  have s6 : ∀ z : RXE X S #[.func (.func fk) #[] #[], .int .i64 nk] (ed8 ⟨((k : Nat) : Int), cuts, link, at_, key, val, hash, next⟩), z.w.cell? ⟨S, 6, none⟩ = some (.int .u64 hash) := fun z => clD z.bs rfl
  have s7 : ∀ z : RXE X S #[.func (.func fk) #[] #[], .int .i64 nk] (ed8 ⟨((k : Nat) : Int), cuts, link, at_, key, val, hash, next⟩), z.w.cell? ⟨S, 7, none⟩ = some (.int .u64 next) := fun z => clD z.bs rfl
  refine rgm2 (fun W => ∃ z : RXE X S #[.func (.func fk) #[] #[], .int .i64 nk] (ed8 ⟨((k : Nat) : Int), cuts, link, at_, key, val, hash, next⟩), W = z.w) 13 (.q 0 (.q 1 (.q 2 (.q 3 (.q 4 (.q 5 (.h 6 (.h 7 (.q 8 (.q 9 (.q 10 (.q 11 (.q 12 .done))))))))))))) (by kernel_rfl) (by kernel_rfl) (by rw [HD2.out]; exact ⟨⟨D2, HX2.out, HS2.out⟩, rfl⟩) ?_
  rw [HD2.out]
  repeat (refine m2q rfl rfl ?_; go_big_quiet_step (fail); refine wpQuiet_nil ?_)
  refine m2h rfl fun R' hR' hO => ?_
  go_wp2_with fail
  refine HND.out.mono ?_
  rintro e v1 ⟨rfl, hb⟩
  have HX3 := hid (klD HX2.out hb)
  have HS3 := hid (klD HS2.out hb)
  have HR3 := hid (HR2.out.grow hb)
  have HT3 := hid (HT2.out.trans (Tch.of_below hb))
  have hB3 := Nat.le_trans hB2 hb.size
  clear hb
  go_wp2
  refine hR' _ _ ⟨⟨v1, HX3.out, HS3.out⟩, rfl⟩ ?_
  clear hR' hO R'
  repeat (refine m2q rfl rfl ?_; go_big_quiet_step (fail); refine wpQuiet_nil ?_)
  refine m2h rfl fun R' hR' hO => ?_
  go_wp2_with fail
  refine (HAC.out v1 HR3.out hB3).mono ?_
  rintro e v2 ⟨rfl, hr4, ht4⟩
  have hRX : X ≠ R := by obtain ⟨_, _, _, _, k, _⟩ := HR3.out; exact tyN HX3.out k (by decide)
  have hRS : S ≠ R := by obtain ⟨_, _, _, _, k, _⟩ := HR3.out; exact tyN HS3.out k (by decide)
  have HX4 := hid (ht4.keep HX3.out hRX)
  have HS4 := hid (ht4.keep HS3.out hRS)
  have HR4 := hid hr4
  have HT4 := hid (HT3.out.trans (ht4.mono fun k h => .inl h))
  clear hr4 ht4
  go_wp2
  refine hR' _ _ ⟨⟨v2, HX4.out, HS4.out⟩, rfl⟩ ?_
  clear hR' hO R'
  repeat (refine m2q rfl rfl ?_; go_big_quiet_step (fail); refine wpQuiet_nil ?_)
  refine m2d ?_
  simp only [List.drop_succ_cons, List.drop_nil]
  clear x0 s0 s1 s2 s3 s4 s5 s6 s7
  cases d with
  | true =>
   by_cases hk4 : k = 4
   ·skip
    have hXS : X ≠ S := tyN HX4.out HS4.out (by decide)
    have y0 := clD (i := 0) HS4.out rfl
    have t4 : (((k : Nat) : Int) == 4) = true := by simp; omega
    have hk4i : ((k : Nat) : Int) = 4 := by omega
    clear hk4
    go_upto_region 9 with (fail)
    obtain ⟨D3, hD3⟩ := nm (v2.drew)
    have hbD3 : Below v2.heap.size v2 D3 := by rw [← hD3]; exact (Below.refl _ _).drew
    have HD3 := hid hD3
    have HX5 := hid (klD HX4.out hbD3)
    have HS5 := hid (klD HS4.out hbD3)
    have HR5 := hid (HR4.out.grow hbD3)
    have HT5 := hid (HT4.out.trans (Tch.of_below hbD3))
    clear hbD3 hD3 y0 t4
    obtain ⟨U1, hU1⟩ : ∃ U, D3.setCell ⟨S, 7, none⟩ (.int .u64 x) = U := ⟨_, rfl⟩
    have HS6 : Hid (U1.heap[S]? = some (.cells #[.int .i64 k, .bool cuts, .int .u64 link, .int .u64 at_, .int .u64 key, .int .u64 val, .int .u64 hash, .int .u64 x] 44 (0, 0))) := hid (by rw [← hU1]; exact slD (i := 7) HS5.out _)
    have HX6 : Hid (U1.heap[X]? = some (.cells #[.func (.func fk) #[] #[], .int .i64 nk] 169 (0, 0))) := hid (by rw [← hU1]; exact (Tch.set (P := fun k => k = S) rfl _).keep HX5.out hXS)
    obtain ⟨U2, hU2⟩ : ∃ U, U1.setCell ⟨S, 0, none⟩ (.int .i64 nk) = U := ⟨_, rfl⟩
    have HS7 : Hid (U2.heap[S]? = some (.cells #[.int .i64 nk, .bool cuts, .int .u64 link, .int .u64 at_, .int .u64 key, .int .u64 val, .int .u64 hash, .int .u64 x] 44 (0, 0))) := hid (by rw [← hU2]; exact slD (i := 0) HS6.out _)
    have HX7 : Hid (U2.heap[X]? = some (.cells #[.func (.func fk) #[] #[], .int .i64 nk] 169 (0, 0))) := hid (by rw [← hU2]; exact (Tch.set (P := fun k => k = S) rfl _).keep HX6.out hXS)
    have HT7 : Hid (Tch (fun k => k = S) D3 U2) := hid (by rw [← hU2, ← hU1]; exact (Tch.set (P := fun k => k = S) rfl _).trans (Tch.set (P := fun k => k = S) rfl _))
    have HU1 := hid hU1
    have HU2 := hid hU2
    have yf7 := flD (i := 7) HS5.out
    have yf0 := flD (i := 0) HS6.out
    have yc7 := clD (i := 7) HS5.out rfl
    have yc0 := clD (i := 0) HS6.out rfl
    clear hU1 hU2
    haveI : Nonempty (RX1 X #[.func (.func fk) #[] #[], .int .i64 nk]) := ⟨⟨D3, HX5.out⟩⟩
    have x1 : ∀ z : RX1 X #[.func (.func fk) #[] #[], .int .i64 nk], z.w.cell? ⟨X, 1, none⟩ = some (.int .i64 nk) := fun z => clD z.bx rfl
    refine rgm2 (fun W => ∃ z : RX1 X #[.func (.func fk) #[] #[], .int .i64 nk], W = z.w) 11 (.q 0 (.q 1 (.q 2 (.q 3 (.q 4 (.q 5 (.q 6 (.h 7 (.q 8 (.q 9 (.h 10 .done))))))))))) (by kernel_rfl) (by kernel_rfl) (by rw [HD3.out]; exact ⟨⟨D3, HX5.out⟩, rfl⟩) ?_
    rw [HD3.out]
    repeat (refine m2q rfl rfl ?_; go_big_quiet_step (fail); refine wpQuiet_nil ?_)
    refine m2h rfl fun R' hR' hO => ?_
    go_wp2
    rw [HU1.out]
    refine hR' _ _ ⟨⟨U1, HX6.out⟩, rfl⟩ ?_
    clear hR' hO R'
    repeat (refine m2q rfl rfl ?_; go_big_quiet_step (fail); refine wpQuiet_nil ?_)
    refine m2h rfl fun R' hR' hO => ?_
    go_wp2
    rw [HU2.out]
    refine hR' _ _ ⟨⟨U2, HX7.out⟩, rfl⟩ ?_
    clear hR' hO R'
    refine m2d ?_
    simp only [List.drop_succ_cons, List.drop_nil]
    go_wp2
    go_ret
    rw [HSE.out, if_pos (by trivial), if_pos hk4i]
    exact ⟨rfl, HR5.out.tch (S := S) HT7.out HS5.out (by decide) (by decide) (by decide), HS7.out, HT5.out.trans (HT7.out.mono fun k h => .inr h)⟩
   ·skip
    have t4 : (((k : Nat) : Int) == 4) = false := by simp; omega
    have hk4i : ¬ ((k : Nat) : Int) = 4 := by omega
    clear hk4
    have x1 := clD (i := 1) HX4.out rfl
    have y0 := clD (i := 0) HS4.out rfl
    have yf0 := flD (i := 0) HS4.out
    go_wp2
    go_ret
    rw [HSE.out, if_pos (by trivial), if_neg hk4i]
    exact ⟨rfl, HR4.out.tch (S := S) (Tch.set (P := fun k => k = S) rfl _) HS4.out (by decide) (by decide) (by decide), slD (i := 0) HS4.out (.int .i64 nk), HT4.out.trans (Tch.set (P := fun k => k = R ∨ k = S) (.inr rfl) _)⟩
  | false =>
   have y0 := clD (i := 0) HS4.out rfl
   have yf0 := flD (i := 0) HS4.out
   go_wp2
   go_ret
   rw [HSE.out, if_neg (by simp)]
   exact ⟨rfl, HR4.out.tch (S := S) (Tch.set (P := fun k => k = S) rfl _) HS4.out (by decide) (by decide) (by decide), slD (i := 0) HS4.out (.int .i64 7), HT4.out.trans (Tch.set (P := fun k => k = R ∨ k = S) (.inr rfl) _)⟩
set_option maxRecDepth 100000 in
set_option maxHeartbeats 8000000 in
theorem editn_any (k : Nat) (hk : 6 ≤ k) (ix : ∀ W, (Instr.index 170 editV (.int .i64 k)).run Tryz.prog W = .ok (.agg #[.nilFunc, .int .i64 0]) W) (B R S : Nat) (M : Mem) (n : Nat) (s : Ede) (V : World) (h : RunC B R M n V) (hS : V.heap[S]? = some (.cells (ed8 s) 44 (0, 0))) (hB : B ≤ V.heap.size) (hok : okM M = true) (hs : s.Ok) (hph : s.ph = ((k : Nat) : Int)) (hn : n ≤ 1000000) :
  Calls Tryz.prog 100 #[.pointer (some ⟨R, 0, none⟩), .pointer (some ⟨S, 0, none⟩)] V (GivesEd B R S n (editE M s) V) := by
 obtain ⟨ph, cuts, link, at_, key, val, hash, next⟩ := s
 obtain rfl : ph = ((k : Nat) : Int) := hph
 have HR := hid h
 have HS := hid hS
 have HSK := hid hs
 obtain ⟨TB, hTB⟩ := nm (editV)
 have HTB := hid hTB
 have HSG : Hid (∀ W, Calls Tryz.prog 99 #[] W (Ret TB W)) := hid (fun W => by rw [← hTB]; exact edg_any W)
 rw [hTB] at ix
 have r0 : ∀ z : Ext V, z.v.cell? ⟨S, 0, none⟩ = some (.int .i64 k) := fun z => clD (klD HS.out z.b) rfl
 have r1 : ∀ z : Ext V, z.v.cell? ⟨S, 1, none⟩ = some (.bool cuts) := fun z => clD (klD HS.out z.b) rfl
 have r2 : ∀ z : Ext V, z.v.cell? ⟨S, 2, none⟩ = some (.int .u64 link) := fun z => clD (klD HS.out z.b) rfl
 have r3 : ∀ z : Ext V, z.v.cell? ⟨S, 3, none⟩ = some (.int .u64 at_) := fun z => clD (klD HS.out z.b) rfl
 have r4 : ∀ z : Ext V, z.v.cell? ⟨S, 4, none⟩ = some (.int .u64 key) := fun z => clD (klD HS.out z.b) rfl
 have r5 : ∀ z : Ext V, z.v.cell? ⟨S, 5, none⟩ = some (.int .u64 val) := fun z => clD (klD HS.out z.b) rfl
 have r6 : ∀ z : Ext V, z.v.cell? ⟨S, 6, none⟩ = some (.int .u64 hash) := fun z => clD (klD HS.out z.b) rfl
 have r7 : ∀ z : Ext V, z.v.cell? ⟨S, 7, none⟩ = some (.int .u64 next) := fun z => clD (klD HS.out z.b) rfl
 obtain ⟨D, hD⟩ := nm (V.drew)
 have hbD : Below V.heap.size V D := by rw [← hD]; exact (Below.refl _ _).drew
 have HD := hid hD
 have HBD := hid hbD
 clear h hS hD hbD hTB hs
 go_enter Tryz.func100, Tryz.ntmps100
 go_upto_region 1 with (fail)
 go_cut [5] (fun t5 W => ∃ X : Nat, t5 = .pointer (some ⟨X, 0, none⟩) ∧ Hid (W.heap[X]? = some (.cells #[.nilFunc, .int .i64 0] 169 (0, 0)) ∧ Below V.heap.size V W))
 case first =>
  refine rgm2 (fun W => ∃ z : Ext V, W = z.v) 8 (.q 1 (.q 2 (.q 3 (.q 4 (.h2 0 (.q 5 (.h 6 (.h 7 .done))) 6 (.h 0 (.q 5 (.h 7 .done)))))))) (by kernel_rfl) (by kernel_rfl) (by rw [HD.out]; exact ⟨⟨D, HBD.out⟩, rfl⟩) ?_
  rw [HD.out]
  repeat (refine m2q rfl rfl ?_; go_big_quiet_step (fail); refine wpQuiet_nil ?_)
  refine wpMix2_h2 ?_ ?_
  ·skip
   refine m2h rfl fun R' hR' hO => ?_
   go_wp2_with fail
   refine (HSG.out D).mono ?_
   rintro e wc_ ⟨rfl, hbc⟩
   have HBc := hid (HBD.out.trans (hbc.mono HBD.out.size))
   clear hbc
   go_wp2
   refine hR' _ _ ⟨⟨wc_, HBc.out⟩, rfl⟩ ?_
   clear hR' hO R'
   repeat (refine m2q rfl rfl ?_; go_big_quiet_step (fail); refine wpQuiet_nil ?_)
   have HBwc_ := HBc
   refine m2h rfl fun R' hR' hO => ?_
   obtain ⟨wa_, hwa_, hba, hsa, hla⟩ := laid wc_ #[.nilFunc, .int .i64 0] 169
   obtain ⟨X, hX⟩ := nm (wc_.heap.size)
   rw [hX] at hla
   have LX := hid (show V.heap.size ≤ X from by have := HBwc_.out.size; omega)
   have HBa := hid (HBwc_.out.trans (hba.mono HBwc_.out.size))
   have HXa := hid hla
   clear hba hsa hla
   go_wp2
   refine hR' _ _ ⟨⟨wa_, HBa.out⟩, rfl⟩ ?_
   clear hR' hO R'
   have HBwa_ := HBa
   have x0 := clD (i := 0) HXa.out rfl
   have xf0 := flD (i := 0) HXa.out
   have x1 := clD (i := 1) HXa.out rfl
   have xf1 := flD (i := 1) HXa.out
   obtain ⟨u1, hu1⟩ : ∃ U, (wa_.setCell ⟨X, 0, none⟩ (.nilFunc)).setCell ⟨X, 1, none⟩ (.int .i64 0) = U := ⟨_, rfl⟩
   have HXu : Hid (u1.heap[X]? = some (.cells #[.nilFunc, .int .i64 0] 169 (0, 0))) := hid (by rw [← hu1]; exact slD (i := 1) (slD (i := 0) HXa.out _) _)
   have HBu : Hid (Below V.heap.size V u1) := hid (by rw [← hu1]; exact (HBwa_.out.setCell (by exact LX.out) _).setCell (by exact LX.out) _)
   have HU1 := hid hu1
   clear hu1
   refine m2h rfl fun R' hR' hO => ?_
   go_wp2
   rw [HU1.out]
   refine hR' _ _ ⟨⟨u1, HBu.out⟩, rfl⟩ ?_
   clear hR' hO R' x0 xf0 x1 xf1
   refine m2d ?_
   simp only [List.drop_succ_cons, List.drop_nil]
   go_wp2
   go_meet
   exact ⟨X, rfl, hid ⟨HXu.out, HBu.out⟩⟩
  ·skip
   refine m2h rfl fun R' hR' hO => ?_
   obtain ⟨wa_, hwa_, hba, hsa, hla⟩ := laid D #[.nilFunc, .int .i64 0] 169
   obtain ⟨X, hX⟩ := nm (D.heap.size)
   rw [hX] at hla
   have LX := hid (show V.heap.size ≤ X from by have := HBD.out.size; omega)
   have HBa := hid (HBD.out.trans (hba.mono HBD.out.size))
   have HXa := hid hla
   clear hba hsa hla
   go_wp2
   refine hR' _ _ ⟨⟨wa_, HBa.out⟩, rfl⟩ ?_
   clear hR' hO R'
   have HBwa_ := HBa
   refine m2h rfl fun R' hR' hO => ?_
   go_wp2_with fail
   refine (HSG.out wa_).mono ?_
   rintro e wc_ ⟨rfl, hbc⟩
   have HBc := hid (HBwa_.out.trans (hbc.mono HBwa_.out.size))
   have HXc := hid (klD HXa.out hbc)
   clear hbc
   go_wp2
   refine hR' _ _ ⟨⟨wc_, HBc.out⟩, rfl⟩ ?_
   clear hR' hO R'
   repeat (refine m2q rfl rfl ?_; go_big_quiet_step (fail); refine wpQuiet_nil ?_)
   have HBwc_ := HBc
   have x0 := clD (i := 0) HXc.out rfl
   have xf0 := flD (i := 0) HXc.out
   have x1 := clD (i := 1) HXc.out rfl
   have xf1 := flD (i := 1) HXc.out
   obtain ⟨u1, hu1⟩ : ∃ U, (wc_.setCell ⟨X, 0, none⟩ (.nilFunc)).setCell ⟨X, 1, none⟩ (.int .i64 0) = U := ⟨_, rfl⟩
   have HXu : Hid (u1.heap[X]? = some (.cells #[.nilFunc, .int .i64 0] 169 (0, 0))) := hid (by rw [← hu1]; exact slD (i := 1) (slD (i := 0) HXc.out _) _)
   have HBu : Hid (Below V.heap.size V u1) := hid (by rw [← hu1]; exact (HBwc_.out.setCell (by exact LX.out) _).setCell (by exact LX.out) _)
   have HU1 := hid hu1
   clear hu1
   refine m2h rfl fun R' hR' hO => ?_
   go_wp2
   rw [HU1.out]
   refine hR' _ _ ⟨⟨u1, HBu.out⟩, rfl⟩ ?_
   clear hR' hO R' x0 xf0 x1 xf1
   refine m2d ?_
   simp only [List.drop_succ_cons, List.drop_nil]
   go_wp2
   go_meet
   exact ⟨X, rfl, hid ⟨HXu.out, HBu.out⟩⟩
 case rest =>
  obtain ⟨X, rfl, hcc⟩ := hcut
  obtain ⟨w1, hw1⟩ : ∃ W, W = wc := ⟨_, rfl⟩
  subst hw1
  have HX := hid hcc.out.1
  have HR1 := hid (HR.out.grow hcc.out.2)
  have HS1 := hid (klD HS.out hcc.out.2)
  have HT1 := hid (Tch.of_below (P := fun k => k = R ∨ k = S) hcc.out.2)
  have hBw : B ≤ w1.heap.size := Nat.le_trans hB hcc.out.2.size
  have x0 := clD (i := 0) HX.out rfl
  have q1 := eq_nilE
  clear hcc
  go_wp2
  go_ret
  rw [show editE M ⟨((k : Nat) : Int), cuts, link, at_, key, val, hash, next⟩ = (M, ⟨((k : Nat) : Int), cuts, link, at_, key, val, hash, next⟩, false) from by unfold editE; rw [if_pos (by dsimp only; omega)]]
  exact ⟨rfl, HR1.out, HS1.out, HT1.out⟩
theorem edit_any (B R S : Nat) (M : Mem) (n : Nat) (s : Ede) (V : World) (h : RunC B R M n V) (hS : V.heap[S]? = some (.cells (ed8 s) 44 (0, 0))) (hB : B ≤ V.heap.size) (hok : okM M = true) (hs : s.Ok) (hp : 0 ≤ s.ph) (hp5 : s.ph ≤ 7) (hn : n ≤ 1000000) :
  Calls Tryz.prog 100 #[.pointer (some ⟨R, 0, none⟩), .pointer (some ⟨S, 0, none⟩)] V (GivesEd B R S n (editE M s) V) := by
 rcases (show s.ph = 0 ∨ s.ph = 1 ∨ s.ph = 2 ∨ s.ph = 3 ∨ s.ph = 4 ∨ s.ph = 5 ∨ s.ph = 6 ∨ s.ph = 7 by omega) with e | e | e | e | e | e | e | e
 ·exact editk_any 0 103 1 (by decide) edg_at0 (fun _ _ => by kernel_rfl) rfl B R S M n s V (fun W => ned0_any s W hs) h hS hB hok hs e hn
 ·exact editk_any 1 105 2 (by decide) edg_at1 (fun _ _ => by kernel_rfl) rfl B R S M n s V (fun W => ned1_any s W hs) h hS hB hok hs e hn
 ·exact editk_any 2 106 3 (by decide) edg_at2 (fun _ _ => by kernel_rfl) rfl B R S M n s V (fun W => ned2_any s W hs) h hS hB hok hs e hn
 ·exact editk_any 3 107 5 (by decide) edg_at3 (fun _ _ => by kernel_rfl) rfl B R S M n s V (fun W => ned3_any s W hs) h hS hB hok hs e hn
 ·exact editk_any 4 108 5 (by decide) edg_at4 (fun _ _ => by kernel_rfl) rfl B R S M n s V (fun W => ned4_any s W hs) h hS hB hok hs e hn
 ·exact editk_any 5 109 6 (by decide) edg_at5 (fun _ _ => by kernel_rfl) rfl B R S M n s V (fun W => ned5_any s W hs) h hS hB hok hs e hn
 ·exact editn_any 6 (by decide) edg_at6 B R S M n s V h hS hB hok hs e hn
 ·exact editn_any 7 (by decide) edg_at7 B R S M n s V h hS hB hok hs e hn
end Go.Proofs.YtipohagcppfgiaaGreat
