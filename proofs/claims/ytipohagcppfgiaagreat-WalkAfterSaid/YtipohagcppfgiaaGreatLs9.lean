/- Lists (printed by gen_ls9.py): a step of who seeks. -/
import Derived.Test.YtipohagcppfgiaaGreatLs8
namespace Go.Proofs.YtipohagcppfgiaaGreat
open Go.RowKit
open Go.Proofs
set_option linter.unusedVariables false
attribute [local go_sem] Oper.semAt_some
/-- Worlds in which two variables lie so. -/
structure RXS (X S : Nat) (cs cs' : Array Value) where
 w : World
 bx : w.heap[X]? = some (.cells cs 132 (0, 0))
 bs : w.heap[S]? = some (.cells cs' 46 (0, 0))
/-- A step of who seeks: the memory, who seeks, whether there was one. -/
def seekE (M : Mem) (s : Sk) : Mem × Sk × Bool := if 4 ≤ s.ph then (M, s, false) else
 ((stepM M false ((needS s s.ph.toNat : Nat) : Int) 0).1, if (stepM M false ((needS s s.ph.toNat : Nat) : Int) 0).2.2 = true then thenS s (stepM M false ((needS s s.ph.toNat : Nat) : Int) 0).2.1 s.ph.toNat else { s with ph := 5 }, true)
theorem eq_fn (f : Nat) (w : World) : (binOp BinOp.eql 129 (.func (.func f) #[] #[]) .nilFunc).run Tryz.prog w = .ok (.bool false) w := by kernel_rfl
theorem eq_nil (w : World) : (binOp BinOp.eql 129 .nilFunc .nilFunc).run Tryz.prog w = .ok (.bool true) w := by kernel_rfl
def GivesSk (B R S n : Nat) (X : Mem × Sk × Bool) (V : World) (e : Ending) (W : World) : Prop := e = .returned (.bool X.2.2) ∧ RunC B R X.1 (if X.2.2 = true then n + 1 else n) W ∧ W.heap[S]? = some (.cells (sk7 X.2.1) 46 (0, 0)) ∧ Tch (fun k => k = R ∨ k = S) V W
theorem needS_le {s : Sk} : ∀ k, k < 4 → needS s k ≤ 5000
 | 0, _ => by show min _ 4096 + _ ≤ 5000; omega
 | 1, _ => by show min _ 4096 + _ ≤ 5000; omega
 | 2, _ => by show min _ 4096 + _ ≤ 5000; omega
 | 3, _ => by show min _ 4096 + _ ≤ 5000; omega
set_option maxRecDepth 100000 in
set_option maxHeartbeats 8000000 in
theorem seekk_any (k fn ft : Nat) (hk : k < 4) (ix : ∀ W, (Instr.index 133 seekV (.int .i64 k)).run Tryz.prog W = .ok (.agg #[.func (.func fn) #[] #[], .func (.func ft) #[] #[]]) W) (hcf : ∀ (a : Array Value) (w : World), (callFunc fn a).run Tryz.prog w = .ok (.enter fn a) w) (hct : ∀ (a : Array Value) (w : World), (callFunc ft a).run Tryz.prog w = .ok (.enter ft a) w) (B R S : Nat) (M : Mem) (n : Nat) (s : Sk) (V : World) (hnd : ∀ W, Calls Tryz.prog fn #[skV s] W (Ret (.int .i64 ((needS s k : Nat) : Int)) W)) (hth : ∀ (x : Nat) (W : World), W.heap[S]? = some (.cells (sk7 s) 46 (0, 0)) → Calls Tryz.prog ft #[.pointer (some ⟨S, 0, none⟩), .int .u64 x] W (GivesT S (thenS s x k) W)) (h : RunC B R M n V) (hS : V.heap[S]? = some (.cells (sk7 s) 46 (0, 0))) (hB : B ≤ V.heap.size) (hok : okM M = true) (hs : s.Ok) (hph : s.ph = ((k : Nat) : Int)) (hn : n ≤ 1000000) :
  Calls Tryz.prog 74 #[.pointer (some ⟨R, 0, none⟩), .pointer (some ⟨S, 0, none⟩)] V (GivesSk B R S n (seekE M s) V) := by
 obtain ⟨ph, hash, key, link, node, val, found⟩ := s
 obtain rfl : ph = ((k : Nat) : Int) := hph
 have HR := hid h
 have HS := hid hS
 have HSK := hid hs
 obtain ⟨TB, hTB⟩ := nm (seekV)
 have HTB := hid hTB
 have HSG : Hid (∀ W, Calls Tryz.prog 72 #[] W (Ret TB W)) := hid (fun W => by rw [← hTB]; exact skg_any W)
 rw [hTB] at ix
 have r0 : ∀ z : Ext V, z.v.cell? ⟨S, 0, none⟩ = some (.int .i64 k) := fun z => clD (klD HS.out z.b) rfl
 have r1 : ∀ z : Ext V, z.v.cell? ⟨S, 1, none⟩ = some (.int .u64 hash) := fun z => clD (klD HS.out z.b) rfl
 have r2 : ∀ z : Ext V, z.v.cell? ⟨S, 2, none⟩ = some (.int .u64 key) := fun z => clD (klD HS.out z.b) rfl
 have r3 : ∀ z : Ext V, z.v.cell? ⟨S, 3, none⟩ = some (.int .u64 link) := fun z => clD (klD HS.out z.b) rfl
 have r4 : ∀ z : Ext V, z.v.cell? ⟨S, 4, none⟩ = some (.int .u64 node) := fun z => clD (klD HS.out z.b) rfl
 have r5 : ∀ z : Ext V, z.v.cell? ⟨S, 5, none⟩ = some (.int .u64 val) := fun z => clD (klD HS.out z.b) rfl
 have r6 : ∀ z : Ext V, z.v.cell? ⟨S, 6, none⟩ = some (.bool found) := fun z => clD (klD HS.out z.b) rfl
 obtain ⟨D, hD⟩ := nm (V.drew)
 have hbD : Below V.heap.size V D := by rw [← hD]; exact (Below.refl _ _).drew
 have HD := hid hD
 have HBD := hid hbD
 have HOK := hid hok
 clear h hS hD hbD hTB hs hok
 go_enter Tryz.func74, Tryz.ntmps74
 go_upto_region 1 with (fail)
 go_cut [5] (fun t5 W => ∃ X : Nat, t5 = .pointer (some ⟨X, 0, none⟩) ∧ Hid (W.heap[X]? = some (.cells #[.func (.func fn) #[] #[], .func (.func ft) #[] #[]] 132 (0, 0)) ∧ Below V.heap.size V W))
 case first =>
  refine rgm2 (fun W => ∃ z : Ext V, W = z.v) 8 (.q 1 (.q 2 (.q 3 (.q 4 (.h2 0 (.q 5 (.h 6 (.h 7 .done))) 6 (.h 0 (.q 5 (.h 7 .done)))))))) (by kernel_rfl) (by kernel_rfl) (by rw [HD.out]; exact ⟨⟨D, HBD.out⟩, rfl⟩) ?_
  rw [HD.out]
  repeat (refine m2q rfl rfl ?_; go_big_quiet_step (fail); refine wpQuiet_nil ?_)
  refine wpMix2_h2 ?_ ?_
  ·skip
   refine m2h rfl fun R' hR' hO => ?_
   go_wp2_with fail
   refine (HSG.out D).mono ?_
   rintro e wc_ ⟨rfl, hbc⟩
   have HBc := hid (HBD.out.trans (hbc.mono HBD.out.size))
   clear hbc
   go_wp2
   refine hR' _ _ ⟨⟨wc_, HBc.out⟩, rfl⟩ ?_
   clear hR' hO R'
   repeat (refine m2q rfl rfl ?_; go_big_quiet_step (fail); refine wpQuiet_nil ?_)
   have HBwc_ := HBc
   refine m2h rfl fun R' hR' hO => ?_
   obtain ⟨wa_, hwa_, hba, hsa, hla⟩ := laid wc_ #[.nilFunc, .nilFunc] 132
   obtain ⟨X, hX⟩ := nm (wc_.heap.size)
   rw [hX] at hla
   have LX := hid (show V.heap.size ≤ X from by have := HBwc_.out.size; omega)
   have HBa := hid (HBwc_.out.trans (hba.mono HBwc_.out.size))
   have HXa := hid hla
   clear hba hsa hla
   go_wp2
   refine hR' _ _ ⟨⟨wa_, HBa.out⟩, rfl⟩ ?_
   clear hR' hO R'
   have HBwa_ := HBa
   have x0 := clD (i := 0) HXa.out rfl
   have xf0 := flD (i := 0) HXa.out
   have x1 := clD (i := 1) HXa.out rfl
   have xf1 := flD (i := 1) HXa.out
   obtain ⟨u1, hu1⟩ : ∃ U, (wa_.setCell ⟨X, 0, none⟩ (.func (.func fn) #[] #[])).setCell ⟨X, 1, none⟩ (.func (.func ft) #[] #[]) = U := ⟨_, rfl⟩
   have HXu : Hid (u1.heap[X]? = some (.cells #[.func (.func fn) #[] #[], .func (.func ft) #[] #[]] 132 (0, 0))) := hid (by rw [← hu1]; exact slD (i := 1) (slD (i := 0) HXa.out _) _)
   have HBu : Hid (Below V.heap.size V u1) := hid (by rw [← hu1]; exact (HBwa_.out.setCell (by exact LX.out) _).setCell (by exact LX.out) _)
   have HU1 := hid hu1
   clear hu1
   refine m2h rfl fun R' hR' hO => ?_
   go_wp2
   rw [HU1.out]
   refine hR' _ _ ⟨⟨u1, HBu.out⟩, rfl⟩ ?_
   clear hR' hO R' x0 xf0 x1 xf1
   refine m2d ?_
   simp only [List.drop_succ_cons, List.drop_nil]
   go_wp2
   go_meet
   exact ⟨X, rfl, hid ⟨HXu.out, HBu.out⟩⟩
  ·skip
   refine m2h rfl fun R' hR' hO => ?_
   obtain ⟨wa_, hwa_, hba, hsa, hla⟩ := laid D #[.nilFunc, .nilFunc] 132
   obtain ⟨X, hX⟩ := nm (D.heap.size)
   rw [hX] at hla
   have LX := hid (show V.heap.size ≤ X from by have := HBD.out.size; omega)
   have HBa := hid (HBD.out.trans (hba.mono HBD.out.size))
   have HXa := hid hla
   clear hba hsa hla
   go_wp2
   refine hR' _ _ ⟨⟨wa_, HBa.out⟩, rfl⟩ ?_
   clear hR' hO R'
   have HBwa_ := HBa
   refine m2h rfl fun R' hR' hO => ?_
   go_wp2_with fail
   refine (HSG.out wa_).mono ?_
   rintro e wc_ ⟨rfl, hbc⟩
   have HBc := hid (HBwa_.out.trans (hbc.mono HBwa_.out.size))
   have HXc := hid (klD HXa.out hbc)
   clear hbc
   go_wp2
   refine hR' _ _ ⟨⟨wc_, HBc.out⟩, rfl⟩ ?_
   clear hR' hO R'
   repeat (refine m2q rfl rfl ?_; go_big_quiet_step (fail); refine wpQuiet_nil ?_)
   have HBwc_ := HBc
   have x0 := clD (i := 0) HXc.out rfl
   have xf0 := flD (i := 0) HXc.out
   have x1 := clD (i := 1) HXc.out rfl
   have xf1 := flD (i := 1) HXc.out
   obtain ⟨u1, hu1⟩ : ∃ U, (wc_.setCell ⟨X, 0, none⟩ (.func (.func fn) #[] #[])).setCell ⟨X, 1, none⟩ (.func (.func ft) #[] #[]) = U := ⟨_, rfl⟩
   have HXu : Hid (u1.heap[X]? = some (.cells #[.func (.func fn) #[] #[], .func (.func ft) #[] #[]] 132 (0, 0))) := hid (by rw [← hu1]; exact slD (i := 1) (slD (i := 0) HXc.out _) _)
   have HBu : Hid (Below V.heap.size V u1) := hid (by rw [← hu1]; exact (HBwc_.out.setCell (by exact LX.out) _).setCell (by exact LX.out) _)
   have HU1 := hid hu1
   clear hu1
   refine m2h rfl fun R' hR' hO => ?_
   go_wp2
   rw [HU1.out]
   refine hR' _ _ ⟨⟨u1, HBu.out⟩, rfl⟩ ?_
   clear hR' hO R' x0 xf0 x1 xf1
   refine m2d ?_
   simp only [List.drop_succ_cons, List.drop_nil]
   go_wp2
   go_meet
   exact ⟨X, rfl, hid ⟨HXu.out, HBu.out⟩⟩
 case rest =>
  obtain ⟨X, rfl, hcc⟩ := hcut
  obtain ⟨w1, hw1⟩ : ∃ W, W = wc := ⟨_, rfl⟩
  subst hw1
  have HX := hid hcc.out.1
  have HR1 := hid (HR.out.grow hcc.out.2)
  have HS1 := hid (klD HS.out hcc.out.2)
  have HT1 := hid (Tch.of_below (P := fun k => k = R ∨ k = S) hcc.out.2)
  have hBw : B ≤ w1.heap.size := Nat.le_trans hB hcc.out.2.size
  have x0 := clD (i := 0) HX.out rfl
  have q1 := eq_fn
  clear hcc
  go_upto_region 4 with (fail)
  obtain ⟨ps, hps⟩ : ∃ q, needS ⟨((k : Nat) : Int), hash, key, link, node, val, found⟩ k = q := ⟨_, rfl⟩
  obtain ⟨⟨M', x, d⟩, hX⟩ : ∃ X, stepM M false ((ps : Nat) : Int) 0 = X := ⟨_, rfl⟩
  have HSE : Hid (seekE M ⟨((k : Nat) : Int), hash, key, link, node, val, found⟩ = (M', (if d = true then thenS ⟨((k : Nat) : Int), hash, key, link, node, val, found⟩ x k else { (⟨((k : Nat) : Int), hash, key, link, node, val, found⟩ : Sk) with ph := 5 }), true)) := hid (by
   unfold seekE
   rw [if_neg (by dsimp only; omega)]
   dsimp only
   rw [Int.toNat_natCast, hps, hX])
  have HAC : Hid (∀ W, RunC B R M n W → B ≤ W.heap.size → Calls Tryz.prog 96 #[.pointer (some ⟨R, 0, none⟩), .agg #[.int .i64 1, .int .i64 ps, .int .u64 0, .int .u64 0]] W (GivesAc B R n (M', x, d) W)) := hid (fun W h1 h2 => by
   have e1 := needS_le (s := ⟨((k : Nat) : Int), hash, key, link, node, val, found⟩) k hk
   rw [hps] at e1
   have := access_any B R M n false 1 ((ps : Nat) : Int) 0 W h1 h2 HOK.out (by omega) rfl hn
   rw [hX] at this
   exact this)
  obtain ⟨D2, hD2⟩ := nm (w1.drew)
  have hbD : Below w1.heap.size w1 D2 := by rw [← hD2]; exact (Below.refl _ _).drew
  have HD2 := hid hD2
  have HX2 := hid (klD HX.out hbD)
  have HS2 := hid (klD HS1.out hbD)
  have HR2 := hid (HR1.out.grow hbD)
  have HT2 := hid (HT1.out.trans (Tch.of_below hbD))
  have hB2 := Nat.le_trans hBw hbD.size
  have HND := hid (hnd D2)
  unfold skV at HND
  rw [hps] at HND
  dsimp only at HND
  clear hnd hps
  clear hD2 hbD hX x0 q1
  haveI : Nonempty (RXS X S #[.func (.func fn) #[] #[], .func (.func ft) #[] #[]] (sk7 ⟨((k : Nat) : Int), hash, key, link, node, val, found⟩)) := ⟨⟨D2, HX2.out, HS2.out⟩⟩
  have x0 : ∀ z : RXS X S #[.func (.func fn) #[] #[], .func (.func ft) #[] #[]] (sk7 ⟨((k : Nat) : Int), hash, key, link, node, val, found⟩), z.w.cell? ⟨X, 0, none⟩ = some (.func (.func fn) #[] #[]) := fun z => clD z.bx rfl
  have s0 : ∀ z : RXS X S #[.func (.func fn) #[] #[], .func (.func ft) #[] #[]] (sk7 ⟨((k : Nat) : Int), hash, key, link, node, val, found⟩), z.w.cell? ⟨S, 0, none⟩ = some (.int .i64 k) := fun z => clD z.bs rfl
  have s1 : ∀ z : RXS X S #[.func (.func fn) #[] #[], .func (.func ft) #[] #[]] (sk7 ⟨((k : Nat) : Int), hash, key, link, node, val, found⟩), z.w.cell? ⟨S, 1, none⟩ = some (.int .u64 hash) := fun z => clD z.bs rfl
  have s2 : ∀ z : RXS X S #[.func (.func fn) #[] #[], .func (.func ft) #[] #[]] (sk7 ⟨((k : Nat) : Int), hash, key, link, node, val, found⟩), z.w.cell? ⟨S, 2, none⟩ = some (.int .u64 key) := fun z => clD z.bs rfl
  have s3 : ∀ z : RXS X S #[.func (.func fn) #[] #[], .func (.func ft) #[] #[]] (sk7 ⟨((k : Nat) : Int), hash, key, link, node, val, found⟩), z.w.cell? ⟨S, 3, none⟩ = some (.int .u64 link) := fun z => clD z.bs rfl
  have s4 : ∀ z : RXS X S #[.func (.func fn) #[] #[], .func (.func ft) #[] #[]] (sk7 ⟨((k : Nat) : Int), hash, key, link, node, val, found⟩), z.w.cell? ⟨S, 4, none⟩ = some (.int .u64 node) := fun z => clD z.bs rfl
  have s5 : ∀ z : RXS X S #[.func (.func fn) #[] #[], .func (.func ft) #[] #[]] (sk7 ⟨((k : Nat) : Int), hash, key, link, node, val, found⟩), z.w.cell? ⟨S, 5, none⟩ = some (.int .u64 val) := fun z => clD z.bs rfl
  have s6 : ∀ z : RXS X S #[.func (.func fn) #[] #[], .func (.func ft) #[] #[]] (sk7 ⟨((k : Nat) : Int), hash, key, link, node, val, found⟩), z.w.cell? ⟨S, 6, none⟩ = some (.bool found) := fun z => clD z.bs rfl
  refine rgm2 (fun W => ∃ z : RXS X S #[.func (.func fn) #[] #[], .func (.func ft) #[] #[]] (sk7 ⟨((k : Nat) : Int), hash, key, link, node, val, found⟩), W = z.w) 14 (.q 0 (.q 1 (.q 2 (.q 3 (.q 4 (.q 5 (.h 6 (.q 7 (.h 8 (.q 9 (.q 10 (.q 11 (.q 12 (.q 13 .done)))))))))))))) (by kernel_rfl) (by kernel_rfl) (by rw [HD2.out]; exact ⟨⟨D2, HX2.out, HS2.out⟩, rfl⟩) ?_
  rw [HD2.out]
  repeat (refine m2q rfl rfl ?_; go_big_quiet_step (fail); refine wpQuiet_nil ?_)
  refine m2h rfl fun R' hR' hO => ?_
  go_wp2_with fail
  refine HND.out.mono ?_
  rintro e v1 ⟨rfl, hb⟩
  have HX3 := hid (klD HX2.out hb)
  have HS3 := hid (klD HS2.out hb)
  have HR3 := hid (HR2.out.grow hb)
  have HT3 := hid (HT2.out.trans (Tch.of_below hb))
  have hB3 := Nat.le_trans hB2 hb.size
  clear hb
  go_wp2
  refine hR' _ _ ⟨⟨v1, HX3.out, HS3.out⟩, rfl⟩ ?_
  clear hR' hO R'
  repeat (refine m2q rfl rfl ?_; go_big_quiet_step (fail); refine wpQuiet_nil ?_)
  refine m2h rfl fun R' hR' hO => ?_
  go_wp2_with fail
  refine (HAC.out v1 HR3.out hB3).mono ?_
  rintro e v2 ⟨rfl, hr4, ht4⟩
  have hRX : X ≠ R := by obtain ⟨_, _, _, _, k, _⟩ := HR3.out; exact tyN HX3.out k (by decide)
  have hRS : S ≠ R := by obtain ⟨_, _, _, _, k, _⟩ := HR3.out; exact tyN HS3.out k (by decide)
  have HX4 := hid (ht4.keep HX3.out hRX)
  have HS4 := hid (ht4.keep HS3.out hRS)
  have HR4 := hid hr4
  have HT4 := hid (HT3.out.trans (ht4.mono fun k h => .inl h))
  clear hr4 ht4
  go_wp2
  refine hR' _ _ ⟨⟨v2, HX4.out, HS4.out⟩, rfl⟩ ?_
  clear hR' hO R'
  repeat (refine m2q rfl rfl ?_; go_big_quiet_step (fail); refine wpQuiet_nil ?_)
  refine m2d ?_
  simp only [List.drop_succ_cons, List.drop_nil]
  clear x0 s0 s1 s2 s3 s4 s5 s6
  cases d with
  | true =>
   have x1 := clD (i := 1) HX4.out rfl
   have HTH := hid (hth x v2 HS4.out)
   go_wp2_with fail
   refine HTH.out.mono ?_
   rintro e v3 ⟨rfl, ht5, hs5⟩
   have HR5 := hid (HR4.out.tch ht5 HS4.out (by decide) (by decide) (by decide))
   have HT5 := hid (HT4.out.trans (ht5.mono fun k h => .inr h))
   have HS5 := hid hs5
   clear ht5 hs5 x1
   go_wp2
   go_ret
   rw [HSE.out, if_pos (by trivial)]
   exact ⟨rfl, HR5.out, HS5.out, HT5.out⟩
  | false =>
   have y0 := clD (i := 0) HS4.out rfl
   have yf0 := flD (i := 0) HS4.out
   go_wp2
   go_ret
   rw [HSE.out, if_neg (by simp)]
   exact ⟨rfl, HR4.out.tch (S := S) (Tch.set (P := fun k => k = S) rfl _) HS4.out (by decide) (by decide) (by decide), slD (i := 0) HS4.out (.int .i64 5), HT4.out.trans (Tch.set (P := fun k => k = R ∨ k = S) (.inr rfl) _)⟩
set_option maxRecDepth 100000 in
set_option maxHeartbeats 8000000 in
theorem seekn_any (k : Nat) (hk : 4 ≤ k) (ix : ∀ W, (Instr.index 133 seekV (.int .i64 k)).run Tryz.prog W = .ok (.agg #[.nilFunc, .nilFunc]) W) (B R S : Nat) (M : Mem) (n : Nat) (s : Sk) (V : World) (h : RunC B R M n V) (hS : V.heap[S]? = some (.cells (sk7 s) 46 (0, 0))) (hB : B ≤ V.heap.size) (hok : okM M = true) (hs : s.Ok) (hph : s.ph = ((k : Nat) : Int)) (hn : n ≤ 1000000) :
  Calls Tryz.prog 74 #[.pointer (some ⟨R, 0, none⟩), .pointer (some ⟨S, 0, none⟩)] V (GivesSk B R S n (seekE M s) V) := by
 obtain ⟨ph, hash, key, link, node, val, found⟩ := s
 obtain rfl : ph = ((k : Nat) : Int) := hph
 have HR := hid h
 have HS := hid hS
 have HSK := hid hs
 obtain ⟨TB, hTB⟩ := nm (seekV)
 have HTB := hid hTB
 have HSG : Hid (∀ W, Calls Tryz.prog 72 #[] W (Ret TB W)) := hid (fun W => by rw [← hTB]; exact skg_any W)
 rw [hTB] at ix
 have r0 : ∀ z : Ext V, z.v.cell? ⟨S, 0, none⟩ = some (.int .i64 k) := fun z => clD (klD HS.out z.b) rfl
 have r1 : ∀ z : Ext V, z.v.cell? ⟨S, 1, none⟩ = some (.int .u64 hash) := fun z => clD (klD HS.out z.b) rfl
 have r2 : ∀ z : Ext V, z.v.cell? ⟨S, 2, none⟩ = some (.int .u64 key) := fun z => clD (klD HS.out z.b) rfl
 have r3 : ∀ z : Ext V, z.v.cell? ⟨S, 3, none⟩ = some (.int .u64 link) := fun z => clD (klD HS.out z.b) rfl
 have r4 : ∀ z : Ext V, z.v.cell? ⟨S, 4, none⟩ = some (.int .u64 node) := fun z => clD (klD HS.out z.b) rfl
 have r5 : ∀ z : Ext V, z.v.cell? ⟨S, 5, none⟩ = some (.int .u64 val) := fun z => clD (klD HS.out z.b) rfl
 have r6 : ∀ z : Ext V, z.v.cell? ⟨S, 6, none⟩ = some (.bool found) := fun z => clD (klD HS.out z.b) rfl
 obtain ⟨D, hD⟩ := nm (V.drew)
 have hbD : Below V.heap.size V D := by rw [← hD]; exact (Below.refl _ _).drew
 have HD := hid hD
 have HBD := hid hbD
 clear h hS hD hbD hTB hs
 go_enter Tryz.func74, Tryz.ntmps74
 go_upto_region 1 with (fail)
 go_cut [5] (fun t5 W => ∃ X : Nat, t5 = .pointer (some ⟨X, 0, none⟩) ∧ Hid (W.heap[X]? = some (.cells #[.nilFunc, .nilFunc] 132 (0, 0)) ∧ Below V.heap.size V W))
 case first =>
  refine rgm2 (fun W => ∃ z : Ext V, W = z.v) 8 (.q 1 (.q 2 (.q 3 (.q 4 (.h2 0 (.q 5 (.h 6 (.h 7 .done))) 6 (.h 0 (.q 5 (.h 7 .done)))))))) (by kernel_rfl) (by kernel_rfl) (by rw [HD.out]; exact ⟨⟨D, HBD.out⟩, rfl⟩) ?_
  rw [HD.out]
  repeat (refine m2q rfl rfl ?_; go_big_quiet_step (fail); refine wpQuiet_nil ?_)
  refine wpMix2_h2 ?_ ?_
  ·skip
   refine m2h rfl fun R' hR' hO => ?_
   go_wp2_with fail
   refine (HSG.out D).mono ?_
   rintro e wc_ ⟨rfl, hbc⟩
   have HBc := hid (HBD.out.trans (hbc.mono HBD.out.size))
   clear hbc
   go_wp2
   refine hR' _ _ ⟨⟨wc_, HBc.out⟩, rfl⟩ ?_
   clear hR' hO R'
   repeat (refine m2q rfl rfl ?_; go_big_quiet_step (fail); refine wpQuiet_nil ?_)
   have HBwc_ := HBc
   refine m2h rfl fun R' hR' hO => ?_
   obtain ⟨wa_, hwa_, hba, hsa, hla⟩ := laid wc_ #[.nilFunc, .nilFunc] 132
   obtain ⟨X, hX⟩ := nm (wc_.heap.size)
   rw [hX] at hla
   have LX := hid (show V.heap.size ≤ X from by have := HBwc_.out.size; omega)
   have HBa := hid (HBwc_.out.trans (hba.mono HBwc_.out.size))
   have HXa := hid hla
   clear hba hsa hla
   go_wp2
   refine hR' _ _ ⟨⟨wa_, HBa.out⟩, rfl⟩ ?_
   clear hR' hO R'
   have HBwa_ := HBa
   have x0 := clD (i := 0) HXa.out rfl
   have xf0 := flD (i := 0) HXa.out
   have x1 := clD (i := 1) HXa.out rfl
   have xf1 := flD (i := 1) HXa.out
   obtain ⟨u1, hu1⟩ : ∃ U, (wa_.setCell ⟨X, 0, none⟩ (.nilFunc)).setCell ⟨X, 1, none⟩ (.nilFunc) = U := ⟨_, rfl⟩
   have HXu : Hid (u1.heap[X]? = some (.cells #[.nilFunc, .nilFunc] 132 (0, 0))) := hid (by rw [← hu1]; exact slD (i := 1) (slD (i := 0) HXa.out _) _)
   have HBu : Hid (Below V.heap.size V u1) := hid (by rw [← hu1]; exact (HBwa_.out.setCell (by exact LX.out) _).setCell (by exact LX.out) _)
   have HU1 := hid hu1
   clear hu1
   refine m2h rfl fun R' hR' hO => ?_
   go_wp2
   rw [HU1.out]
   refine hR' _ _ ⟨⟨u1, HBu.out⟩, rfl⟩ ?_
   clear hR' hO R' x0 xf0 x1 xf1
   refine m2d ?_
   simp only [List.drop_succ_cons, List.drop_nil]
   go_wp2
   go_meet
   exact ⟨X, rfl, hid ⟨HXu.out, HBu.out⟩⟩
  ·skip
   refine m2h rfl fun R' hR' hO => ?_
   obtain ⟨wa_, hwa_, hba, hsa, hla⟩ := laid D #[.nilFunc, .nilFunc] 132
   obtain ⟨X, hX⟩ := nm (D.heap.size)
   rw [hX] at hla
   have LX := hid (show V.heap.size ≤ X from by have := HBD.out.size; omega)
   have HBa := hid (HBD.out.trans (hba.mono HBD.out.size))
   have HXa := hid hla
   clear hba hsa hla
   go_wp2
   refine hR' _ _ ⟨⟨wa_, HBa.out⟩, rfl⟩ ?_
   clear hR' hO R'
   have HBwa_ := HBa
   refine m2h rfl fun R' hR' hO => ?_
   go_wp2_with fail
   refine (HSG.out wa_).mono ?_
   rintro e wc_ ⟨rfl, hbc⟩
   have HBc := hid (HBwa_.out.trans (hbc.mono HBwa_.out.size))
   have HXc := hid (klD HXa.out hbc)
   clear hbc
   go_wp2
   refine hR' _ _ ⟨⟨wc_, HBc.out⟩, rfl⟩ ?_
   clear hR' hO R'
   repeat (refine m2q rfl rfl ?_; go_big_quiet_step (fail); refine wpQuiet_nil ?_)
   have HBwc_ := HBc
   have x0 := clD (i := 0) HXc.out rfl
   have xf0 := flD (i := 0) HXc.out
   have x1 := clD (i := 1) HXc.out rfl
   have xf1 := flD (i := 1) HXc.out
   obtain ⟨u1, hu1⟩ : ∃ U, (wc_.setCell ⟨X, 0, none⟩ (.nilFunc)).setCell ⟨X, 1, none⟩ (.nilFunc) = U := ⟨_, rfl⟩
   have HXu : Hid (u1.heap[X]? = some (.cells #[.nilFunc, .nilFunc] 132 (0, 0))) := hid (by rw [← hu1]; exact slD (i := 1) (slD (i := 0) HXc.out _) _)
   have HBu : Hid (Below V.heap.size V u1) := hid (by rw [← hu1]; exact (HBwc_.out.setCell (by exact LX.out) _).setCell (by exact LX.out) _)
   have HU1 := hid hu1
   clear hu1
   refine m2h rfl fun R' hR' hO => ?_
   go_wp2
   rw [HU1.out]
   refine hR' _ _ ⟨⟨u1, HBu.out⟩, rfl⟩ ?_
   clear hR' hO R' x0 xf0 x1 xf1
   refine m2d ?_
   simp only [List.drop_succ_cons, List.drop_nil]
   go_wp2
   go_meet
   exact ⟨X, rfl, hid ⟨HXu.out, HBu.out⟩⟩
 case rest =>
  obtain ⟨X, rfl, hcc⟩ := hcut
  obtain ⟨w1, hw1⟩ : ∃ W, W = wc := ⟨_, rfl⟩
  subst hw1
  have HX := hid hcc.out.1
  have HR1 := hid (HR.out.grow hcc.out.2)
  have HS1 := hid (klD HS.out hcc.out.2)
  have HT1 := hid (Tch.of_below (P := fun k => k = R ∨ k = S) hcc.out.2)
  have hBw : B ≤ w1.heap.size := Nat.le_trans hB hcc.out.2.size
  have x0 := clD (i := 0) HX.out rfl
  have q1 := eq_nil
  clear hcc
  go_wp2
  go_ret
  rw [show seekE M ⟨((k : Nat) : Int), hash, key, link, node, val, found⟩ = (M, ⟨((k : Nat) : Int), hash, key, link, node, val, found⟩, false) from by unfold seekE; rw [if_pos (by dsimp only; omega)]]
  exact ⟨rfl, HR1.out, HS1.out, HT1.out⟩
theorem seek_any (B R S : Nat) (M : Mem) (n : Nat) (s : Sk) (V : World) (h : RunC B R M n V) (hS : V.heap[S]? = some (.cells (sk7 s) 46 (0, 0))) (hB : B ≤ V.heap.size) (hok : okM M = true) (hs : s.Ok) (hp : 0 ≤ s.ph) (hp5 : s.ph ≤ 5) (hn : n ≤ 1000000) :
  Calls Tryz.prog 74 #[.pointer (some ⟨R, 0, none⟩), .pointer (some ⟨S, 0, none⟩)] V (GivesSk B R S n (seekE M s) V) := by
 rcases (show s.ph = 0 ∨ s.ph = 1 ∨ s.ph = 2 ∨ s.ph = 3 ∨ s.ph = 4 ∨ s.ph = 5 by omega) with e | e | e | e | e | e
 ·exact seekk_any 0 85 87 (by decide) skg_at0 (fun _ _ => by kernel_rfl) (fun _ _ => by kernel_rfl) B R S M n s V (fun W => need0_any s W hs) (fun x W h' => then0_any s S x W h' hs) h hS hB hok hs e hn
 ·exact seekk_any 1 88 89 (by decide) skg_at1 (fun _ _ => by kernel_rfl) (fun _ _ => by kernel_rfl) B R S M n s V (fun W => need1_any s W hs) (fun x W h' => then1_any s S x W h' hs) h hS hB hok hs e hn
 ·exact seekk_any 2 91 92 (by decide) skg_at2 (fun _ _ => by kernel_rfl) (fun _ _ => by kernel_rfl) B R S M n s V (fun W => need2_any s W hs) (fun x W h' => then2_any s S x W h' hs) h hS hB hok hs e hn
 ·exact seekk_any 3 93 94 (by decide) skg_at3 (fun _ _ => by kernel_rfl) (fun _ _ => by kernel_rfl) B R S M n s V (fun W => need3_any s W hs) (fun x W h' => then3_any s S x W h' hs) h hS hB hok hs e hn
 ·exact seekn_any 4 (by decide) skg_at4 B R S M n s V h hS hB hok hs e hn
 ·exact seekn_any 5 (by decide) skg_at5 B R S M n s V h hS hB hok hs e hn
end Go.Proofs.YtipohagcppfgiaaGreat
