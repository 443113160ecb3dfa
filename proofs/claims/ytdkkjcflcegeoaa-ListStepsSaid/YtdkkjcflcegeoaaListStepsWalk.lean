/- Lists: ListSteps, the walk (printed by gen_lssteps.py). -/
import Derived.Test.YtdkkjcflcegeoaaLsWakes
import Derived.Test.YtdkkjcflcegeoaaLsRef3
import Derived.Test.YtdkkjcflcegeoaaLsRef4
import Derived.Test.YtdkkjcflcegeoaaLsEq
import Derived.Test.YtdkkjcflcegeoaaLsPlain1
import Derived.Test.YtdkkjcflcegeoaaMemLaw15
import Derived.Test.YtdkkjcflcegeoaaMemRef
namespace Go.Proofs.Ytdkkjcflcegeoaa
open Go.RowKit
open Go.Proofs
set_option linter.unusedVariables false
attribute [local go_sem] Oper.semAt_some
theorem take64_wok {M : Mem} (h : ∀ x ∈ M.W, x < 18446744073709551616) : ∀ x ∈ (take64 M).W, x < 18446744073709551616 := fun x hx => h x (List.mem_of_mem_take hx)
theorem sameM_self (M : Mem) : sameM M M = true := by unfold sameM; simp
theorem zeroSk_ok : zeroSk.Ok := ⟨by decide, by decide, by decide, by decide, by decide, by decide⟩
theorem zeroEd_ok : zeroEd.Ok := ⟨by decide, by decide, by decide, by decide, by decide, by decide, by decide⟩
theorem sseekP_ok {M : Mem} {s : Sk} (hW : ∀ x ∈ M.W, x < 18446744073709551616) (hs : s.Ok) : (sseekP M s).2.1.Ok := by
  unfold sseekP
  split
  · exact zeroSk_ok
  · rename_i h1
    split
    · exact zeroSk_ok
    · rename_i h2
      exact (seekE_ok (by simpa using h1) hW hs (by omega) (by omega)).2.2.1
theorem seditP_ok {M : Mem} {s : Ede} (hW : ∀ x ∈ M.W, x < 18446744073709551616) (hs : s.Ok) : (seditP M s).2.1.Ok := by
  unfold seditP
  split
  · exact zeroEd_ok
  · rename_i h1
    split
    · exact zeroEd_ok
    · rename_i h2
      exact (editE_ok (by simpa using h1) hW hs (by omega) (by omega)).2.2.1
theorem memL_zero (W : World) : MemL W none 0 none 0 zeroM := ⟨⟨Nat.le_refl _, Nat.zero_le _, .inl ⟨rfl, rfl⟩⟩, ⟨Nat.le_refl _, Nat.zero_le _, .inl ⟨rfl, rfl⟩⟩⟩
theorem MemO.below {base : Nat} {wa la : Option Addr} {wc lc : Nat} {M : Mem} {V : World} (h : MemO base wa wc la lc M V) : ∀ k, (.slice wa M.W.length wc : Value).ownBlock = some k ∨ (.slice la M.L.length lc : Value).ownBlock = some k → k < V.heap.size := by
  rintro k (e | e)
  · exact (h.w.lt k e).2
  · exact (h.l.lt k e).2
/-- A memory's rows that lie elsewhere than a block that is written. -/
theorem MemO.far {base : Nat} {wa la : Option Addr} {wc lc : Nat} {M : Mem} {V V' : World} {g : Nat} (h : MemO base wa wc la lc M V) (hg : ∀ k, (.slice wa M.W.length wc : Value).ownBlock = some k ∨ (.slice la M.L.length lc : Value).ownBlock = some k → k < g) (hk : ∀ (k : Nat) (o : Obj), k ≠ g → V.heap[k]? = some o → V'.heap[k]? = some o) : MemO base wa wc la lc M V' :=
  ⟨own_keep h.w fun k o e ho => hk k o (by have := hg k (.inl e); omega) ho, own_keep h.l fun k o e ho => hk k o (by have := hg k (.inr e); omega) ho⟩
/-- While what came out is written over. -/
structure Spl (V : World) (X Mb A C : Nat) (csx csm csa csc : Array Value) (wa : Option Addr) (wc : Nat) (la : Option Addr) (lc : Nat) (Mk : Mem) (bo : Nat) (lao : Option Addr) (nl lco : Nat) (W : World) : Prop where
  bx : W.heap[X]? = some (.cells csx 25 (0, 0))
  bm : W.heap[Mb]? = some (.cells csm 25 (0, 0))
  ba : W.heap[A]? = some (.cells csa 25 (0, 0))
  bc : W.heap[C]? = some (.cells csc 25 (0, 0))
  mem : MemO V.heap.size wa wc la lc Mk W
  lv : ∃ cs, W.ownsRow bo 4 1 (.slice lao nl lco) nl cs ∧ ∀ v ∈ cs, ∃ z : Bool, v = .bool z
  below : Below V.heap.size V W
theorem Spl.setW {V : World} {X Mb A C : Nat} {csx csm csa csc : Array Value} {wa la : Option Addr} {wc lc : Nat} {Mk : Mem} {bo : Nat} {lao : Option Addr} {nl lco : Nat} {W : World} (h : Spl V X Mb A C csx csm csa csc wa wc la lc Mk bo lao nl lco W) {g : Nat} {cur : Array Value} (hc : W.heap[g]? = some (.cells cur 26 (0, 0))) (hV : V.heap.size ≤ g) (hg : ∀ k, (.slice wa Mk.W.length wc : Value).ownBlock = some k ∨ (.slice la Mk.L.length lc : Value).ownBlock = some k → k < g) (i : Nat) (v : Value) : Spl V X Mb A C csx csm csa csc wa wc la lc Mk bo lao nl lco (W.setCell ⟨g, i, none⟩ v) := by
  obtain ⟨cs, h1, h2⟩ := h.lv
  exact ⟨other_laid h.bx (type_ne h.bx hc (by decide)) _, other_laid h.bm (type_ne h.bm hc (by decide)) _, other_laid h.ba (type_ne h.ba hc (by decide)) _, other_laid h.bc (type_ne h.bc hc (by decide)) _, h.mem.far hg (fun k o hk ho => other_laid ho hk _), ⟨cs, own_keep h1 (fun b o hb ho => by
    obtain ⟨cur', hc'⟩ := own_type h1 b hb
    exact other_laid ho (type_ne hc' hc (by decide)) _), h2⟩, h.below.setCell (p := ⟨g, i, none⟩) hV v⟩
theorem Spl.setL {V : World} {X Mb A C : Nat} {csx csm csa csc : Array Value} {wa la : Option Addr} {wc lc : Nat} {Mk : Mem} {bo : Nat} {nl lco : Nat} {W : World} {g : Nat} (h : Spl V X Mb A C csx csm csa csc wa wc la lc Mk bo (some ⟨g, 0, none⟩) nl lco W) (hV : V.heap.size ≤ g) (hg : ∀ k, (.slice wa Mk.W.length wc : Value).ownBlock = some k ∨ (.slice la Mk.L.length lc : Value).ownBlock = some k → k < g) (i : Nat) (hi : i < nl) (b : Bool) : Spl V X Mb A C csx csm csa csc wa wc la lc Mk bo (some ⟨g, 0, none⟩) nl lco (W.setCell ⟨g, i, none⟩ (.bool b)) := by
  obtain ⟨cs, h1, h2⟩ := h.lv
  obtain ⟨cur, hc⟩ := own_type h1 g rfl
  refine ⟨other_laid h.bx (type_ne h.bx hc (by decide)) _, other_laid h.bm (type_ne h.bm hc (by decide)) _, other_laid h.ba (type_ne h.ba hc (by decide)) _, other_laid h.bc (type_ne h.bc hc (by decide)) _, h.mem.far hg (fun k o hk ho => other_laid ho hk _), ⟨_, (h1.stored i (.bool b)).1, fun v hv => ?_⟩, h.below.setCell (p := ⟨g, i, none⟩) hV _⟩
  rcases List.mem_or_eq_of_mem_set hv with hv | rfl
  · exact h2 v hv
  · exact ⟨b, rfl⟩
theorem Spl.grow {V : World} {X Mb A C : Nat} {csx csm csa csc : Array Value} {wa la : Option Addr} {wc lc : Nat} {Mk : Mem} {bo : Nat} {lao : Option Addr} {nl lco : Nat} {W W' : World} (h : Spl V X Mb A C csx csm csa csc wa wc la lc Mk bo lao nl lco W) (hb : Below W.heap.size W W') : Spl V X Mb A C csx csm csa csc wa wc la lc Mk bo lao nl lco W' := by
  obtain ⟨cs, h1, h2⟩ := h.lv
  exact ⟨keep_laid h.bx hb, keep_laid h.bm hb, keep_laid h.ba hb, keep_laid h.bc hb, h.mem.grow hb, ⟨cs, own_grow h1 hb, h2⟩, h.below.trans (hb.mono h.below.size)⟩
/-- A memory whose rows lie from a block on. -/
structure MemF (g : Nat) (wa : Option Addr) (wc : Nat) (la : Option Addr) (lc : Nat) (M : Mem) (W : World) : Prop where
  mem : MemL W wa wc la lc M
  aw : ∀ b off, wa = some ⟨b, off, none⟩ → g ≤ b
  al : ∀ b off, la = some ⟨b, off, none⟩ → g ≤ b
theorem MemF.grow {g : Nat} {wa la : Option Addr} {wc lc : Nat} {M : Mem} {W W' : World} (h : MemF g wa wc la lc M W) (hb : Below W.heap.size W W') : MemF g wa wc la lc M W' := ⟨h.mem.grow hb, h.aw, h.al⟩
theorem MemF.keep {g Y : Nat} {wa la : Option Addr} {wc lc : Nat} {M : Mem} {W W' : World} (h : MemF g wa wc la lc M W) (hY : Y < g) (hk : ∀ (k : Nat) (o : Obj), k ≠ Y → W.heap[k]? = some o → W'.heap[k]? = some o) : MemF g wa wc la lc M W' :=
  ⟨⟨h.mem.w.keepNe (fun b off e => by have := h.aw b off e; omega) hk, h.mem.l.keepNe (fun b off e => by have := h.al b off e; omega) hk⟩, h.aw, h.al⟩
theorem MemF.zero (g : Nat) (W : World) : MemF g none 0 none 0 zeroM W := ⟨memL_zero W, (fun b off e => nomatch e), (fun b off e => nomatch e)⟩
/-- Worlds in which two variables lie so. -/
structure RMS (T : TypeId) (X Y : Nat) (cs cs' : Array Value) where
  w : World
  bx : w.heap[X]? = some (.cells cs 25 (0, 0))
  by_ : w.heap[Y]? = some (.cells cs' T (0, 0))
set_option maxRecDepth 100000 in
set_option maxHeartbeats 32000000 in
theorem steps_walk (M : Mem) (s : Sk) (d : Ede) (wa la : Option Addr) (wc0M lc : Nat) (V : World) (h : MemL V wa wc0M la lc M) (hW : ∀ x ∈ M.W, x < 18446744073709551616) (hs : s.Ok) (hd : d.Ok) :
    Calls Try.prog 5 #[memV wa wc0M la lc M, skV s, edV d] V (Ret (.bool true) V) := by
  obtain ⟨V1, hV1, hbV1, hsV1, hlV1⟩ := laid V #[.slice wa M.W.length wc0M, .slice la M.L.length lc, .bool M.F] 25
  obtain ⟨V2, hV2, hbV2, hsV2, hlV2⟩ := laid V1 #[.int .i64 s.ph, .int .u64 ((s.hash : Nat) : Int), .int .u64 ((s.key : Nat) : Int), .int .u64 ((s.link : Nat) : Int), .int .u64 ((s.node : Nat) : Int), .int .u64 ((s.val : Nat) : Int), .bool s.found] 40
  obtain ⟨V3, hV3, hbV3, hsV3, hlV3⟩ := laid V2 #[.int .i64 d.ph, .bool d.cuts, .int .u64 ((d.link : Nat) : Int), .int .u64 ((d.at_ : Nat) : Int), .int .u64 ((d.key : Nat) : Int), .int .u64 ((d.val : Nat) : Int), .int .u64 ((d.hash : Nat) : Int), .int .u64 ((d.next : Nat) : Int)] 53
  obtain ⟨X, hX⟩ : ∃ X, V.heap.size = X := ⟨_, rfl⟩
  rw [hX] at hlV1
  obtain ⟨Y, hY⟩ : ∃ X, V1.heap.size = X := ⟨_, rfl⟩
  rw [hY] at hlV2
  obtain ⟨Z, hZ⟩ : ∃ X, V2.heap.size = X := ⟨_, rfl⟩
  rw [hZ] at hlV3
  have KX := hid (keep_laid (keep_laid hlV1 hbV2) hbV3)
  have KY := hid (keep_laid hlV2 hbV3)
  have KZ := hid hlV3
  have HB := hid (step (step hbV1 hbV2) hbV3)
  have hVX : V.heap.size ≤ X := by omega
  have hVY : V.heap.size ≤ Y := by omega
  have nXY : X < Y := by omega
  have hVZ : V.heap.size ≤ Z := by omega
  have nXZ : X < Z := by omega
  have nYZ : Y < Z := by omega
  clear hbV1 hsV1 hlV1 hbV2 hsV2 hlV2 hbV3 hsV3 hlV3
  have HWK := hid (take64_wok hW)
  have HSK := hid hs
  have HED := hid hd
  have hwl := h.w.len
  have hll := h.l.len
  have HOWN : Hid (∀ W : World, Below V.heap.size V W → Calls Try.prog 9 #[.agg #[.slice wa M.W.length wc0M, .slice la M.L.length lc, .bool M.F]] W (GivesM (take64 M) W)) := hid (fun W hb => lawown_any M wa la wc0M lc W (h.grow hb))
  obtain ⟨Mk, hMk⟩ : ∃ Mk, take64 M = Mk := ⟨_, rfl⟩
  rw [hMk] at HOWN HWK
  unfold memV skV edV
  clear h hW hs hd hMk
  go_enter Try.func5, Try.ntmps5
  go_wp2_with fail
  refine (wakes_any V3).mono ?_
  rintro e w1_112 ⟨rfl, hbn⟩
  have KX_1 := hid (keep_laid KX.out hbn)
  have KY_2 := hid (keep_laid KY.out hbn)
  have KZ_3 := hid (keep_laid KZ.out hbn)
  have HB_4 := hid (HB.out.trans (hbn.mono HB.out.size))
  clear KX KY KZ HB hbn
  clear hX hY hZ
  obtain ⟨x0, x1, x2⟩ := cells3 KX_1.out
  have hs0 := HB_4.out.size
  go_wp2_with fail
  refine (HOWN.out w1_112 HB_4.out).mono ?_
  rintro e w2_123 ⟨wa0, wc0, la0, lc0, rfl, hO, hbn⟩
  have KX_5 := hid (keep_laid KX_1.out hbn)
  have KY_6 := hid (keep_laid KY_2.out hbn)
  have KZ_7 := hid (keep_laid KZ_3.out hbn)
  have HB_8 := hid (HB_4.out.trans (hbn.mono HB_4.out.size))
  clear KX_1 KY_2 KZ_3 HB_4 hbn x0 x1 x2
  have HM := hid (hO.base hs0)
  clear hO hs0
  obtain ⟨w3_133, hw3_133, hbn, hsn, hln⟩ := laid w2_123 #[.slice none 0 0, .slice none 0 0, .bool false] 25
  obtain ⟨Mb, hNMMb⟩ : ∃ X, w2_123.heap.size = X := ⟨_, rfl⟩
  rw [hNMMb] at hln
  have nXMb : X < Mb := by have := lt_laid KX_5.out; omega
  have nYMb : Y < Mb := by have := lt_laid KY_6.out; omega
  have nZMb : Z < Mb := by have := lt_laid KZ_7.out; omega
  have hVMb : V.heap.size ≤ Mb := by have := HB_8.out.size; omega
  have KX_9 := hid (keep_laid KX_5.out hbn)
  have KY_10 := hid (keep_laid KY_6.out hbn)
  have KZ_11 := hid (keep_laid KZ_7.out hbn)
  have HB_12 := hid (HB_8.out.trans (hbn.mono HB_8.out.size))
  have HM_13 := hid (HM.out.grow hbn)
  clear KX_5 KY_6 KZ_7 HB_8 HM hbn hsn
  have KMb_14 := hid (hln)
  clear hln
  rw [show memV wa0 wc0 la0 lc0 Mk = .agg #[.slice wa0 Mk.W.length wc0, .slice la0 Mk.L.length lc0, .bool Mk.F] from rfl]
  obtain ⟨u4_149, hu4_149, a1, a2, a3, a4⟩ := put_mem KMb_14.out (.slice wa0 Mk.W.length wc0) (.slice la0 Mk.L.length lc0) (.bool Mk.F)
  obtain ⟨z0, zf0, z1, zf1, z2, zf2⟩ := fcl3 KMb_14.out
  have E5_149 := hid hu4_149
  have KX_15 := hid (a2 X _ (by omega) KX_9.out)
  have KY_16 := hid (a2 Y _ (by omega) KY_10.out)
  have KZ_17 := hid (a2 Z _ (by omega) KZ_11.out)
  have HB_18 := hid (a3 _ _ (by omega) HB_12.out)
  have HM_19 := hid (a4 _ _ _ _ _ _ HM_13.out)
  have KMb_20 := hid (a1)
  clear KX_9 KY_10 KZ_11 HB_12 HM_13 KMb_14 hu4_149 a1 a2 a3 a4
  go_upto_region 4 with (fail)
  rw [← E5_149.out]
  clear z0 z1 z2 zf0 zf1 zf2 hNMMb
  have hwlk := HM_19.out.memL.w.len
  have hllk := HM_19.out.memL.l.len
  have HRI := hid (RefRight_any Mk wa0 la0 wc0 lc0 u4_149 HM_19.out.memL)
  unfold memV at HRI
  obtain ⟨m0, m1, m2⟩ := cells3 KMb_20.out
  go_wp2_with fail
  refine (HRI.out).mono ?_
  rintro e w6_167 ⟨rfl, hbn⟩
  have KX_21 := hid (keep_laid KX_15.out hbn)
  have KY_22 := hid (keep_laid KY_16.out hbn)
  have KZ_23 := hid (keep_laid KZ_17.out hbn)
  have HB_24 := hid (HB_18.out.trans (hbn.mono HB_18.out.size))
  have HM_25 := hid (HM_19.out.grow hbn)
  have KMb_26 := hid (keep_laid KMb_20.out hbn)
  clear KX_15 KY_16 KZ_17 HB_18 HM_19 KMb_20 hbn m0 m1 m2 HRI
  obtain ⟨OKB, hOKB⟩ : ∃ b, okM Mk = b := ⟨_, rfl⟩
  rw [hOKB]
  have HOKB := hid hOKB
  clear hOKB
  go_upto_region 5 with (fail)
  obtain ⟨D7_181, hD⟩ : ∃ DX, (w6_167).drew = DX := ⟨_, rfl⟩
  have hbD : Below w6_167.heap.size w6_167 D7_181 := by rw [← hD]; exact (Below.refl _ _).drew
  have HD := hid hD
  clear hD
  have KX_27 := hid (keep_laid KX_21.out hbD)
  have KY_28 := hid (keep_laid KY_22.out hbD)
  have KZ_29 := hid (keep_laid KZ_23.out hbD)
  have HB_30 := hid (HB_24.out.trans (hbD.mono HB_24.out.size))
  have HM_31 := hid (HM_25.out.grow hbD)
  have KMb_32 := hid (keep_laid KMb_26.out hbD)
  clear KX_21 KY_22 KZ_23 HB_24 HM_25 KMb_26 hbD
  have p1 : ∀ z : Ext D7_181, z.v.cell? ⟨Y, 1, none⟩ = some (.int .u64 ((s.hash : Nat) : Int)) := fun z => cell_laid (keep_laid KY_28.out z.b) rfl
  have p2 : ∀ z : Ext D7_181, z.v.cell? ⟨Y, 2, none⟩ = some (.int .u64 ((s.key : Nat) : Int)) := fun z => cell_laid (keep_laid KY_28.out z.b) rfl
  have p3 : ∀ z : Ext D7_181, z.v.cell? ⟨Y, 3, none⟩ = some (.int .u64 ((s.link : Nat) : Int)) := fun z => cell_laid (keep_laid KY_28.out z.b) rfl
  have q2 : ∀ z : Ext D7_181, z.v.cell? ⟨Z, 2, none⟩ = some (.int .u64 ((d.link : Nat) : Int)) := fun z => cell_laid (keep_laid KZ_29.out z.b) rfl
  have q3 : ∀ z : Ext D7_181, z.v.cell? ⟨Z, 3, none⟩ = some (.int .u64 ((d.at_ : Nat) : Int)) := fun z => cell_laid (keep_laid KZ_29.out z.b) rfl
  have q4 : ∀ z : Ext D7_181, z.v.cell? ⟨Z, 4, none⟩ = some (.int .u64 ((d.key : Nat) : Int)) := fun z => cell_laid (keep_laid KZ_29.out z.b) rfl
  have q5 : ∀ z : Ext D7_181, z.v.cell? ⟨Z, 5, none⟩ = some (.int .u64 ((d.val : Nat) : Int)) := fun z => cell_laid (keep_laid KZ_29.out z.b) rfl
  have q6 : ∀ z : Ext D7_181, z.v.cell? ⟨Z, 6, none⟩ = some (.int .u64 ((d.hash : Nat) : Int)) := fun z => cell_laid (keep_laid KZ_29.out z.b) rfl
  have q7 : ∀ z : Ext D7_181, z.v.cell? ⟨Z, 7, none⟩ = some (.int .u64 ((d.next : Nat) : Int)) := fun z => cell_laid (keep_laid KZ_29.out z.b) rfl
  have heqS := sk_eq (seekK s.link s.hash s.key) (seekK s.link s.hash s.key) ⟨by unfold seekK; dsimp only; decide, HSK.out.hash, HSK.out.key, HSK.out.link, by unfold seekK; dsimp only; decide, by unfold seekK; dsimp only; decide⟩ ⟨by unfold seekK; dsimp only; decide, HSK.out.hash, HSK.out.key, HSK.out.link, by unfold seekK; dsimp only; decide, by unfold seekK; dsimp only; decide⟩
  rw [decide_eq_true rfl] at heqS
  unfold seekK at heqS
  dsimp only at heqS
  have okP : (putK d.link (d.at_, d.key, d.val, d.hash) d.next).Ok := by unfold putK; exact ⟨by dsimp only; decide, HED.out.link, HED.out.at_, HED.out.key, HED.out.val, HED.out.hash, HED.out.next⟩
  have okC : (cutK d.link d.next).Ok := by unfold cutK; exact ⟨by dsimp only; decide, HED.out.link, HED.out.next, by dsimp only; decide, by dsimp only; decide, by dsimp only; decide, by dsimp only; decide⟩
  have heqP := ed_eq _ _ okP okP
  rw [decide_eq_true rfl] at heqP
  unfold putK at heqP
  dsimp only at heqP
  have heqC := ed_eq _ _ okC okC
  rw [decide_eq_true rfl] at heqC
  unfold cutK at heqC
  dsimp only at heqC
  clear okP okC
  refine wp_region_mix2 (fun W => ∃ z : Ext D7_181, W = z.v) 46 (.q 0 (.q 1 (.q 2 (.q 3 (.q 4 (.q 5 (.q 7 (.q 8 (.q 9 (.q 10 (.q 11 (.q 12 (.q 13 (.h 6 (.q 14 (.q 15 (.q 16 (.q 17 (.q 18 (.q 19 (.q 20 (.q 21 (.q 23 (.q 24 (.q 25 (.q 26 (.q 27 (.q 28 (.q 29 (.h 22 (.q 30 (.q 31 (.q 32 (.q 33 (.q 34 (.q 35 (.q 36 (.q 38 (.q 39 (.q 40 (.q 41 (.q 42 (.q 43 (.h 37 (.q 44 (.q 45 (.done))))))))))))))))))))))))))))))))))))))))))))))) (by kernel_rfl) (by kernel_rfl) (by rw [HD.out]; exact ⟨⟨D7_181, Below.refl _ _⟩, rfl⟩) ?_
  rw [HD.out]
  repeat (refine wpMix2_q rfl rfl ?_; go_big_quiet_step (fail); refine wpQuiet_nil ?_)
  refine wpMix2_h rfl fun R' hR' hO => ?_
  have hcx := Seek_any s.link s.hash s.key D7_181
  unfold skV seekK at hcx
  dsimp only at hcx
  go_wp2_with fail
  refine hcx.mono ?_
  rintro e v1 ⟨rfl, hb1⟩
  have HB1 := hid hb1
  clear hb1 hcx
  go_wp2
  refine hR' _ _ ⟨⟨v1, HB1.out⟩, rfl⟩ ?_
  clear hR' hO R'
  repeat (refine wpMix2_q rfl rfl ?_; go_big_quiet_step (fail); refine wpQuiet_nil ?_)
  refine wpMix2_h rfl fun R' hR' hO => ?_
  have hcx := Put_any d.link d.next (d.at_, d.key, d.val, d.hash) v1
  unfold edV putK ndV at hcx
  dsimp only at hcx
  go_wp2_with fail
  refine hcx.mono ?_
  rintro e v2 ⟨rfl, hb2⟩
  have HB2 := hid (step HB1.out hb2)
  clear hb2 hcx
  go_wp2
  refine hR' _ _ ⟨⟨v2, HB2.out⟩, rfl⟩ ?_
  clear hR' hO R'
  repeat (refine wpMix2_q rfl rfl ?_; go_big_quiet_step (fail); refine wpQuiet_nil ?_)
  refine wpMix2_h rfl fun R' hR' hO => ?_
  have hcx := Cut_any d.link d.next v2
  unfold edV cutK at hcx
  dsimp only at hcx
  go_wp2_with fail
  refine hcx.mono ?_
  rintro e v3 ⟨rfl, hb3⟩
  have HB3 := hid (step HB2.out hb3)
  clear hb3 hcx
  go_wp2
  refine hR' _ _ ⟨⟨v3, HB3.out⟩, rfl⟩ ?_
  clear hR' hO R'
  repeat (refine wpMix2_q rfl rfl ?_; go_big_quiet_step (fail); refine wpQuiet_nil ?_)
  refine wpMix2_done ?_
  simp only [List.drop_succ_cons, List.drop_nil]
  have hbn := HB3.out
  clear heqS heqP heqC p1 p2 p3 q2 q3 q4 q5 q6 q7 HB1 HB2 HB3 HD
  have KX_33 := hid (keep_laid KX_27.out hbn)
  have KY_34 := hid (keep_laid KY_28.out hbn)
  have KZ_35 := hid (keep_laid KZ_29.out hbn)
  have HB_36 := hid (HB_30.out.trans (hbn.mono HB_30.out.size))
  have HM_37 := hid (HM_31.out.grow hbn)
  have KMb_38 := hid (keep_laid KMb_32.out hbn)
  clear KX_27 KY_28 KZ_29 HB_30 HM_31 KMb_32 hbn
  obtain ⟨⟨Mn, sn, cn⟩, hDcn⟩ : ∃ R, sseekP Mk s = R := ⟨_, rfl⟩
  have Hcn := hid hDcn
  have HST := hid (StepSeek_any Mk s wa0 la0 wc0 lc0 v3 HM_37.out.memL HSK.out)
  rw [hDcn] at HST
  clear hDcn
  unfold GivesStepSeek memV skV at HST
  dsimp only at HST
  obtain ⟨m0, m1, m2⟩ := cells3 KMb_38.out
  obtain ⟨y0, y1, y2, y3, y4, y5, y6⟩ := ncl7 KY_34.out
  obtain ⟨bn, hbs⟩ : ∃ b, v3.heap.size = b := ⟨_, rfl⟩
  have HLMbn : Hid (∀ k, (.slice wa0 Mk.W.length wc0 : Value).ownBlock = some k ∨ (.slice la0 Mk.L.length lc0 : Value).ownBlock = some k → k < bn) := hid (by rw [← hbs]; exact HM_37.out.below)
  have HVbn : Hid (V.heap.size ≤ bn) := hid (by rw [← hbs]; exact HB_36.out.size)
  have HBS := hid hbs
  clear hbs
  go_wp2_with fail
  refine (HST.out).mono ?_
  rintro e w8_284 ⟨wan, wcn, lan, lcn, rfl, hO, hbn⟩
  dsimp only at hO ⊢
  rw [HBS.out] at hO
  clear HBS
  have HN := hid hO
  have hbnw := hO.memL.w.len
  have hbnl := hO.memL.l.len
  clear hO
  have KX_39 := hid (keep_laid KX_33.out hbn)
  have KY_40 := hid (keep_laid KY_34.out hbn)
  have KZ_41 := hid (keep_laid KZ_35.out hbn)
  have HB_42 := hid (HB_36.out.trans (hbn.mono HB_36.out.size))
  have HM_43 := hid (HM_37.out.grow hbn)
  have KMb_44 := hid (keep_laid KMb_38.out hbn)
  clear KX_33 KY_34 KZ_35 HB_36 HM_37 KMb_38 hbn HST m0 m1 m2 y0 y1 y2 y3 y4 y5 y6
  obtain ⟨w9_301, hw9_301, hbn, hsn, hln⟩ := laid w8_284 #[.slice none 0 0, .slice none 0 0, .bool false] 25
  obtain ⟨Na, hNMNa⟩ : ∃ X, w8_284.heap.size = X := ⟨_, rfl⟩
  rw [hNMNa] at hln
  have nXNa : X < Na := by have := lt_laid KX_39.out; omega
  have nYNa : Y < Na := by have := lt_laid KY_40.out; omega
  have nZNa : Z < Na := by have := lt_laid KZ_41.out; omega
  have nMbNa : Mb < Na := by have := lt_laid KMb_44.out; omega
  have hVNa : V.heap.size ≤ Na := by have := HB_42.out.size; omega
  have KX_45 := hid (keep_laid KX_39.out hbn)
  have KY_46 := hid (keep_laid KY_40.out hbn)
  have KZ_47 := hid (keep_laid KZ_41.out hbn)
  have HB_48 := hid (HB_42.out.trans (hbn.mono HB_42.out.size))
  have HM_49 := hid (HM_43.out.grow hbn)
  have KMb_50 := hid (keep_laid KMb_44.out hbn)
  have HN_51 := hid (HN.out.grow hbn)
  clear KX_39 KY_40 KZ_41 HB_42 HM_43 KMb_44 HN hbn hsn
  have KNa_52 := hid (hln)
  clear hln
  obtain ⟨w10_319, hw10_319, hbn, hsn, hln⟩ := laid w9_301 #[.int .i64 0, .int .u64 0, .int .u64 0, .int .u64 0, .int .u64 0, .int .u64 0, .bool false] 40
  obtain ⟨Nt, hNMNt⟩ : ∃ X, w9_301.heap.size = X := ⟨_, rfl⟩
  rw [hNMNt] at hln
  have nXNt : X < Nt := by have := lt_laid KX_45.out; omega
  have nYNt : Y < Nt := by have := lt_laid KY_46.out; omega
  have nZNt : Z < Nt := by have := lt_laid KZ_47.out; omega
  have nMbNt : Mb < Nt := by have := lt_laid KMb_50.out; omega
  have nNaNt : Na < Nt := by have := lt_laid KNa_52.out; omega
  have hVNt : V.heap.size ≤ Nt := by have := HB_48.out.size; omega
  have KX_53 := hid (keep_laid KX_45.out hbn)
  have KY_54 := hid (keep_laid KY_46.out hbn)
  have KZ_55 := hid (keep_laid KZ_47.out hbn)
  have HB_56 := hid (HB_48.out.trans (hbn.mono HB_48.out.size))
  have HM_57 := hid (HM_49.out.grow hbn)
  have KMb_58 := hid (keep_laid KMb_50.out hbn)
  have HN_59 := hid (HN_51.out.grow hbn)
  have KNa_60 := hid (keep_laid KNa_52.out hbn)
  clear KX_45 KY_46 KZ_47 HB_48 HM_49 KMb_50 HN_51 KNa_52 hbn hsn
  have KNt_61 := hid (hln)
  clear hln
  have eNaNt : Na ≠ Nt := by omega
  have eNtNa : Nt ≠ Na := by omega
  obtain ⟨g0, gf0, g1, gf1, g2, gf2, g3, gf3, g4, gf4, g5, gf5, g6, gf6⟩ := fcl7 KNt_61.out
  obtain ⟨u11_342, hu11_342, a1, a2, a3, a4⟩ := put_mem KNa_60.out (.slice wan Mn.W.length wcn) (.slice lan Mn.L.length lcn) (.bool Mn.F)
  obtain ⟨z0, zf0, z1, zf1, z2, zf2⟩ := fcl3 KNa_60.out
  have E12_342 := hid hu11_342
  have KX_62 := hid (a2 X _ (by omega) KX_53.out)
  have KY_63 := hid (a2 Y _ (by omega) KY_54.out)
  have KZ_64 := hid (a2 Z _ (by omega) KZ_55.out)
  have HB_65 := hid (a3 _ _ (by omega) HB_56.out)
  have HM_66 := hid (a4 _ _ _ _ _ _ HM_57.out)
  have KMb_67 := hid (a2 Mb _ (by omega) KMb_58.out)
  have HN_68 := hid (a4 _ _ _ _ _ _ HN_59.out)
  have KNa_69 := hid (a1)
  have KNt_70 := hid (a2 Nt _ (by omega) KNt_61.out)
  clear KX_53 KY_54 KZ_55 HB_56 HM_57 KMb_58 HN_59 KNa_60 KNt_61 hu11_342 a1 a2 a3 a4
  obtain ⟨u13_355, hu13_355, a1, a2, a3, a4, a5⟩ := putM7 KNt_70.out (.int .i64 sn.ph) (.int .u64 ((sn.hash : Nat) : Int)) (.int .u64 ((sn.key : Nat) : Int)) (.int .u64 ((sn.link : Nat) : Int)) (.int .u64 ((sn.node : Nat) : Int)) (.int .u64 ((sn.val : Nat) : Int)) (.bool sn.found)
  have E14_355 := hid hu13_355
  have KX_71 := hid (a2 X _ (by omega) KX_62.out)
  have KY_72 := hid (a2 Y _ (by omega) KY_63.out)
  have KZ_73 := hid (a2 Z _ (by omega) KZ_64.out)
  have HB_74 := hid (a3 _ _ (by omega) HB_65.out)
  have HM_75 := hid (a4 _ _ _ _ _ _ (by decide) (by decide) HM_66.out)
  have KMb_76 := hid (a2 Mb _ (by omega) KMb_67.out)
  have HN_77 := hid (a4 _ _ _ _ _ _ (by decide) (by decide) HN_68.out)
  have KNa_78 := hid (a2 Na _ (by omega) KNa_69.out)
  have KNt_79 := hid (a1)
  clear KX_62 KY_63 KZ_64 HB_65 HM_66 KMb_67 HN_68 KNa_69 KNt_70 hu13_355 a1 a2 a3 a4 a5
  go_upto_region 8 with (fail)
  rw [← E12_342.out, ← E14_355.out]
  clear z0 z1 z2 zf0 zf1 zf2 g0 g1 g2 g3 g4 g5 g6 gf0 gf1 gf2 gf3 gf4 gf5 gf6 hNMNa hNMNt
  obtain ⟨⟨Mo, dn, co⟩, hDco⟩ : ∃ R, seditP Mk d = R := ⟨_, rfl⟩
  have Hco := hid hDco
  have HST := hid (StepEdit_any Mk d wa0 la0 wc0 lc0 u13_355 HM_75.out.memL HED.out)
  rw [hDco] at HST
  clear hDco
  unfold GivesStepEdit memV edV at HST
  dsimp only at HST
  obtain ⟨m0, m1, m2⟩ := cells3 KMb_76.out
  obtain ⟨y0, y1, y2, y3, y4, y5, y6, y7⟩ := ncl8 KZ_73.out
  obtain ⟨bo, hbs⟩ : ∃ b, u13_355.heap.size = b := ⟨_, rfl⟩
  have HLMbo : Hid (∀ k, (.slice wa0 Mk.W.length wc0 : Value).ownBlock = some k ∨ (.slice la0 Mk.L.length lc0 : Value).ownBlock = some k → k < bo) := hid (by rw [← hbs]; exact HM_75.out.below)
  have HVbo : Hid (V.heap.size ≤ bo) := hid (by rw [← hbs]; exact HB_74.out.size)
  have HBS := hid hbs
  clear hbs
  go_wp2_with fail
  refine (HST.out).mono ?_
  rintro e w15_384 ⟨wao, wco, lao, lco, rfl, hO, hbn⟩
  dsimp only at hO ⊢
  rw [HBS.out] at hO
  clear HBS
  have HO := hid hO
  have hbow := hO.memL.w.len
  have hbol := hO.memL.l.len
  clear hO
  have KX_80 := hid (keep_laid KX_71.out hbn)
  have KY_81 := hid (keep_laid KY_72.out hbn)
  have KZ_82 := hid (keep_laid KZ_73.out hbn)
  have HB_83 := hid (HB_74.out.trans (hbn.mono HB_74.out.size))
  have HM_84 := hid (HM_75.out.grow hbn)
  have KMb_85 := hid (keep_laid KMb_76.out hbn)
  have HN_86 := hid (HN_77.out.grow hbn)
  have KNa_87 := hid (keep_laid KNa_78.out hbn)
  have KNt_88 := hid (keep_laid KNt_79.out hbn)
  clear KX_71 KY_72 KZ_73 HB_74 HM_75 KMb_76 HN_77 KNa_78 KNt_79 hbn HST m0 m1 m2 y0 y1 y2 y3 y4 y5 y6 y7
  obtain ⟨w16_404, hw16_404, hbn, hsn, hln⟩ := laid w15_384 #[.slice none 0 0, .slice none 0 0, .bool false] 25
  obtain ⟨Oa, hNMOa⟩ : ∃ X, w15_384.heap.size = X := ⟨_, rfl⟩
  rw [hNMOa] at hln
  have nXOa : X < Oa := by have := lt_laid KX_80.out; omega
  have nYOa : Y < Oa := by have := lt_laid KY_81.out; omega
  have nZOa : Z < Oa := by have := lt_laid KZ_82.out; omega
  have nMbOa : Mb < Oa := by have := lt_laid KMb_85.out; omega
  have nNaOa : Na < Oa := by have := lt_laid KNa_87.out; omega
  have nNtOa : Nt < Oa := by have := lt_laid KNt_88.out; omega
  have hVOa : V.heap.size ≤ Oa := by have := HB_83.out.size; omega
  have KX_89 := hid (keep_laid KX_80.out hbn)
  have KY_90 := hid (keep_laid KY_81.out hbn)
  have KZ_91 := hid (keep_laid KZ_82.out hbn)
  have HB_92 := hid (HB_83.out.trans (hbn.mono HB_83.out.size))
  have HM_93 := hid (HM_84.out.grow hbn)
  have KMb_94 := hid (keep_laid KMb_85.out hbn)
  have HN_95 := hid (HN_86.out.grow hbn)
  have KNa_96 := hid (keep_laid KNa_87.out hbn)
  have KNt_97 := hid (keep_laid KNt_88.out hbn)
  have HO_98 := hid (HO.out.grow hbn)
  clear KX_80 KY_81 KZ_82 HB_83 HM_84 KMb_85 HN_86 KNa_87 KNt_88 HO hbn hsn
  have KOa_99 := hid (hln)
  clear hln
  obtain ⟨w17_427, hw17_427, hbn, hsn, hln⟩ := laid w16_404 #[.int .i64 0, .bool false, .int .u64 0, .int .u64 0, .int .u64 0, .int .u64 0, .int .u64 0, .int .u64 0] 53
  obtain ⟨Of, hNMOf⟩ : ∃ X, w16_404.heap.size = X := ⟨_, rfl⟩
  rw [hNMOf] at hln
  have nXOf : X < Of := by have := lt_laid KX_89.out; omega
  have nYOf : Y < Of := by have := lt_laid KY_90.out; omega
  have nZOf : Z < Of := by have := lt_laid KZ_91.out; omega
  have nMbOf : Mb < Of := by have := lt_laid KMb_94.out; omega
  have nNaOf : Na < Of := by have := lt_laid KNa_96.out; omega
  have nNtOf : Nt < Of := by have := lt_laid KNt_97.out; omega
  have nOaOf : Oa < Of := by have := lt_laid KOa_99.out; omega
  have hVOf : V.heap.size ≤ Of := by have := HB_92.out.size; omega
  have KX_100 := hid (keep_laid KX_89.out hbn)
  have KY_101 := hid (keep_laid KY_90.out hbn)
  have KZ_102 := hid (keep_laid KZ_91.out hbn)
  have HB_103 := hid (HB_92.out.trans (hbn.mono HB_92.out.size))
  have HM_104 := hid (HM_93.out.grow hbn)
  have KMb_105 := hid (keep_laid KMb_94.out hbn)
  have HN_106 := hid (HN_95.out.grow hbn)
  have KNa_107 := hid (keep_laid KNa_96.out hbn)
  have KNt_108 := hid (keep_laid KNt_97.out hbn)
  have HO_109 := hid (HO_98.out.grow hbn)
  have KOa_110 := hid (keep_laid KOa_99.out hbn)
  clear KX_89 KY_90 KZ_91 HB_92 HM_93 KMb_94 HN_95 KNa_96 KNt_97 HO_98 KOa_99 hbn hsn
  have KOf_111 := hid (hln)
  clear hln
  have eOaOf : Oa ≠ Of := by omega
  have eOfOa : Of ≠ Oa := by omega
  obtain ⟨g0, gf0, g1, gf1, g2, gf2, g3, gf3, g4, gf4, g5, gf5, g6, gf6, g7, gf7⟩ := fcl8 KOf_111.out
  obtain ⟨u18_455, hu18_455, a1, a2, a3, a4⟩ := put_mem KOa_110.out (.slice wao Mo.W.length wco) (.slice lao Mo.L.length lco) (.bool Mo.F)
  obtain ⟨z0, zf0, z1, zf1, z2, zf2⟩ := fcl3 KOa_110.out
  have E19_455 := hid hu18_455
  have KX_112 := hid (a2 X _ (by omega) KX_100.out)
  have KY_113 := hid (a2 Y _ (by omega) KY_101.out)
  have KZ_114 := hid (a2 Z _ (by omega) KZ_102.out)
  have HB_115 := hid (a3 _ _ (by omega) HB_103.out)
  have HM_116 := hid (a4 _ _ _ _ _ _ HM_104.out)
  have KMb_117 := hid (a2 Mb _ (by omega) KMb_105.out)
  have HN_118 := hid (a4 _ _ _ _ _ _ HN_106.out)
  have KNa_119 := hid (a2 Na _ (by omega) KNa_107.out)
  have KNt_120 := hid (a2 Nt _ (by omega) KNt_108.out)
  have HO_121 := hid (a4 _ _ _ _ _ _ HO_109.out)
  have KOa_122 := hid (a1)
  have KOf_123 := hid (a2 Of _ (by omega) KOf_111.out)
  clear KX_100 KY_101 KZ_102 HB_103 HM_104 KMb_105 HN_106 KNa_107 KNt_108 HO_109 KOa_110 KOf_111 hu18_455 a1 a2 a3 a4
  obtain ⟨u20_471, hu20_471, a1, a2, a3, a4, a5⟩ := putM8 KOf_123.out (.int .i64 dn.ph) (.bool dn.cuts) (.int .u64 ((dn.link : Nat) : Int)) (.int .u64 ((dn.at_ : Nat) : Int)) (.int .u64 ((dn.key : Nat) : Int)) (.int .u64 ((dn.val : Nat) : Int)) (.int .u64 ((dn.hash : Nat) : Int)) (.int .u64 ((dn.next : Nat) : Int))
  have E21_471 := hid hu20_471
  have KX_124 := hid (a2 X _ (by omega) KX_112.out)
  have KY_125 := hid (a2 Y _ (by omega) KY_113.out)
  have KZ_126 := hid (a2 Z _ (by omega) KZ_114.out)
  have HB_127 := hid (a3 _ _ (by omega) HB_115.out)
  have HM_128 := hid (a4 _ _ _ _ _ _ (by decide) (by decide) HM_116.out)
  have KMb_129 := hid (a2 Mb _ (by omega) KMb_117.out)
  have HN_130 := hid (a4 _ _ _ _ _ _ (by decide) (by decide) HN_118.out)
  have KNa_131 := hid (a2 Na _ (by omega) KNa_119.out)
  have KNt_132 := hid (a2 Nt _ (by omega) KNt_120.out)
  have HO_133 := hid (a4 _ _ _ _ _ _ (by decide) (by decide) HO_121.out)
  have KOa_134 := hid (a2 Oa _ (by omega) KOa_122.out)
  have KOf_135 := hid (a1)
  clear KX_112 KY_113 KZ_114 HB_115 HM_116 KMb_117 HN_118 KNa_119 KNt_120 HO_121 KOa_122 KOf_123 hu20_471 a1 a2 a3 a4 a5
  go_upto_region 9 with (fail)
  rw [← E19_455.out, ← E21_471.out]
  clear z0 z1 z2 zf0 zf1 zf2 g0 g1 g2 g3 g4 g5 g6 g7 gf0 gf1 gf2 gf3 gf4 gf5 gf6 gf7 hNMOa hNMOf
  obtain ⟨w22_489, hw22_489, hbn, hsn, hln⟩ := laid u20_471 #[.slice none 0 0, .slice none 0 0, .bool false] 25
  obtain ⟨Pa, hNMPa⟩ : ∃ X, u20_471.heap.size = X := ⟨_, rfl⟩
  rw [hNMPa] at hln
  have nXPa : X < Pa := by have := lt_laid KX_124.out; omega
  have nYPa : Y < Pa := by have := lt_laid KY_125.out; omega
  have nZPa : Z < Pa := by have := lt_laid KZ_126.out; omega
  have nMbPa : Mb < Pa := by have := lt_laid KMb_129.out; omega
  have nNaPa : Na < Pa := by have := lt_laid KNa_131.out; omega
  have nNtPa : Nt < Pa := by have := lt_laid KNt_132.out; omega
  have nOaPa : Oa < Pa := by have := lt_laid KOa_134.out; omega
  have nOfPa : Of < Pa := by have := lt_laid KOf_135.out; omega
  have hVPa : V.heap.size ≤ Pa := by have := HB_127.out.size; omega
  have KX_136 := hid (keep_laid KX_124.out hbn)
  have KY_137 := hid (keep_laid KY_125.out hbn)
  have KZ_138 := hid (keep_laid KZ_126.out hbn)
  have HB_139 := hid (HB_127.out.trans (hbn.mono HB_127.out.size))
  have HM_140 := hid (HM_128.out.grow hbn)
  have KMb_141 := hid (keep_laid KMb_129.out hbn)
  have HN_142 := hid (HN_130.out.grow hbn)
  have KNa_143 := hid (keep_laid KNa_131.out hbn)
  have KNt_144 := hid (keep_laid KNt_132.out hbn)
  have HO_145 := hid (HO_133.out.grow hbn)
  have KOa_146 := hid (keep_laid KOa_134.out hbn)
  have KOf_147 := hid (keep_laid KOf_135.out hbn)
  clear KX_124 KY_125 KZ_126 HB_127 HM_128 KMb_129 HN_130 KNa_131 KNt_132 HO_133 KOa_134 KOf_135 hbn hsn
  have KPa_148 := hid (hln)
  clear hln
  obtain ⟨w23_516, hw23_516, hbn, hsn, hln⟩ := laid w22_489 #[.int .i64 0, .int .u64 0, .int .u64 0, .int .u64 0, .int .u64 0, .int .u64 0, .bool false] 40
  obtain ⟨Ps, hNMPs⟩ : ∃ X, w22_489.heap.size = X := ⟨_, rfl⟩
  rw [hNMPs] at hln
  have nXPs : X < Ps := by have := lt_laid KX_136.out; omega
  have nYPs : Y < Ps := by have := lt_laid KY_137.out; omega
  have nZPs : Z < Ps := by have := lt_laid KZ_138.out; omega
  have nMbPs : Mb < Ps := by have := lt_laid KMb_141.out; omega
  have nNaPs : Na < Ps := by have := lt_laid KNa_143.out; omega
  have nNtPs : Nt < Ps := by have := lt_laid KNt_144.out; omega
  have nOaPs : Oa < Ps := by have := lt_laid KOa_146.out; omega
  have nOfPs : Of < Ps := by have := lt_laid KOf_147.out; omega
  have nPaPs : Pa < Ps := by have := lt_laid KPa_148.out; omega
  have hVPs : V.heap.size ≤ Ps := by have := HB_139.out.size; omega
  have KX_149 := hid (keep_laid KX_136.out hbn)
  have KY_150 := hid (keep_laid KY_137.out hbn)
  have KZ_151 := hid (keep_laid KZ_138.out hbn)
  have HB_152 := hid (HB_139.out.trans (hbn.mono HB_139.out.size))
  have HM_153 := hid (HM_140.out.grow hbn)
  have KMb_154 := hid (keep_laid KMb_141.out hbn)
  have HN_155 := hid (HN_142.out.grow hbn)
  have KNa_156 := hid (keep_laid KNa_143.out hbn)
  have KNt_157 := hid (keep_laid KNt_144.out hbn)
  have HO_158 := hid (HO_145.out.grow hbn)
  have KOa_159 := hid (keep_laid KOa_146.out hbn)
  have KOf_160 := hid (keep_laid KOf_147.out hbn)
  have KPa_161 := hid (keep_laid KPa_148.out hbn)
  clear KX_136 KY_137 KZ_138 HB_139 HM_140 KMb_141 HN_142 KNa_143 KNt_144 HO_145 KOa_146 KOf_147 KPa_148 hbn hsn
  have KPs_162 := hid (hln)
  clear hln
  have ePaPs : Pa ≠ Ps := by omega
  have ePsPa : Ps ≠ Pa := by omega
  obtain ⟨g0, gf0, g1, gf1, g2, gf2, g3, gf3, g4, gf4, g5, gf5, g6, gf6⟩ := fcl7 KPs_162.out
  obtain ⟨u24_548, hu24_548, a1, a2, a3, a4⟩ := put_mem KPa_161.out (.slice none 0 0) (.slice none 0 0) (.bool false)
  obtain ⟨z0, zf0, z1, zf1, z2, zf2⟩ := fcl3 KPa_161.out
  have E25_548 := hid hu24_548
  have KX_163 := hid (a2 X _ (by omega) KX_149.out)
  have KY_164 := hid (a2 Y _ (by omega) KY_150.out)
  have KZ_165 := hid (a2 Z _ (by omega) KZ_151.out)
  have HB_166 := hid (a3 _ _ (by omega) HB_152.out)
  have HM_167 := hid (a4 _ _ _ _ _ _ HM_153.out)
  have KMb_168 := hid (a2 Mb _ (by omega) KMb_154.out)
  have HN_169 := hid (a4 _ _ _ _ _ _ HN_155.out)
  have KNa_170 := hid (a2 Na _ (by omega) KNa_156.out)
  have KNt_171 := hid (a2 Nt _ (by omega) KNt_157.out)
  have HO_172 := hid (a4 _ _ _ _ _ _ HO_158.out)
  have KOa_173 := hid (a2 Oa _ (by omega) KOa_159.out)
  have KOf_174 := hid (a2 Of _ (by omega) KOf_160.out)
  have KPa_175 := hid (a1)
  have KPs_176 := hid (a2 Ps _ (by omega) KPs_162.out)
  clear KX_149 KY_150 KZ_151 HB_152 HM_153 KMb_154 HN_155 KNa_156 KNt_157 HO_158 KOa_159 KOf_160 KPa_161 KPs_162 hu24_548 a1 a2 a3 a4
  obtain ⟨u26_566, hu26_566, a1, a2, a3, a4, a5⟩ := putM7 KPs_176.out (.int .i64 0) (.int .u64 0) (.int .u64 0) (.int .u64 0) (.int .u64 0) (.int .u64 0) (.bool false)
  have E27_566 := hid hu26_566
  have KX_177 := hid (a2 X _ (by omega) KX_163.out)
  have KY_178 := hid (a2 Y _ (by omega) KY_164.out)
  have KZ_179 := hid (a2 Z _ (by omega) KZ_165.out)
  have HB_180 := hid (a3 _ _ (by omega) HB_166.out)
  have HM_181 := hid (a4 _ _ _ _ _ _ (by decide) (by decide) HM_167.out)
  have KMb_182 := hid (a2 Mb _ (by omega) KMb_168.out)
  have HN_183 := hid (a4 _ _ _ _ _ _ (by decide) (by decide) HN_169.out)
  have KNa_184 := hid (a2 Na _ (by omega) KNa_170.out)
  have KNt_185 := hid (a2 Nt _ (by omega) KNt_171.out)
  have HO_186 := hid (a4 _ _ _ _ _ _ (by decide) (by decide) HO_172.out)
  have KOa_187 := hid (a2 Oa _ (by omega) KOa_173.out)
  have KOf_188 := hid (a2 Of _ (by omega) KOf_174.out)
  have KPa_189 := hid (a2 Pa _ (by omega) KPa_175.out)
  have KPs_190 := hid (a1)
  clear KX_163 KY_164 KZ_165 HB_166 HM_167 KMb_168 HN_169 KNa_170 KNt_171 HO_172 KOa_173 KOf_174 KPa_175 KPs_176 hu26_566 a1 a2 a3 a4 a5
  go_upto_region 10 with (fail)
  rw [← E25_548.out, ← E27_566.out]
  clear z0 z1 z2 zf0 zf1 zf2 g0 g1 g2 g3 g4 g5 g6 gf0 gf1 gf2 gf3 gf4 gf5 gf6 hNMPa hNMPs
  obtain ⟨w28_586, hw28_586, hbn, hsn, hln⟩ := laid u26_566 #[.slice none 0 0, .slice none 0 0, .bool false] 25
  obtain ⟨Qa, hNMQa⟩ : ∃ X, u26_566.heap.size = X := ⟨_, rfl⟩
  rw [hNMQa] at hln
  have nXQa : X < Qa := by have := lt_laid KX_177.out; omega
  have nYQa : Y < Qa := by have := lt_laid KY_178.out; omega
  have nZQa : Z < Qa := by have := lt_laid KZ_179.out; omega
  have nMbQa : Mb < Qa := by have := lt_laid KMb_182.out; omega
  have nNaQa : Na < Qa := by have := lt_laid KNa_184.out; omega
  have nNtQa : Nt < Qa := by have := lt_laid KNt_185.out; omega
  have nOaQa : Oa < Qa := by have := lt_laid KOa_187.out; omega
  have nOfQa : Of < Qa := by have := lt_laid KOf_188.out; omega
  have nPaQa : Pa < Qa := by have := lt_laid KPa_189.out; omega
  have nPsQa : Ps < Qa := by have := lt_laid KPs_190.out; omega
  have hVQa : V.heap.size ≤ Qa := by have := HB_180.out.size; omega
  have KX_191 := hid (keep_laid KX_177.out hbn)
  have KY_192 := hid (keep_laid KY_178.out hbn)
  have KZ_193 := hid (keep_laid KZ_179.out hbn)
  have HB_194 := hid (HB_180.out.trans (hbn.mono HB_180.out.size))
  have HM_195 := hid (HM_181.out.grow hbn)
  have KMb_196 := hid (keep_laid KMb_182.out hbn)
  have HN_197 := hid (HN_183.out.grow hbn)
  have KNa_198 := hid (keep_laid KNa_184.out hbn)
  have KNt_199 := hid (keep_laid KNt_185.out hbn)
  have HO_200 := hid (HO_186.out.grow hbn)
  have KOa_201 := hid (keep_laid KOa_187.out hbn)
  have KOf_202 := hid (keep_laid KOf_188.out hbn)
  have KPa_203 := hid (keep_laid KPa_189.out hbn)
  have KPs_204 := hid (keep_laid KPs_190.out hbn)
  clear KX_177 KY_178 KZ_179 HB_180 HM_181 KMb_182 HN_183 KNa_184 KNt_185 HO_186 KOa_187 KOf_188 KPa_189 KPs_190 hbn hsn
  have KQa_205 := hid (hln)
  clear hln
  obtain ⟨w29_617, hw29_617, hbn, hsn, hln⟩ := laid w28_586 #[.int .i64 0, .bool false, .int .u64 0, .int .u64 0, .int .u64 0, .int .u64 0, .int .u64 0, .int .u64 0] 53
  obtain ⟨Qd, hNMQd⟩ : ∃ X, w28_586.heap.size = X := ⟨_, rfl⟩
  rw [hNMQd] at hln
  have nXQd : X < Qd := by have := lt_laid KX_191.out; omega
  have nYQd : Y < Qd := by have := lt_laid KY_192.out; omega
  have nZQd : Z < Qd := by have := lt_laid KZ_193.out; omega
  have nMbQd : Mb < Qd := by have := lt_laid KMb_196.out; omega
  have nNaQd : Na < Qd := by have := lt_laid KNa_198.out; omega
  have nNtQd : Nt < Qd := by have := lt_laid KNt_199.out; omega
  have nOaQd : Oa < Qd := by have := lt_laid KOa_201.out; omega
  have nOfQd : Of < Qd := by have := lt_laid KOf_202.out; omega
  have nPaQd : Pa < Qd := by have := lt_laid KPa_203.out; omega
  have nPsQd : Ps < Qd := by have := lt_laid KPs_204.out; omega
  have nQaQd : Qa < Qd := by have := lt_laid KQa_205.out; omega
  have hVQd : V.heap.size ≤ Qd := by have := HB_194.out.size; omega
  have KX_206 := hid (keep_laid KX_191.out hbn)
  have KY_207 := hid (keep_laid KY_192.out hbn)
  have KZ_208 := hid (keep_laid KZ_193.out hbn)
  have HB_209 := hid (HB_194.out.trans (hbn.mono HB_194.out.size))
  have HM_210 := hid (HM_195.out.grow hbn)
  have KMb_211 := hid (keep_laid KMb_196.out hbn)
  have HN_212 := hid (HN_197.out.grow hbn)
  have KNa_213 := hid (keep_laid KNa_198.out hbn)
  have KNt_214 := hid (keep_laid KNt_199.out hbn)
  have HO_215 := hid (HO_200.out.grow hbn)
  have KOa_216 := hid (keep_laid KOa_201.out hbn)
  have KOf_217 := hid (keep_laid KOf_202.out hbn)
  have KPa_218 := hid (keep_laid KPa_203.out hbn)
  have KPs_219 := hid (keep_laid KPs_204.out hbn)
  have KQa_220 := hid (keep_laid KQa_205.out hbn)
  clear KX_191 KY_192 KZ_193 HB_194 HM_195 KMb_196 HN_197 KNa_198 KNt_199 HO_200 KOa_201 KOf_202 KPa_203 KPs_204 KQa_205 hbn hsn
  have KQd_221 := hid (hln)
  clear hln
  have eQaQd : Qa ≠ Qd := by omega
  have eQdQa : Qd ≠ Qa := by omega
  obtain ⟨g0, gf0, g1, gf1, g2, gf2, g3, gf3, g4, gf4, g5, gf5, g6, gf6, g7, gf7⟩ := fcl8 KQd_221.out
  obtain ⟨u30_653, hu30_653, a1, a2, a3, a4⟩ := put_mem KQa_220.out (.slice none 0 0) (.slice none 0 0) (.bool false)
  obtain ⟨z0, zf0, z1, zf1, z2, zf2⟩ := fcl3 KQa_220.out
  have E31_653 := hid hu30_653
  have KX_222 := hid (a2 X _ (by omega) KX_206.out)
  have KY_223 := hid (a2 Y _ (by omega) KY_207.out)
  have KZ_224 := hid (a2 Z _ (by omega) KZ_208.out)
  have HB_225 := hid (a3 _ _ (by omega) HB_209.out)
  have HM_226 := hid (a4 _ _ _ _ _ _ HM_210.out)
  have KMb_227 := hid (a2 Mb _ (by omega) KMb_211.out)
  have HN_228 := hid (a4 _ _ _ _ _ _ HN_212.out)
  have KNa_229 := hid (a2 Na _ (by omega) KNa_213.out)
  have KNt_230 := hid (a2 Nt _ (by omega) KNt_214.out)
  have HO_231 := hid (a4 _ _ _ _ _ _ HO_215.out)
  have KOa_232 := hid (a2 Oa _ (by omega) KOa_216.out)
  have KOf_233 := hid (a2 Of _ (by omega) KOf_217.out)
  have KPa_234 := hid (a2 Pa _ (by omega) KPa_218.out)
  have KPs_235 := hid (a2 Ps _ (by omega) KPs_219.out)
  have KQa_236 := hid (a1)
  have KQd_237 := hid (a2 Qd _ (by omega) KQd_221.out)
  clear KX_206 KY_207 KZ_208 HB_209 HM_210 KMb_211 HN_212 KNa_213 KNt_214 HO_215 KOa_216 KOf_217 KPa_218 KPs_219 KQa_220 KQd_221 hu30_653 a1 a2 a3 a4
  obtain ⟨u32_673, hu32_673, a1, a2, a3, a4, a5⟩ := putM8 KQd_237.out (.int .i64 0) (.bool false) (.int .u64 0) (.int .u64 0) (.int .u64 0) (.int .u64 0) (.int .u64 0) (.int .u64 0)
  have E33_673 := hid hu32_673
  have KX_238 := hid (a2 X _ (by omega) KX_222.out)
  have KY_239 := hid (a2 Y _ (by omega) KY_223.out)
  have KZ_240 := hid (a2 Z _ (by omega) KZ_224.out)
  have HB_241 := hid (a3 _ _ (by omega) HB_225.out)
  have HM_242 := hid (a4 _ _ _ _ _ _ (by decide) (by decide) HM_226.out)
  have KMb_243 := hid (a2 Mb _ (by omega) KMb_227.out)
  have HN_244 := hid (a4 _ _ _ _ _ _ (by decide) (by decide) HN_228.out)
  have KNa_245 := hid (a2 Na _ (by omega) KNa_229.out)
  have KNt_246 := hid (a2 Nt _ (by omega) KNt_230.out)
  have HO_247 := hid (a4 _ _ _ _ _ _ (by decide) (by decide) HO_231.out)
  have KOa_248 := hid (a2 Oa _ (by omega) KOa_232.out)
  have KOf_249 := hid (a2 Of _ (by omega) KOf_233.out)
  have KPa_250 := hid (a2 Pa _ (by omega) KPa_234.out)
  have KPs_251 := hid (a2 Ps _ (by omega) KPs_235.out)
  have KQa_252 := hid (a2 Qa _ (by omega) KQa_236.out)
  have KQd_253 := hid (a1)
  clear KX_222 KY_223 KZ_224 HB_225 HM_226 KMb_227 HN_228 KNa_229 KNt_230 HO_231 KOa_232 KOf_233 KPa_234 KPs_235 KQa_236 KQd_237 hu32_673 a1 a2 a3 a4 a5
  go_upto_region 11 with (fail)
  rw [← E31_653.out, ← E33_673.out]
  clear z0 z1 z2 zf0 zf1 zf2 g0 g1 g2 g3 g4 g5 g6 g7 gf0 gf1 gf2 gf3 gf4 gf5 gf6 gf7 hNMQa hNMQd
  go_upto_if 93 with (fail)
  go_cut [17, 20] (fun t17 t20 W => t17 = .int .i64 ((cn : Nat) : Int) ∧ t20 = .int .i64 ((co : Nat) : Int) ∧ Hid (∃ waw wcw law lcw wax wcx lax lcx, W.heap[X]? = some (.cells #[.slice wa M.W.length wc0M, .slice la M.L.length lc, .bool M.F] 25 (0, 0)) ∧ W.heap[Mb]? = some (.cells #[.slice wa0 Mk.W.length wc0, .slice la0 Mk.L.length lc0, .bool Mk.F] 25 (0, 0)) ∧ Below V.heap.size V W ∧ MemO V.heap.size wa0 wc0 la0 lc0 Mk W ∧ W.heap[Na]? = some (.cells #[.slice wan Mn.W.length wcn, .slice lan Mn.L.length lcn, .bool Mn.F] 25 (0, 0)) ∧ W.heap[Nt]? = some (.cells #[.int .i64 sn.ph, .int .u64 ((sn.hash : Nat) : Int), .int .u64 ((sn.key : Nat) : Int), .int .u64 ((sn.link : Nat) : Int), .int .u64 ((sn.node : Nat) : Int), .int .u64 ((sn.val : Nat) : Int), .bool sn.found] 40 (0, 0)) ∧ MemO bn wan wcn lan lcn Mn W ∧ W.heap[Oa]? = some (.cells #[.slice wao Mo.W.length wco, .slice lao Mo.L.length lco, .bool Mo.F] 25 (0, 0)) ∧ W.heap[Of]? = some (.cells #[.int .i64 dn.ph, .bool dn.cuts, .int .u64 ((dn.link : Nat) : Int), .int .u64 ((dn.at_ : Nat) : Int), .int .u64 ((dn.key : Nat) : Int), .int .u64 ((dn.val : Nat) : Int), .int .u64 ((dn.hash : Nat) : Int), .int .u64 ((dn.next : Nat) : Int)] 53 (0, 0)) ∧ MemO bo wao wco lao lco Mo W ∧ W.heap[Pa]? = some (.cells #[.slice waw Mn.W.length wcw, .slice law Mn.L.length lcw, .bool Mn.F] 25 (0, 0)) ∧ W.heap[Ps]? = some (.cells #[.int .i64 sn.ph, .int .u64 ((sn.hash : Nat) : Int), .int .u64 ((sn.key : Nat) : Int), .int .u64 ((sn.link : Nat) : Int), .int .u64 ((sn.node : Nat) : Int), .int .u64 ((sn.val : Nat) : Int), .bool sn.found] 40 (0, 0)) ∧ MemF (Qd + 1) waw wcw law lcw Mn W ∧ W.heap[Qa]? = some (.cells #[.slice wax Mo.W.length wcx, .slice lax Mo.L.length lcx, .bool Mo.F] 25 (0, 0)) ∧ W.heap[Qd]? = some (.cells #[.int .i64 dn.ph, .bool dn.cuts, .int .u64 ((dn.link : Nat) : Int), .int .u64 ((dn.at_ : Nat) : Int), .int .u64 ((dn.key : Nat) : Int), .int .u64 ((dn.val : Nat) : Int), .int .u64 ((dn.hash : Nat) : Int), .int .u64 ((dn.next : Nat) : Int)] 53 (0, 0)) ∧ MemF (Qd + 1) wax wcx lax lcx Mo W))
  case first =>
    cases OKB with
    | false =>
      have hok := HOKB.out
      obtain ⟨rfl, rfl, rfl⟩ : Mn = zeroM ∧ sn = zeroSk ∧ cn = 120 := by
        have := Hcn.out
        unfold sseekP at this
        rw [hok, if_pos rfl] at this
        simp only [Prod.mk.injEq] at this
        exact ⟨this.1.symm, this.2.1.symm, this.2.2.symm⟩
      obtain ⟨rfl, rfl, rfl⟩ : Mo = zeroM ∧ dn = zeroEd ∧ co = 120 := by
        have := Hco.out
        unfold seditP at this
        rw [hok, if_pos rfl] at this
        simp only [Prod.mk.injEq] at this
        exact ⟨this.1.symm, this.2.1.symm, this.2.2.symm⟩
      clear hok
      go_wp2
      go_meet
      exact ⟨rfl, rfl, hid ⟨none, 0, none, 0, none, 0, none, 0, KX_238.out, KMb_243.out, HB_241.out, HM_242.out, KNa_245.out, KNt_246.out, HN_244.out, KOa_248.out, KOf_249.out, HO_247.out, KPa_250.out, KPs_251.out, MemF.zero _ _, KQa_252.out, KQd_253.out, MemF.zero _ _⟩⟩
    | true =>
      have HOK := HOKB
      have ys0 := cell_laid (i := 0) KY_239.out rfl
      by_cases h0 : s.ph < 0
      · have t0ys : decide ((0 : Int) ≤ s.ph) = false := decide_eq_false (by omega)
        obtain ⟨rfl, rfl, rfl⟩ : Mn = zeroM ∧ sn = zeroSk ∧ cn = 251 := by
          have := Hcn.out
          unfold sseekP at this
          rw [HOK.out, if_neg (by decide), if_pos (.inl h0)] at this
          simp only [Prod.mk.injEq] at this
          exact ⟨this.1.symm, this.2.1.symm, this.2.2.symm⟩
        clear h0
        have yz0 := cell_laid (i := 0) KZ_240.out rfl
        by_cases h0 : d.ph < 0
        · have t0yz : decide ((0 : Int) ≤ d.ph) = false := decide_eq_false (by omega)
          obtain ⟨rfl, rfl, rfl⟩ : Mo = zeroM ∧ dn = zeroEd ∧ co = 251 := by
            have := Hco.out
            unfold seditP at this
            rw [HOK.out, if_neg (by decide), if_pos (.inl h0)] at this
            simp only [Prod.mk.injEq] at this
            exact ⟨this.1.symm, this.2.1.symm, this.2.2.symm⟩
          clear h0
          skip
          go_wp2
          go_meet
          exact ⟨rfl, rfl, hid ⟨none, 0, none, 0, none, 0, none, 0, KX_238.out, KMb_243.out, HB_241.out, HM_242.out, KNa_245.out, KNt_246.out, HN_244.out, KOa_248.out, KOf_249.out, HO_247.out, KPa_250.out, KPs_251.out, MemF.zero _ _, KQa_252.out, KQd_253.out, MemF.zero _ _⟩⟩
        · have t0yz : decide ((0 : Int) ≤ d.ph) = true := decide_eq_true (by omega)
          by_cases h10 : 7 < d.ph
          · have t1yz : decide (d.ph ≤ 7) = false := decide_eq_false (by omega)
            obtain ⟨rfl, rfl, rfl⟩ : Mo = zeroM ∧ dn = zeroEd ∧ co = 251 := by
              have := Hco.out
              unfold seditP at this
              rw [HOK.out, if_neg (by decide), if_pos (.inr h10)] at this
              simp only [Prod.mk.injEq] at this
              exact ⟨this.1.symm, this.2.1.symm, this.2.2.symm⟩
            clear h0 h10
            skip
            go_wp2
            go_meet
            exact ⟨rfl, rfl, hid ⟨none, 0, none, 0, none, 0, none, 0, KX_238.out, KMb_243.out, HB_241.out, HM_242.out, KNa_245.out, KNt_246.out, HN_244.out, KOa_248.out, KOf_249.out, HO_247.out, KPa_250.out, KPs_251.out, MemF.zero _ _, KQa_252.out, KQd_253.out, MemF.zero _ _⟩⟩
          · have t1yz : decide (d.ph ≤ 7) = true := decide_eq_true (by omega)
            obtain ⟨hse, rfl⟩ : ((editE Mk d).1 = Mo ∧ (editE Mk d).2.1 = dn) ∧ co = 0 := by
              have := Hco.out
              unfold seditP at this
              rw [HOK.out, if_neg (by decide), if_neg (by omega)] at this
              simp only [Prod.mk.injEq] at this
              exact ⟨⟨this.1, this.2.1⟩, this.2.2.symm⟩
            have HSE := hid hse
            clear hse
            go_upto_region 19 with (fail)
            clear yz0
            obtain ⟨D34_758, hD⟩ : ∃ DX, (u32_673).drew = DX := ⟨_, rfl⟩
            have hbD : Below u32_673.heap.size u32_673 D34_758 := by rw [← hD]; exact (Below.refl _ _).drew
            have HD := hid hD
            clear hD
            have KX_254 := hid (keep_laid KX_238.out hbD)
            have KY_255 := hid (keep_laid KY_239.out hbD)
            have KZ_256 := hid (keep_laid KZ_240.out hbD)
            have HB_257 := hid (HB_241.out.trans (hbD.mono HB_241.out.size))
            have HM_258 := hid (HM_242.out.grow hbD)
            have KMb_259 := hid (keep_laid KMb_243.out hbD)
            have HN_260 := hid (HN_244.out.grow hbD)
            have KNa_261 := hid (keep_laid KNa_245.out hbD)
            have KNt_262 := hid (keep_laid KNt_246.out hbD)
            have HO_263 := hid (HO_247.out.grow hbD)
            have KOa_264 := hid (keep_laid KOa_248.out hbD)
            have KOf_265 := hid (keep_laid KOf_249.out hbD)
            have KPa_266 := hid (keep_laid KPa_250.out hbD)
            have KPs_267 := hid (keep_laid KPs_251.out hbD)
            have KQa_268 := hid (keep_laid KQa_252.out hbD)
            have KQd_269 := hid (keep_laid KQd_253.out hbD)
            clear KX_238 KY_239 KZ_240 HB_241 HM_242 KMb_243 HN_244 KNa_245 KNt_246 HO_247 KOa_248 KOf_249 KPa_250 KPs_251 KQa_252 KQd_253 hbD
            haveI : Nonempty (RMS 53 X Z #[.slice wa M.W.length wc0M, .slice la M.L.length lc, .bool M.F] #[.int .i64 d.ph, .bool d.cuts, .int .u64 ((d.link : Nat) : Int), .int .u64 ((d.at_ : Nat) : Int), .int .u64 ((d.key : Nat) : Int), .int .u64 ((d.val : Nat) : Int), .int .u64 ((d.hash : Nat) : Int), .int .u64 ((d.next : Nat) : Int)]) := ⟨⟨D34_758, KX_254.out, KZ_256.out⟩⟩
            have hQdD := lt_laid KQd_269.out
            have r0 : ∀ z : RMS 53 X Z #[.slice wa M.W.length wc0M, .slice la M.L.length lc, .bool M.F] #[.int .i64 d.ph, .bool d.cuts, .int .u64 ((d.link : Nat) : Int), .int .u64 ((d.at_ : Nat) : Int), .int .u64 ((d.key : Nat) : Int), .int .u64 ((d.val : Nat) : Int), .int .u64 ((d.hash : Nat) : Int), .int .u64 ((d.next : Nat) : Int)], z.w.cell? ⟨X, 0, none⟩ = some (.slice wa M.W.length wc0M) := fun z => cell_laid z.bx rfl
            have r1 : ∀ z : RMS 53 X Z #[.slice wa M.W.length wc0M, .slice la M.L.length lc, .bool M.F] #[.int .i64 d.ph, .bool d.cuts, .int .u64 ((d.link : Nat) : Int), .int .u64 ((d.at_ : Nat) : Int), .int .u64 ((d.key : Nat) : Int), .int .u64 ((d.val : Nat) : Int), .int .u64 ((d.hash : Nat) : Int), .int .u64 ((d.next : Nat) : Int)], z.w.cell? ⟨X, 1, none⟩ = some (.slice la M.L.length lc) := fun z => cell_laid z.bx rfl
            have r2 : ∀ z : RMS 53 X Z #[.slice wa M.W.length wc0M, .slice la M.L.length lc, .bool M.F] #[.int .i64 d.ph, .bool d.cuts, .int .u64 ((d.link : Nat) : Int), .int .u64 ((d.at_ : Nat) : Int), .int .u64 ((d.key : Nat) : Int), .int .u64 ((d.val : Nat) : Int), .int .u64 ((d.hash : Nat) : Int), .int .u64 ((d.next : Nat) : Int)], z.w.cell? ⟨X, 2, none⟩ = some (.bool M.F) := fun z => cell_laid z.bx rfl
            have p0 : ∀ z : RMS 53 X Z #[.slice wa M.W.length wc0M, .slice la M.L.length lc, .bool M.F] #[.int .i64 d.ph, .bool d.cuts, .int .u64 ((d.link : Nat) : Int), .int .u64 ((d.at_ : Nat) : Int), .int .u64 ((d.key : Nat) : Int), .int .u64 ((d.val : Nat) : Int), .int .u64 ((d.hash : Nat) : Int), .int .u64 ((d.next : Nat) : Int)], z.w.cell? ⟨Z, 0, none⟩ = some (.int .i64 d.ph) := fun z => cell_laid z.by_ rfl
            have p1 : ∀ z : RMS 53 X Z #[.slice wa M.W.length wc0M, .slice la M.L.length lc, .bool M.F] #[.int .i64 d.ph, .bool d.cuts, .int .u64 ((d.link : Nat) : Int), .int .u64 ((d.at_ : Nat) : Int), .int .u64 ((d.key : Nat) : Int), .int .u64 ((d.val : Nat) : Int), .int .u64 ((d.hash : Nat) : Int), .int .u64 ((d.next : Nat) : Int)], z.w.cell? ⟨Z, 1, none⟩ = some (.bool d.cuts) := fun z => cell_laid z.by_ rfl
            have p2 : ∀ z : RMS 53 X Z #[.slice wa M.W.length wc0M, .slice la M.L.length lc, .bool M.F] #[.int .i64 d.ph, .bool d.cuts, .int .u64 ((d.link : Nat) : Int), .int .u64 ((d.at_ : Nat) : Int), .int .u64 ((d.key : Nat) : Int), .int .u64 ((d.val : Nat) : Int), .int .u64 ((d.hash : Nat) : Int), .int .u64 ((d.next : Nat) : Int)], z.w.cell? ⟨Z, 2, none⟩ = some (.int .u64 ((d.link : Nat) : Int)) := fun z => cell_laid z.by_ rfl
            have p3 : ∀ z : RMS 53 X Z #[.slice wa M.W.length wc0M, .slice la M.L.length lc, .bool M.F] #[.int .i64 d.ph, .bool d.cuts, .int .u64 ((d.link : Nat) : Int), .int .u64 ((d.at_ : Nat) : Int), .int .u64 ((d.key : Nat) : Int), .int .u64 ((d.val : Nat) : Int), .int .u64 ((d.hash : Nat) : Int), .int .u64 ((d.next : Nat) : Int)], z.w.cell? ⟨Z, 3, none⟩ = some (.int .u64 ((d.at_ : Nat) : Int)) := fun z => cell_laid z.by_ rfl
            have p4 : ∀ z : RMS 53 X Z #[.slice wa M.W.length wc0M, .slice la M.L.length lc, .bool M.F] #[.int .i64 d.ph, .bool d.cuts, .int .u64 ((d.link : Nat) : Int), .int .u64 ((d.at_ : Nat) : Int), .int .u64 ((d.key : Nat) : Int), .int .u64 ((d.val : Nat) : Int), .int .u64 ((d.hash : Nat) : Int), .int .u64 ((d.next : Nat) : Int)], z.w.cell? ⟨Z, 4, none⟩ = some (.int .u64 ((d.key : Nat) : Int)) := fun z => cell_laid z.by_ rfl
            have p5 : ∀ z : RMS 53 X Z #[.slice wa M.W.length wc0M, .slice la M.L.length lc, .bool M.F] #[.int .i64 d.ph, .bool d.cuts, .int .u64 ((d.link : Nat) : Int), .int .u64 ((d.at_ : Nat) : Int), .int .u64 ((d.key : Nat) : Int), .int .u64 ((d.val : Nat) : Int), .int .u64 ((d.hash : Nat) : Int), .int .u64 ((d.next : Nat) : Int)], z.w.cell? ⟨Z, 5, none⟩ = some (.int .u64 ((d.val : Nat) : Int)) := fun z => cell_laid z.by_ rfl
            have p6 : ∀ z : RMS 53 X Z #[.slice wa M.W.length wc0M, .slice la M.L.length lc, .bool M.F] #[.int .i64 d.ph, .bool d.cuts, .int .u64 ((d.link : Nat) : Int), .int .u64 ((d.at_ : Nat) : Int), .int .u64 ((d.key : Nat) : Int), .int .u64 ((d.val : Nat) : Int), .int .u64 ((d.hash : Nat) : Int), .int .u64 ((d.next : Nat) : Int)], z.w.cell? ⟨Z, 6, none⟩ = some (.int .u64 ((d.hash : Nat) : Int)) := fun z => cell_laid z.by_ rfl
            have p7 : ∀ z : RMS 53 X Z #[.slice wa M.W.length wc0M, .slice la M.L.length lc, .bool M.F] #[.int .i64 d.ph, .bool d.cuts, .int .u64 ((d.link : Nat) : Int), .int .u64 ((d.at_ : Nat) : Int), .int .u64 ((d.key : Nat) : Int), .int .u64 ((d.val : Nat) : Int), .int .u64 ((d.hash : Nat) : Int), .int .u64 ((d.next : Nat) : Int)], z.w.cell? ⟨Z, 7, none⟩ = some (.int .u64 ((d.next : Nat) : Int)) := fun z => cell_laid z.by_ rfl
            refine wp_region_mix2 (fun W => ∃ z : RMS 53 X Z #[.slice wa M.W.length wc0M, .slice la M.L.length lc, .bool M.F] #[.int .i64 d.ph, .bool d.cuts, .int .u64 ((d.link : Nat) : Int), .int .u64 ((d.at_ : Nat) : Int), .int .u64 ((d.key : Nat) : Int), .int .u64 ((d.val : Nat) : Int), .int .u64 ((d.hash : Nat) : Int), .int .u64 ((d.next : Nat) : Int)], W = z.w) 9 (.q 0 (.q 2 (.h 1 (.h 3 (.q 4 (.q 5 (.q 6 (.h 7 (.h 8 .done))))))))) (by kernel_rfl) (by kernel_rfl) (by rw [HD.out]; exact ⟨⟨D34_758, KX_254.out, KZ_256.out⟩, rfl⟩) ?_
            rw [HD.out]
            repeat (refine wpMix2_q rfl rfl ?_; go_big_quiet_step (fail); refine wpQuiet_nil ?_)
            refine wpMix2_h rfl fun R' hR' hO => ?_
            go_wp2_with fail
            refine (HOWN.out D34_758 HB_257.out).mono ?_
            rintro e v1 ⟨wq, wqc, lq, lqc, rfl, hoo, hbn⟩
            have HRS := hid (rEditStep_any Mk d wq lq wqc lqc v1 hoo.memL HOK.out HED.out (by omega))
            rw [HSE.out.1, HSE.out.2] at HRS
            unfold GivesRE memV edV at HRS
            dsimp only at HRS
            have HOO := hid hoo
            have hv1s := hbn.size
            unfold memV
            clear hoo
            have KX_270 := hid (keep_laid KX_254.out hbn)
            have KY_271 := hid (keep_laid KY_255.out hbn)
            have KZ_272 := hid (keep_laid KZ_256.out hbn)
            have HB_273 := hid (HB_257.out.trans (hbn.mono HB_257.out.size))
            have HM_274 := hid (HM_258.out.grow hbn)
            have KMb_275 := hid (keep_laid KMb_259.out hbn)
            have HN_276 := hid (HN_260.out.grow hbn)
            have KNa_277 := hid (keep_laid KNa_261.out hbn)
            have KNt_278 := hid (keep_laid KNt_262.out hbn)
            have HO_279 := hid (HO_263.out.grow hbn)
            have KOa_280 := hid (keep_laid KOa_264.out hbn)
            have KOf_281 := hid (keep_laid KOf_265.out hbn)
            have KPa_282 := hid (keep_laid KPa_266.out hbn)
            have KPs_283 := hid (keep_laid KPs_267.out hbn)
            have KQa_284 := hid (keep_laid KQa_268.out hbn)
            have KQd_285 := hid (keep_laid KQd_269.out hbn)
            clear KX_254 KY_255 KZ_256 HB_257 HM_258 KMb_259 HN_260 KNa_261 KNt_262 HO_263 KOa_264 KOf_265 KPa_266 KPs_267 KQa_268 KQd_269 hbn
            go_wp2
            refine hR' _ _ ⟨⟨v1, KX_270.out, KZ_272.out⟩, rfl⟩ ?_
            clear hR' hO R'
            refine wpMix2_h rfl fun R' hR' hO => ?_
            go_wp2_with fail
            refine HRS.out.mono ?_
            rintro e v2 ⟨wax, wcx, lax, lcx, rfl, hmw, hbn, hkw, hkl⟩
            have HQW : Hid (MemF (Qd + 1) wax wcx lax lcx Mo v2) := hid ⟨hmw, (by
              rintro b off rfl
              rcases hkw with e | e
              · subst e; have := (HOO.out.w.lt b rfl).1; omega
              · have := e b off rfl; omega), (by
              rintro b off rfl
              rcases hkl with e | e
              · subst e; have := (HOO.out.l.lt b rfl).1; omega
              · have := e b off rfl; omega)⟩
            have hml1 := hmw.w.len
            have hml2 := hmw.l.len
            clear hmw hkw hkl
            have KX_286 := hid (keep_laid KX_270.out hbn)
            have KY_287 := hid (keep_laid KY_271.out hbn)
            have KZ_288 := hid (keep_laid KZ_272.out hbn)
            have HB_289 := hid (HB_273.out.trans (hbn.mono HB_273.out.size))
            have HM_290 := hid (HM_274.out.grow hbn)
            have KMb_291 := hid (keep_laid KMb_275.out hbn)
            have HN_292 := hid (HN_276.out.grow hbn)
            have KNa_293 := hid (keep_laid KNa_277.out hbn)
            have KNt_294 := hid (keep_laid KNt_278.out hbn)
            have HO_295 := hid (HO_279.out.grow hbn)
            have KOa_296 := hid (keep_laid KOa_280.out hbn)
            have KOf_297 := hid (keep_laid KOf_281.out hbn)
            have KPa_298 := hid (keep_laid KPa_282.out hbn)
            have KPs_299 := hid (keep_laid KPs_283.out hbn)
            have KQa_300 := hid (keep_laid KQa_284.out hbn)
            have KQd_301 := hid (keep_laid KQd_285.out hbn)
            clear KX_270 KY_271 KZ_272 HB_273 HM_274 KMb_275 HN_276 KNa_277 KNt_278 HO_279 KOa_280 KOf_281 KPa_282 KPs_283 KQa_284 KQd_285 hbn HRS HOO hv1s
            go_wp2
            refine hR' _ _ ⟨⟨v2, KX_286.out, KZ_288.out⟩, rfl⟩ ?_
            clear hR' hO R'
            repeat (refine wpMix2_q rfl rfl ?_; go_big_quiet_step (fail); refine wpQuiet_nil ?_)
            obtain ⟨g0, gf0, g1, gf1, g2, gf2, g3, gf3, g4, gf4, g5, gf5, g6, gf6, g7, gf7⟩ := fcl8 KQd_301.out
            obtain ⟨u35_875, hu35_875, a1, a2, a3, a4⟩ := put_mem KQa_300.out (.slice wax Mo.W.length wcx) (.slice lax Mo.L.length lcx) (.bool Mo.F)
            obtain ⟨z0, zf0, z1, zf1, z2, zf2⟩ := fcl3 KQa_300.out
            have E36_875 := hid hu35_875
            have KX_302 := hid (a2 X _ (by omega) KX_286.out)
            have KY_303 := hid (a2 Y _ (by omega) KY_287.out)
            have KZ_304 := hid (a2 Z _ (by omega) KZ_288.out)
            have HB_305 := hid (a3 _ _ (by omega) HB_289.out)
            have HM_306 := hid (a4 _ _ _ _ _ _ HM_290.out)
            have KMb_307 := hid (a2 Mb _ (by omega) KMb_291.out)
            have HN_308 := hid (a4 _ _ _ _ _ _ HN_292.out)
            have KNa_309 := hid (a2 Na _ (by omega) KNa_293.out)
            have KNt_310 := hid (a2 Nt _ (by omega) KNt_294.out)
            have HO_311 := hid (a4 _ _ _ _ _ _ HO_295.out)
            have KOa_312 := hid (a2 Oa _ (by omega) KOa_296.out)
            have KOf_313 := hid (a2 Of _ (by omega) KOf_297.out)
            have KPa_314 := hid (a2 Pa _ (by omega) KPa_298.out)
            have KPs_315 := hid (a2 Ps _ (by omega) KPs_299.out)
            have KQa_316 := hid (a1)
            have KQd_317 := hid (a2 Qd _ (by omega) KQd_301.out)
            have HQW_318 := hid (HQW.out.keep (by omega) a2)
            clear KX_286 KY_287 KZ_288 HB_289 HM_290 KMb_291 HN_292 KNa_293 KNt_294 HO_295 KOa_296 KOf_297 KPa_298 KPs_299 KQa_300 KQd_301 HQW hu35_875 a1 a2 a3 a4
            refine wpMix2_h rfl fun R' hR' hO => ?_
            go_wp2
            rw [← E36_875.out]
            refine hR' _ _ ⟨⟨u35_875, KX_302.out, KZ_304.out⟩, rfl⟩ ?_
            clear hR' hO R' z0 z1 z2 zf0 zf1 zf2 g0 g1 g2 g3 g4 g5 g6 g7 gf0 gf1 gf2 gf3 gf4 gf5 gf6 gf7
            obtain ⟨u37_901, hu37_901, a1, a2, a3, a4, a5⟩ := putM8 KQd_317.out (.int .i64 dn.ph) (.bool dn.cuts) (.int .u64 ((dn.link : Nat) : Int)) (.int .u64 ((dn.at_ : Nat) : Int)) (.int .u64 ((dn.key : Nat) : Int)) (.int .u64 ((dn.val : Nat) : Int)) (.int .u64 ((dn.hash : Nat) : Int)) (.int .u64 ((dn.next : Nat) : Int))
            obtain ⟨z0, zf0, z1, zf1, z2, zf2, z3, zf3, z4, zf4, z5, zf5, z6, zf6, z7, zf7⟩ := fcl8 KQd_317.out
            have E38_901 := hid hu37_901
            have KX_319 := hid (a2 X _ (by omega) KX_302.out)
            have KY_320 := hid (a2 Y _ (by omega) KY_303.out)
            have KZ_321 := hid (a2 Z _ (by omega) KZ_304.out)
            have HB_322 := hid (a3 _ _ (by omega) HB_305.out)
            have HM_323 := hid (a4 _ _ _ _ _ _ (by decide) (by decide) HM_306.out)
            have KMb_324 := hid (a2 Mb _ (by omega) KMb_307.out)
            have HN_325 := hid (a4 _ _ _ _ _ _ (by decide) (by decide) HN_308.out)
            have KNa_326 := hid (a2 Na _ (by omega) KNa_309.out)
            have KNt_327 := hid (a2 Nt _ (by omega) KNt_310.out)
            have HO_328 := hid (a4 _ _ _ _ _ _ (by decide) (by decide) HO_311.out)
            have KOa_329 := hid (a2 Oa _ (by omega) KOa_312.out)
            have KOf_330 := hid (a2 Of _ (by omega) KOf_313.out)
            have KPa_331 := hid (a2 Pa _ (by omega) KPa_314.out)
            have KPs_332 := hid (a2 Ps _ (by omega) KPs_315.out)
            have KQa_333 := hid (a2 Qa _ (by omega) KQa_316.out)
            have KQd_334 := hid (a1)
            have HQW_335 := hid (HQW_318.out.keep (by omega) a2)
            clear KX_302 KY_303 KZ_304 HB_305 HM_306 KMb_307 HN_308 KNa_309 KNt_310 HO_311 KOa_312 KOf_313 KPa_314 KPs_315 KQa_316 KQd_317 HQW_318 hu37_901 a1 a2 a3 a4 a5
            refine wpMix2_h rfl fun R' hR' hO => ?_
            go_wp2
            rw [← E38_901.out]
            refine hR' _ _ ⟨⟨u37_901, KX_319.out, KZ_321.out⟩, rfl⟩ ?_
            clear hR' hO R' z0 z1 z2 z3 z4 z5 z6 z7 zf0 zf1 zf2 zf3 zf4 zf5 zf6 zf7
            refine wpMix2_done ?_
            simp only [List.drop_succ_cons, List.drop_nil]
            clear r0 r1 r2 p0 p1 p2 p3 p4 p5 p6 p7 HD HSE
            go_wp2
            go_meet
            exact ⟨rfl, rfl, hid ⟨none, 0, none, 0, wax, wcx, lax, lcx, KX_319.out, KMb_324.out, HB_322.out, HM_323.out, KNa_326.out, KNt_327.out, HN_325.out, KOa_329.out, KOf_330.out, HO_328.out, KPa_331.out, KPs_332.out, MemF.zero _ _, KQa_333.out, KQd_334.out, HQW_335.out⟩⟩
      · have t0ys : decide ((0 : Int) ≤ s.ph) = true := decide_eq_true (by omega)
        by_cases h10 : 5 < s.ph
        · have t1ys : decide (s.ph ≤ 5) = false := decide_eq_false (by omega)
          obtain ⟨rfl, rfl, rfl⟩ : Mn = zeroM ∧ sn = zeroSk ∧ cn = 251 := by
            have := Hcn.out
            unfold sseekP at this
            rw [HOK.out, if_neg (by decide), if_pos (.inr h10)] at this
            simp only [Prod.mk.injEq] at this
            exact ⟨this.1.symm, this.2.1.symm, this.2.2.symm⟩
          clear h0 h10
          have yz0 := cell_laid (i := 0) KZ_240.out rfl
          by_cases h0 : d.ph < 0
          · have t0yz : decide ((0 : Int) ≤ d.ph) = false := decide_eq_false (by omega)
            obtain ⟨rfl, rfl, rfl⟩ : Mo = zeroM ∧ dn = zeroEd ∧ co = 251 := by
              have := Hco.out
              unfold seditP at this
              rw [HOK.out, if_neg (by decide), if_pos (.inl h0)] at this
              simp only [Prod.mk.injEq] at this
              exact ⟨this.1.symm, this.2.1.symm, this.2.2.symm⟩
            clear h0
            skip
            go_wp2
            go_meet
            exact ⟨rfl, rfl, hid ⟨none, 0, none, 0, none, 0, none, 0, KX_238.out, KMb_243.out, HB_241.out, HM_242.out, KNa_245.out, KNt_246.out, HN_244.out, KOa_248.out, KOf_249.out, HO_247.out, KPa_250.out, KPs_251.out, MemF.zero _ _, KQa_252.out, KQd_253.out, MemF.zero _ _⟩⟩
          · have t0yz : decide ((0 : Int) ≤ d.ph) = true := decide_eq_true (by omega)
            by_cases h10 : 7 < d.ph
            · have t1yz : decide (d.ph ≤ 7) = false := decide_eq_false (by omega)
              obtain ⟨rfl, rfl, rfl⟩ : Mo = zeroM ∧ dn = zeroEd ∧ co = 251 := by
                have := Hco.out
                unfold seditP at this
                rw [HOK.out, if_neg (by decide), if_pos (.inr h10)] at this
                simp only [Prod.mk.injEq] at this
                exact ⟨this.1.symm, this.2.1.symm, this.2.2.symm⟩
              clear h0 h10
              skip
              go_wp2
              go_meet
              exact ⟨rfl, rfl, hid ⟨none, 0, none, 0, none, 0, none, 0, KX_238.out, KMb_243.out, HB_241.out, HM_242.out, KNa_245.out, KNt_246.out, HN_244.out, KOa_248.out, KOf_249.out, HO_247.out, KPa_250.out, KPs_251.out, MemF.zero _ _, KQa_252.out, KQd_253.out, MemF.zero _ _⟩⟩
            · have t1yz : decide (d.ph ≤ 7) = true := decide_eq_true (by omega)
              obtain ⟨hse, rfl⟩ : ((editE Mk d).1 = Mo ∧ (editE Mk d).2.1 = dn) ∧ co = 0 := by
                have := Hco.out
                unfold seditP at this
                rw [HOK.out, if_neg (by decide), if_neg (by omega)] at this
                simp only [Prod.mk.injEq] at this
                exact ⟨⟨this.1, this.2.1⟩, this.2.2.symm⟩
              have HSE := hid hse
              clear hse
              go_upto_region 19 with (fail)
              clear yz0
              obtain ⟨D34_972, hD⟩ : ∃ DX, (u32_673).drew = DX := ⟨_, rfl⟩
              have hbD : Below u32_673.heap.size u32_673 D34_972 := by rw [← hD]; exact (Below.refl _ _).drew
              have HD := hid hD
              clear hD
              have KX_254 := hid (keep_laid KX_238.out hbD)
              have KY_255 := hid (keep_laid KY_239.out hbD)
              have KZ_256 := hid (keep_laid KZ_240.out hbD)
              have HB_257 := hid (HB_241.out.trans (hbD.mono HB_241.out.size))
              have HM_258 := hid (HM_242.out.grow hbD)
              have KMb_259 := hid (keep_laid KMb_243.out hbD)
              have HN_260 := hid (HN_244.out.grow hbD)
              have KNa_261 := hid (keep_laid KNa_245.out hbD)
              have KNt_262 := hid (keep_laid KNt_246.out hbD)
              have HO_263 := hid (HO_247.out.grow hbD)
              have KOa_264 := hid (keep_laid KOa_248.out hbD)
              have KOf_265 := hid (keep_laid KOf_249.out hbD)
              have KPa_266 := hid (keep_laid KPa_250.out hbD)
              have KPs_267 := hid (keep_laid KPs_251.out hbD)
              have KQa_268 := hid (keep_laid KQa_252.out hbD)
              have KQd_269 := hid (keep_laid KQd_253.out hbD)
              clear KX_238 KY_239 KZ_240 HB_241 HM_242 KMb_243 HN_244 KNa_245 KNt_246 HO_247 KOa_248 KOf_249 KPa_250 KPs_251 KQa_252 KQd_253 hbD
              haveI : Nonempty (RMS 53 X Z #[.slice wa M.W.length wc0M, .slice la M.L.length lc, .bool M.F] #[.int .i64 d.ph, .bool d.cuts, .int .u64 ((d.link : Nat) : Int), .int .u64 ((d.at_ : Nat) : Int), .int .u64 ((d.key : Nat) : Int), .int .u64 ((d.val : Nat) : Int), .int .u64 ((d.hash : Nat) : Int), .int .u64 ((d.next : Nat) : Int)]) := ⟨⟨D34_972, KX_254.out, KZ_256.out⟩⟩
              have hQdD := lt_laid KQd_269.out
              have r0 : ∀ z : RMS 53 X Z #[.slice wa M.W.length wc0M, .slice la M.L.length lc, .bool M.F] #[.int .i64 d.ph, .bool d.cuts, .int .u64 ((d.link : Nat) : Int), .int .u64 ((d.at_ : Nat) : Int), .int .u64 ((d.key : Nat) : Int), .int .u64 ((d.val : Nat) : Int), .int .u64 ((d.hash : Nat) : Int), .int .u64 ((d.next : Nat) : Int)], z.w.cell? ⟨X, 0, none⟩ = some (.slice wa M.W.length wc0M) := fun z => cell_laid z.bx rfl
              have r1 : ∀ z : RMS 53 X Z #[.slice wa M.W.length wc0M, .slice la M.L.length lc, .bool M.F] #[.int .i64 d.ph, .bool d.cuts, .int .u64 ((d.link : Nat) : Int), .int .u64 ((d.at_ : Nat) : Int), .int .u64 ((d.key : Nat) : Int), .int .u64 ((d.val : Nat) : Int), .int .u64 ((d.hash : Nat) : Int), .int .u64 ((d.next : Nat) : Int)], z.w.cell? ⟨X, 1, none⟩ = some (.slice la M.L.length lc) := fun z => cell_laid z.bx rfl
              have r2 : ∀ z : RMS 53 X Z #[.slice wa M.W.length wc0M, .slice la M.L.length lc, .bool M.F] #[.int .i64 d.ph, .bool d.cuts, .int .u64 ((d.link : Nat) : Int), .int .u64 ((d.at_ : Nat) : Int), .int .u64 ((d.key : Nat) : Int), .int .u64 ((d.val : Nat) : Int), .int .u64 ((d.hash : Nat) : Int), .int .u64 ((d.next : Nat) : Int)], z.w.cell? ⟨X, 2, none⟩ = some (.bool M.F) := fun z => cell_laid z.bx rfl
              have p0 : ∀ z : RMS 53 X Z #[.slice wa M.W.length wc0M, .slice la M.L.length lc, .bool M.F] #[.int .i64 d.ph, .bool d.cuts, .int .u64 ((d.link : Nat) : Int), .int .u64 ((d.at_ : Nat) : Int), .int .u64 ((d.key : Nat) : Int), .int .u64 ((d.val : Nat) : Int), .int .u64 ((d.hash : Nat) : Int), .int .u64 ((d.next : Nat) : Int)], z.w.cell? ⟨Z, 0, none⟩ = some (.int .i64 d.ph) := fun z => cell_laid z.by_ rfl
              have p1 : ∀ z : RMS 53 X Z #[.slice wa M.W.length wc0M, .slice la M.L.length lc, .bool M.F] #[.int .i64 d.ph, .bool d.cuts, .int .u64 ((d.link : Nat) : Int), .int .u64 ((d.at_ : Nat) : Int), .int .u64 ((d.key : Nat) : Int), .int .u64 ((d.val : Nat) : Int), .int .u64 ((d.hash : Nat) : Int), .int .u64 ((d.next : Nat) : Int)], z.w.cell? ⟨Z, 1, none⟩ = some (.bool d.cuts) := fun z => cell_laid z.by_ rfl
              have p2 : ∀ z : RMS 53 X Z #[.slice wa M.W.length wc0M, .slice la M.L.length lc, .bool M.F] #[.int .i64 d.ph, .bool d.cuts, .int .u64 ((d.link : Nat) : Int), .int .u64 ((d.at_ : Nat) : Int), .int .u64 ((d.key : Nat) : Int), .int .u64 ((d.val : Nat) : Int), .int .u64 ((d.hash : Nat) : Int), .int .u64 ((d.next : Nat) : Int)], z.w.cell? ⟨Z, 2, none⟩ = some (.int .u64 ((d.link : Nat) : Int)) := fun z => cell_laid z.by_ rfl
              have p3 : ∀ z : RMS 53 X Z #[.slice wa M.W.length wc0M, .slice la M.L.length lc, .bool M.F] #[.int .i64 d.ph, .bool d.cuts, .int .u64 ((d.link : Nat) : Int), .int .u64 ((d.at_ : Nat) : Int), .int .u64 ((d.key : Nat) : Int), .int .u64 ((d.val : Nat) : Int), .int .u64 ((d.hash : Nat) : Int), .int .u64 ((d.next : Nat) : Int)], z.w.cell? ⟨Z, 3, none⟩ = some (.int .u64 ((d.at_ : Nat) : Int)) := fun z => cell_laid z.by_ rfl
              have p4 : ∀ z : RMS 53 X Z #[.slice wa M.W.length wc0M, .slice la M.L.length lc, .bool M.F] #[.int .i64 d.ph, .bool d.cuts, .int .u64 ((d.link : Nat) : Int), .int .u64 ((d.at_ : Nat) : Int), .int .u64 ((d.key : Nat) : Int), .int .u64 ((d.val : Nat) : Int), .int .u64 ((d.hash : Nat) : Int), .int .u64 ((d.next : Nat) : Int)], z.w.cell? ⟨Z, 4, none⟩ = some (.int .u64 ((d.key : Nat) : Int)) := fun z => cell_laid z.by_ rfl
              have p5 : ∀ z : RMS 53 X Z #[.slice wa M.W.length wc0M, .slice la M.L.length lc, .bool M.F] #[.int .i64 d.ph, .bool d.cuts, .int .u64 ((d.link : Nat) : Int), .int .u64 ((d.at_ : Nat) : Int), .int .u64 ((d.key : Nat) : Int), .int .u64 ((d.val : Nat) : Int), .int .u64 ((d.hash : Nat) : Int), .int .u64 ((d.next : Nat) : Int)], z.w.cell? ⟨Z, 5, none⟩ = some (.int .u64 ((d.val : Nat) : Int)) := fun z => cell_laid z.by_ rfl
              have p6 : ∀ z : RMS 53 X Z #[.slice wa M.W.length wc0M, .slice la M.L.length lc, .bool M.F] #[.int .i64 d.ph, .bool d.cuts, .int .u64 ((d.link : Nat) : Int), .int .u64 ((d.at_ : Nat) : Int), .int .u64 ((d.key : Nat) : Int), .int .u64 ((d.val : Nat) : Int), .int .u64 ((d.hash : Nat) : Int), .int .u64 ((d.next : Nat) : Int)], z.w.cell? ⟨Z, 6, none⟩ = some (.int .u64 ((d.hash : Nat) : Int)) := fun z => cell_laid z.by_ rfl
              have p7 : ∀ z : RMS 53 X Z #[.slice wa M.W.length wc0M, .slice la M.L.length lc, .bool M.F] #[.int .i64 d.ph, .bool d.cuts, .int .u64 ((d.link : Nat) : Int), .int .u64 ((d.at_ : Nat) : Int), .int .u64 ((d.key : Nat) : Int), .int .u64 ((d.val : Nat) : Int), .int .u64 ((d.hash : Nat) : Int), .int .u64 ((d.next : Nat) : Int)], z.w.cell? ⟨Z, 7, none⟩ = some (.int .u64 ((d.next : Nat) : Int)) := fun z => cell_laid z.by_ rfl
              refine wp_region_mix2 (fun W => ∃ z : RMS 53 X Z #[.slice wa M.W.length wc0M, .slice la M.L.length lc, .bool M.F] #[.int .i64 d.ph, .bool d.cuts, .int .u64 ((d.link : Nat) : Int), .int .u64 ((d.at_ : Nat) : Int), .int .u64 ((d.key : Nat) : Int), .int .u64 ((d.val : Nat) : Int), .int .u64 ((d.hash : Nat) : Int), .int .u64 ((d.next : Nat) : Int)], W = z.w) 9 (.q 0 (.q 2 (.h 1 (.h 3 (.q 4 (.q 5 (.q 6 (.h 7 (.h 8 .done))))))))) (by kernel_rfl) (by kernel_rfl) (by rw [HD.out]; exact ⟨⟨D34_972, KX_254.out, KZ_256.out⟩, rfl⟩) ?_
              rw [HD.out]
              repeat (refine wpMix2_q rfl rfl ?_; go_big_quiet_step (fail); refine wpQuiet_nil ?_)
              refine wpMix2_h rfl fun R' hR' hO => ?_
              go_wp2_with fail
              refine (HOWN.out D34_972 HB_257.out).mono ?_
              rintro e v1 ⟨wq, wqc, lq, lqc, rfl, hoo, hbn⟩
              have HRS := hid (rEditStep_any Mk d wq lq wqc lqc v1 hoo.memL HOK.out HED.out (by omega))
              rw [HSE.out.1, HSE.out.2] at HRS
              unfold GivesRE memV edV at HRS
              dsimp only at HRS
              have HOO := hid hoo
              have hv1s := hbn.size
              unfold memV
              clear hoo
              have KX_270 := hid (keep_laid KX_254.out hbn)
              have KY_271 := hid (keep_laid KY_255.out hbn)
              have KZ_272 := hid (keep_laid KZ_256.out hbn)
              have HB_273 := hid (HB_257.out.trans (hbn.mono HB_257.out.size))
              have HM_274 := hid (HM_258.out.grow hbn)
              have KMb_275 := hid (keep_laid KMb_259.out hbn)
              have HN_276 := hid (HN_260.out.grow hbn)
              have KNa_277 := hid (keep_laid KNa_261.out hbn)
              have KNt_278 := hid (keep_laid KNt_262.out hbn)
              have HO_279 := hid (HO_263.out.grow hbn)
              have KOa_280 := hid (keep_laid KOa_264.out hbn)
              have KOf_281 := hid (keep_laid KOf_265.out hbn)
              have KPa_282 := hid (keep_laid KPa_266.out hbn)
              have KPs_283 := hid (keep_laid KPs_267.out hbn)
              have KQa_284 := hid (keep_laid KQa_268.out hbn)
              have KQd_285 := hid (keep_laid KQd_269.out hbn)
              clear KX_254 KY_255 KZ_256 HB_257 HM_258 KMb_259 HN_260 KNa_261 KNt_262 HO_263 KOa_264 KOf_265 KPa_266 KPs_267 KQa_268 KQd_269 hbn
              go_wp2
              refine hR' _ _ ⟨⟨v1, KX_270.out, KZ_272.out⟩, rfl⟩ ?_
              clear hR' hO R'
              refine wpMix2_h rfl fun R' hR' hO => ?_
              go_wp2_with fail
              refine HRS.out.mono ?_
              rintro e v2 ⟨wax, wcx, lax, lcx, rfl, hmw, hbn, hkw, hkl⟩
              have HQW : Hid (MemF (Qd + 1) wax wcx lax lcx Mo v2) := hid ⟨hmw, (by
                rintro b off rfl
                rcases hkw with e | e
                · subst e; have := (HOO.out.w.lt b rfl).1; omega
                · have := e b off rfl; omega), (by
                rintro b off rfl
                rcases hkl with e | e
                · subst e; have := (HOO.out.l.lt b rfl).1; omega
                · have := e b off rfl; omega)⟩
              have hml1 := hmw.w.len
              have hml2 := hmw.l.len
              clear hmw hkw hkl
              have KX_286 := hid (keep_laid KX_270.out hbn)
              have KY_287 := hid (keep_laid KY_271.out hbn)
              have KZ_288 := hid (keep_laid KZ_272.out hbn)
              have HB_289 := hid (HB_273.out.trans (hbn.mono HB_273.out.size))
              have HM_290 := hid (HM_274.out.grow hbn)
              have KMb_291 := hid (keep_laid KMb_275.out hbn)
              have HN_292 := hid (HN_276.out.grow hbn)
              have KNa_293 := hid (keep_laid KNa_277.out hbn)
              have KNt_294 := hid (keep_laid KNt_278.out hbn)
              have HO_295 := hid (HO_279.out.grow hbn)
              have KOa_296 := hid (keep_laid KOa_280.out hbn)
              have KOf_297 := hid (keep_laid KOf_281.out hbn)
              have KPa_298 := hid (keep_laid KPa_282.out hbn)
              have KPs_299 := hid (keep_laid KPs_283.out hbn)
              have KQa_300 := hid (keep_laid KQa_284.out hbn)
              have KQd_301 := hid (keep_laid KQd_285.out hbn)
              clear KX_270 KY_271 KZ_272 HB_273 HM_274 KMb_275 HN_276 KNa_277 KNt_278 HO_279 KOa_280 KOf_281 KPa_282 KPs_283 KQa_284 KQd_285 hbn HRS HOO hv1s
              go_wp2
              refine hR' _ _ ⟨⟨v2, KX_286.out, KZ_288.out⟩, rfl⟩ ?_
              clear hR' hO R'
              repeat (refine wpMix2_q rfl rfl ?_; go_big_quiet_step (fail); refine wpQuiet_nil ?_)
              obtain ⟨g0, gf0, g1, gf1, g2, gf2, g3, gf3, g4, gf4, g5, gf5, g6, gf6, g7, gf7⟩ := fcl8 KQd_301.out
              obtain ⟨u35_1089, hu35_1089, a1, a2, a3, a4⟩ := put_mem KQa_300.out (.slice wax Mo.W.length wcx) (.slice lax Mo.L.length lcx) (.bool Mo.F)
              obtain ⟨z0, zf0, z1, zf1, z2, zf2⟩ := fcl3 KQa_300.out
              have E36_1089 := hid hu35_1089
              have KX_302 := hid (a2 X _ (by omega) KX_286.out)
              have KY_303 := hid (a2 Y _ (by omega) KY_287.out)
              have KZ_304 := hid (a2 Z _ (by omega) KZ_288.out)
              have HB_305 := hid (a3 _ _ (by omega) HB_289.out)
              have HM_306 := hid (a4 _ _ _ _ _ _ HM_290.out)
              have KMb_307 := hid (a2 Mb _ (by omega) KMb_291.out)
              have HN_308 := hid (a4 _ _ _ _ _ _ HN_292.out)
              have KNa_309 := hid (a2 Na _ (by omega) KNa_293.out)
              have KNt_310 := hid (a2 Nt _ (by omega) KNt_294.out)
              have HO_311 := hid (a4 _ _ _ _ _ _ HO_295.out)
              have KOa_312 := hid (a2 Oa _ (by omega) KOa_296.out)
              have KOf_313 := hid (a2 Of _ (by omega) KOf_297.out)
              have KPa_314 := hid (a2 Pa _ (by omega) KPa_298.out)
              have KPs_315 := hid (a2 Ps _ (by omega) KPs_299.out)
              have KQa_316 := hid (a1)
              have KQd_317 := hid (a2 Qd _ (by omega) KQd_301.out)
              have HQW_318 := hid (HQW.out.keep (by omega) a2)
              clear KX_286 KY_287 KZ_288 HB_289 HM_290 KMb_291 HN_292 KNa_293 KNt_294 HO_295 KOa_296 KOf_297 KPa_298 KPs_299 KQa_300 KQd_301 HQW hu35_1089 a1 a2 a3 a4
              refine wpMix2_h rfl fun R' hR' hO => ?_
              go_wp2
              rw [← E36_1089.out]
              refine hR' _ _ ⟨⟨u35_1089, KX_302.out, KZ_304.out⟩, rfl⟩ ?_
              clear hR' hO R' z0 z1 z2 zf0 zf1 zf2 g0 g1 g2 g3 g4 g5 g6 g7 gf0 gf1 gf2 gf3 gf4 gf5 gf6 gf7
              obtain ⟨u37_1115, hu37_1115, a1, a2, a3, a4, a5⟩ := putM8 KQd_317.out (.int .i64 dn.ph) (.bool dn.cuts) (.int .u64 ((dn.link : Nat) : Int)) (.int .u64 ((dn.at_ : Nat) : Int)) (.int .u64 ((dn.key : Nat) : Int)) (.int .u64 ((dn.val : Nat) : Int)) (.int .u64 ((dn.hash : Nat) : Int)) (.int .u64 ((dn.next : Nat) : Int))
              obtain ⟨z0, zf0, z1, zf1, z2, zf2, z3, zf3, z4, zf4, z5, zf5, z6, zf6, z7, zf7⟩ := fcl8 KQd_317.out
              have E38_1115 := hid hu37_1115
              have KX_319 := hid (a2 X _ (by omega) KX_302.out)
              have KY_320 := hid (a2 Y _ (by omega) KY_303.out)
              have KZ_321 := hid (a2 Z _ (by omega) KZ_304.out)
              have HB_322 := hid (a3 _ _ (by omega) HB_305.out)
              have HM_323 := hid (a4 _ _ _ _ _ _ (by decide) (by decide) HM_306.out)
              have KMb_324 := hid (a2 Mb _ (by omega) KMb_307.out)
              have HN_325 := hid (a4 _ _ _ _ _ _ (by decide) (by decide) HN_308.out)
              have KNa_326 := hid (a2 Na _ (by omega) KNa_309.out)
              have KNt_327 := hid (a2 Nt _ (by omega) KNt_310.out)
              have HO_328 := hid (a4 _ _ _ _ _ _ (by decide) (by decide) HO_311.out)
              have KOa_329 := hid (a2 Oa _ (by omega) KOa_312.out)
              have KOf_330 := hid (a2 Of _ (by omega) KOf_313.out)
              have KPa_331 := hid (a2 Pa _ (by omega) KPa_314.out)
              have KPs_332 := hid (a2 Ps _ (by omega) KPs_315.out)
              have KQa_333 := hid (a2 Qa _ (by omega) KQa_316.out)
              have KQd_334 := hid (a1)
              have HQW_335 := hid (HQW_318.out.keep (by omega) a2)
              clear KX_302 KY_303 KZ_304 HB_305 HM_306 KMb_307 HN_308 KNa_309 KNt_310 HO_311 KOa_312 KOf_313 KPa_314 KPs_315 KQa_316 KQd_317 HQW_318 hu37_1115 a1 a2 a3 a4 a5
              refine wpMix2_h rfl fun R' hR' hO => ?_
              go_wp2
              rw [← E38_1115.out]
              refine hR' _ _ ⟨⟨u37_1115, KX_319.out, KZ_321.out⟩, rfl⟩ ?_
              clear hR' hO R' z0 z1 z2 z3 z4 z5 z6 z7 zf0 zf1 zf2 zf3 zf4 zf5 zf6 zf7
              refine wpMix2_done ?_
              simp only [List.drop_succ_cons, List.drop_nil]
              clear r0 r1 r2 p0 p1 p2 p3 p4 p5 p6 p7 HD HSE
              go_wp2
              go_meet
              exact ⟨rfl, rfl, hid ⟨none, 0, none, 0, wax, wcx, lax, lcx, KX_319.out, KMb_324.out, HB_322.out, HM_323.out, KNa_326.out, KNt_327.out, HN_325.out, KOa_329.out, KOf_330.out, HO_328.out, KPa_331.out, KPs_332.out, MemF.zero _ _, KQa_333.out, KQd_334.out, HQW_335.out⟩⟩
        · have t1ys : decide (s.ph ≤ 5) = true := decide_eq_true (by omega)
          obtain ⟨hse, rfl⟩ : ((seekE Mk s).1 = Mn ∧ (seekE Mk s).2.1 = sn) ∧ cn = 0 := by
            have := Hcn.out
            unfold sseekP at this
            rw [HOK.out, if_neg (by decide), if_neg (by omega)] at this
            simp only [Prod.mk.injEq] at this
            exact ⟨⟨this.1, this.2.1⟩, this.2.2.symm⟩
          have HSE := hid hse
          clear hse
          go_upto_region 15 with (fail)
          clear ys0
          obtain ⟨D34_1148, hD⟩ : ∃ DX, (u32_673).drew = DX := ⟨_, rfl⟩
          have hbD : Below u32_673.heap.size u32_673 D34_1148 := by rw [← hD]; exact (Below.refl _ _).drew
          have HD := hid hD
          clear hD
          have KX_254 := hid (keep_laid KX_238.out hbD)
          have KY_255 := hid (keep_laid KY_239.out hbD)
          have KZ_256 := hid (keep_laid KZ_240.out hbD)
          have HB_257 := hid (HB_241.out.trans (hbD.mono HB_241.out.size))
          have HM_258 := hid (HM_242.out.grow hbD)
          have KMb_259 := hid (keep_laid KMb_243.out hbD)
          have HN_260 := hid (HN_244.out.grow hbD)
          have KNa_261 := hid (keep_laid KNa_245.out hbD)
          have KNt_262 := hid (keep_laid KNt_246.out hbD)
          have HO_263 := hid (HO_247.out.grow hbD)
          have KOa_264 := hid (keep_laid KOa_248.out hbD)
          have KOf_265 := hid (keep_laid KOf_249.out hbD)
          have KPa_266 := hid (keep_laid KPa_250.out hbD)
          have KPs_267 := hid (keep_laid KPs_251.out hbD)
          have KQa_268 := hid (keep_laid KQa_252.out hbD)
          have KQd_269 := hid (keep_laid KQd_253.out hbD)
          clear KX_238 KY_239 KZ_240 HB_241 HM_242 KMb_243 HN_244 KNa_245 KNt_246 HO_247 KOa_248 KOf_249 KPa_250 KPs_251 KQa_252 KQd_253 hbD
          haveI : Nonempty (RMS 40 X Y #[.slice wa M.W.length wc0M, .slice la M.L.length lc, .bool M.F] #[.int .i64 s.ph, .int .u64 ((s.hash : Nat) : Int), .int .u64 ((s.key : Nat) : Int), .int .u64 ((s.link : Nat) : Int), .int .u64 ((s.node : Nat) : Int), .int .u64 ((s.val : Nat) : Int), .bool s.found]) := ⟨⟨D34_1148, KX_254.out, KY_255.out⟩⟩
          have hQdD := lt_laid KQd_269.out
          have r0 : ∀ z : RMS 40 X Y #[.slice wa M.W.length wc0M, .slice la M.L.length lc, .bool M.F] #[.int .i64 s.ph, .int .u64 ((s.hash : Nat) : Int), .int .u64 ((s.key : Nat) : Int), .int .u64 ((s.link : Nat) : Int), .int .u64 ((s.node : Nat) : Int), .int .u64 ((s.val : Nat) : Int), .bool s.found], z.w.cell? ⟨X, 0, none⟩ = some (.slice wa M.W.length wc0M) := fun z => cell_laid z.bx rfl
          have r1 : ∀ z : RMS 40 X Y #[.slice wa M.W.length wc0M, .slice la M.L.length lc, .bool M.F] #[.int .i64 s.ph, .int .u64 ((s.hash : Nat) : Int), .int .u64 ((s.key : Nat) : Int), .int .u64 ((s.link : Nat) : Int), .int .u64 ((s.node : Nat) : Int), .int .u64 ((s.val : Nat) : Int), .bool s.found], z.w.cell? ⟨X, 1, none⟩ = some (.slice la M.L.length lc) := fun z => cell_laid z.bx rfl
          have r2 : ∀ z : RMS 40 X Y #[.slice wa M.W.length wc0M, .slice la M.L.length lc, .bool M.F] #[.int .i64 s.ph, .int .u64 ((s.hash : Nat) : Int), .int .u64 ((s.key : Nat) : Int), .int .u64 ((s.link : Nat) : Int), .int .u64 ((s.node : Nat) : Int), .int .u64 ((s.val : Nat) : Int), .bool s.found], z.w.cell? ⟨X, 2, none⟩ = some (.bool M.F) := fun z => cell_laid z.bx rfl
          have p0 : ∀ z : RMS 40 X Y #[.slice wa M.W.length wc0M, .slice la M.L.length lc, .bool M.F] #[.int .i64 s.ph, .int .u64 ((s.hash : Nat) : Int), .int .u64 ((s.key : Nat) : Int), .int .u64 ((s.link : Nat) : Int), .int .u64 ((s.node : Nat) : Int), .int .u64 ((s.val : Nat) : Int), .bool s.found], z.w.cell? ⟨Y, 0, none⟩ = some (.int .i64 s.ph) := fun z => cell_laid z.by_ rfl
          have p1 : ∀ z : RMS 40 X Y #[.slice wa M.W.length wc0M, .slice la M.L.length lc, .bool M.F] #[.int .i64 s.ph, .int .u64 ((s.hash : Nat) : Int), .int .u64 ((s.key : Nat) : Int), .int .u64 ((s.link : Nat) : Int), .int .u64 ((s.node : Nat) : Int), .int .u64 ((s.val : Nat) : Int), .bool s.found], z.w.cell? ⟨Y, 1, none⟩ = some (.int .u64 ((s.hash : Nat) : Int)) := fun z => cell_laid z.by_ rfl
          have p2 : ∀ z : RMS 40 X Y #[.slice wa M.W.length wc0M, .slice la M.L.length lc, .bool M.F] #[.int .i64 s.ph, .int .u64 ((s.hash : Nat) : Int), .int .u64 ((s.key : Nat) : Int), .int .u64 ((s.link : Nat) : Int), .int .u64 ((s.node : Nat) : Int), .int .u64 ((s.val : Nat) : Int), .bool s.found], z.w.cell? ⟨Y, 2, none⟩ = some (.int .u64 ((s.key : Nat) : Int)) := fun z => cell_laid z.by_ rfl
          have p3 : ∀ z : RMS 40 X Y #[.slice wa M.W.length wc0M, .slice la M.L.length lc, .bool M.F] #[.int .i64 s.ph, .int .u64 ((s.hash : Nat) : Int), .int .u64 ((s.key : Nat) : Int), .int .u64 ((s.link : Nat) : Int), .int .u64 ((s.node : Nat) : Int), .int .u64 ((s.val : Nat) : Int), .bool s.found], z.w.cell? ⟨Y, 3, none⟩ = some (.int .u64 ((s.link : Nat) : Int)) := fun z => cell_laid z.by_ rfl
          have p4 : ∀ z : RMS 40 X Y #[.slice wa M.W.length wc0M, .slice la M.L.length lc, .bool M.F] #[.int .i64 s.ph, .int .u64 ((s.hash : Nat) : Int), .int .u64 ((s.key : Nat) : Int), .int .u64 ((s.link : Nat) : Int), .int .u64 ((s.node : Nat) : Int), .int .u64 ((s.val : Nat) : Int), .bool s.found], z.w.cell? ⟨Y, 4, none⟩ = some (.int .u64 ((s.node : Nat) : Int)) := fun z => cell_laid z.by_ rfl
          have p5 : ∀ z : RMS 40 X Y #[.slice wa M.W.length wc0M, .slice la M.L.length lc, .bool M.F] #[.int .i64 s.ph, .int .u64 ((s.hash : Nat) : Int), .int .u64 ((s.key : Nat) : Int), .int .u64 ((s.link : Nat) : Int), .int .u64 ((s.node : Nat) : Int), .int .u64 ((s.val : Nat) : Int), .bool s.found], z.w.cell? ⟨Y, 5, none⟩ = some (.int .u64 ((s.val : Nat) : Int)) := fun z => cell_laid z.by_ rfl
          have p6 : ∀ z : RMS 40 X Y #[.slice wa M.W.length wc0M, .slice la M.L.length lc, .bool M.F] #[.int .i64 s.ph, .int .u64 ((s.hash : Nat) : Int), .int .u64 ((s.key : Nat) : Int), .int .u64 ((s.link : Nat) : Int), .int .u64 ((s.node : Nat) : Int), .int .u64 ((s.val : Nat) : Int), .bool s.found], z.w.cell? ⟨Y, 6, none⟩ = some (.bool s.found) := fun z => cell_laid z.by_ rfl
          refine wp_region_mix2 (fun W => ∃ z : RMS 40 X Y #[.slice wa M.W.length wc0M, .slice la M.L.length lc, .bool M.F] #[.int .i64 s.ph, .int .u64 ((s.hash : Nat) : Int), .int .u64 ((s.key : Nat) : Int), .int .u64 ((s.link : Nat) : Int), .int .u64 ((s.node : Nat) : Int), .int .u64 ((s.val : Nat) : Int), .bool s.found], W = z.w) 9 (.q 0 (.q 2 (.h 1 (.h 3 (.q 4 (.q 5 (.q 6 (.h 7 (.h 8 .done))))))))) (by kernel_rfl) (by kernel_rfl) (by rw [HD.out]; exact ⟨⟨D34_1148, KX_254.out, KY_255.out⟩, rfl⟩) ?_
          rw [HD.out]
          repeat (refine wpMix2_q rfl rfl ?_; go_big_quiet_step (fail); refine wpQuiet_nil ?_)
          refine wpMix2_h rfl fun R' hR' hO => ?_
          go_wp2_with fail
          refine (HOWN.out D34_1148 HB_257.out).mono ?_
          rintro e v1 ⟨wq, wqc, lq, lqc, rfl, hoo, hbn⟩
          have HRS := hid (rSeekStep_any Mk s wq lq wqc lqc v1 hoo.memL HOK.out HSK.out (by omega))
          rw [HSE.out.1, HSE.out.2] at HRS
          unfold GivesRQ memV skV at HRS
          dsimp only at HRS
          have HOO := hid hoo
          have hv1s := hbn.size
          unfold memV
          clear hoo
          have KX_270 := hid (keep_laid KX_254.out hbn)
          have KY_271 := hid (keep_laid KY_255.out hbn)
          have KZ_272 := hid (keep_laid KZ_256.out hbn)
          have HB_273 := hid (HB_257.out.trans (hbn.mono HB_257.out.size))
          have HM_274 := hid (HM_258.out.grow hbn)
          have KMb_275 := hid (keep_laid KMb_259.out hbn)
          have HN_276 := hid (HN_260.out.grow hbn)
          have KNa_277 := hid (keep_laid KNa_261.out hbn)
          have KNt_278 := hid (keep_laid KNt_262.out hbn)
          have HO_279 := hid (HO_263.out.grow hbn)
          have KOa_280 := hid (keep_laid KOa_264.out hbn)
          have KOf_281 := hid (keep_laid KOf_265.out hbn)
          have KPa_282 := hid (keep_laid KPa_266.out hbn)
          have KPs_283 := hid (keep_laid KPs_267.out hbn)
          have KQa_284 := hid (keep_laid KQa_268.out hbn)
          have KQd_285 := hid (keep_laid KQd_269.out hbn)
          clear KX_254 KY_255 KZ_256 HB_257 HM_258 KMb_259 HN_260 KNa_261 KNt_262 HO_263 KOa_264 KOf_265 KPa_266 KPs_267 KQa_268 KQd_269 hbn
          go_wp2
          refine hR' _ _ ⟨⟨v1, KX_270.out, KY_271.out⟩, rfl⟩ ?_
          clear hR' hO R'
          refine wpMix2_h rfl fun R' hR' hO => ?_
          go_wp2_with fail
          refine HRS.out.mono ?_
          rintro e v2 ⟨waw, wcw, law, lcw, rfl, hmw, hbn, hkw, hkl⟩
          have HPW : Hid (MemF (Qd + 1) waw wcw law lcw Mn v2) := hid ⟨hmw, (by
            rintro b off rfl
            rcases hkw with e | e
            · subst e; have := (HOO.out.w.lt b rfl).1; omega
            · have := e b off rfl; omega), (by
            rintro b off rfl
            rcases hkl with e | e
            · subst e; have := (HOO.out.l.lt b rfl).1; omega
            · have := e b off rfl; omega)⟩
          have hml1 := hmw.w.len
          have hml2 := hmw.l.len
          clear hmw hkw hkl
          have KX_286 := hid (keep_laid KX_270.out hbn)
          have KY_287 := hid (keep_laid KY_271.out hbn)
          have KZ_288 := hid (keep_laid KZ_272.out hbn)
          have HB_289 := hid (HB_273.out.trans (hbn.mono HB_273.out.size))
          have HM_290 := hid (HM_274.out.grow hbn)
          have KMb_291 := hid (keep_laid KMb_275.out hbn)
          have HN_292 := hid (HN_276.out.grow hbn)
          have KNa_293 := hid (keep_laid KNa_277.out hbn)
          have KNt_294 := hid (keep_laid KNt_278.out hbn)
          have HO_295 := hid (HO_279.out.grow hbn)
          have KOa_296 := hid (keep_laid KOa_280.out hbn)
          have KOf_297 := hid (keep_laid KOf_281.out hbn)
          have KPa_298 := hid (keep_laid KPa_282.out hbn)
          have KPs_299 := hid (keep_laid KPs_283.out hbn)
          have KQa_300 := hid (keep_laid KQa_284.out hbn)
          have KQd_301 := hid (keep_laid KQd_285.out hbn)
          clear KX_270 KY_271 KZ_272 HB_273 HM_274 KMb_275 HN_276 KNa_277 KNt_278 HO_279 KOa_280 KOf_281 KPa_282 KPs_283 KQa_284 KQd_285 hbn HRS HOO hv1s
          go_wp2
          refine hR' _ _ ⟨⟨v2, KX_286.out, KY_287.out⟩, rfl⟩ ?_
          clear hR' hO R'
          repeat (refine wpMix2_q rfl rfl ?_; go_big_quiet_step (fail); refine wpQuiet_nil ?_)
          obtain ⟨g0, gf0, g1, gf1, g2, gf2, g3, gf3, g4, gf4, g5, gf5, g6, gf6⟩ := fcl7 KPs_299.out
          obtain ⟨u35_1264, hu35_1264, a1, a2, a3, a4⟩ := put_mem KPa_298.out (.slice waw Mn.W.length wcw) (.slice law Mn.L.length lcw) (.bool Mn.F)
          obtain ⟨z0, zf0, z1, zf1, z2, zf2⟩ := fcl3 KPa_298.out
          have E36_1264 := hid hu35_1264
          have KX_302 := hid (a2 X _ (by omega) KX_286.out)
          have KY_303 := hid (a2 Y _ (by omega) KY_287.out)
          have KZ_304 := hid (a2 Z _ (by omega) KZ_288.out)
          have HB_305 := hid (a3 _ _ (by omega) HB_289.out)
          have HM_306 := hid (a4 _ _ _ _ _ _ HM_290.out)
          have KMb_307 := hid (a2 Mb _ (by omega) KMb_291.out)
          have HN_308 := hid (a4 _ _ _ _ _ _ HN_292.out)
          have KNa_309 := hid (a2 Na _ (by omega) KNa_293.out)
          have KNt_310 := hid (a2 Nt _ (by omega) KNt_294.out)
          have HO_311 := hid (a4 _ _ _ _ _ _ HO_295.out)
          have KOa_312 := hid (a2 Oa _ (by omega) KOa_296.out)
          have KOf_313 := hid (a2 Of _ (by omega) KOf_297.out)
          have KPa_314 := hid (a1)
          have KPs_315 := hid (a2 Ps _ (by omega) KPs_299.out)
          have KQa_316 := hid (a2 Qa _ (by omega) KQa_300.out)
          have KQd_317 := hid (a2 Qd _ (by omega) KQd_301.out)
          have HPW_318 := hid (HPW.out.keep (by omega) a2)
          clear KX_286 KY_287 KZ_288 HB_289 HM_290 KMb_291 HN_292 KNa_293 KNt_294 HO_295 KOa_296 KOf_297 KPa_298 KPs_299 KQa_300 KQd_301 HPW hu35_1264 a1 a2 a3 a4
          refine wpMix2_h rfl fun R' hR' hO => ?_
          go_wp2
          rw [← E36_1264.out]
          refine hR' _ _ ⟨⟨u35_1264, KX_302.out, KY_303.out⟩, rfl⟩ ?_
          clear hR' hO R' z0 z1 z2 zf0 zf1 zf2 g0 g1 g2 g3 g4 g5 g6 gf0 gf1 gf2 gf3 gf4 gf5 gf6
          obtain ⟨u37_1290, hu37_1290, a1, a2, a3, a4, a5⟩ := putM7 KPs_315.out (.int .i64 sn.ph) (.int .u64 ((sn.hash : Nat) : Int)) (.int .u64 ((sn.key : Nat) : Int)) (.int .u64 ((sn.link : Nat) : Int)) (.int .u64 ((sn.node : Nat) : Int)) (.int .u64 ((sn.val : Nat) : Int)) (.bool sn.found)
          obtain ⟨z0, zf0, z1, zf1, z2, zf2, z3, zf3, z4, zf4, z5, zf5, z6, zf6⟩ := fcl7 KPs_315.out
          have E38_1290 := hid hu37_1290
          have KX_319 := hid (a2 X _ (by omega) KX_302.out)
          have KY_320 := hid (a2 Y _ (by omega) KY_303.out)
          have KZ_321 := hid (a2 Z _ (by omega) KZ_304.out)
          have HB_322 := hid (a3 _ _ (by omega) HB_305.out)
          have HM_323 := hid (a4 _ _ _ _ _ _ (by decide) (by decide) HM_306.out)
          have KMb_324 := hid (a2 Mb _ (by omega) KMb_307.out)
          have HN_325 := hid (a4 _ _ _ _ _ _ (by decide) (by decide) HN_308.out)
          have KNa_326 := hid (a2 Na _ (by omega) KNa_309.out)
          have KNt_327 := hid (a2 Nt _ (by omega) KNt_310.out)
          have HO_328 := hid (a4 _ _ _ _ _ _ (by decide) (by decide) HO_311.out)
          have KOa_329 := hid (a2 Oa _ (by omega) KOa_312.out)
          have KOf_330 := hid (a2 Of _ (by omega) KOf_313.out)
          have KPa_331 := hid (a2 Pa _ (by omega) KPa_314.out)
          have KPs_332 := hid (a1)
          have KQa_333 := hid (a2 Qa _ (by omega) KQa_316.out)
          have KQd_334 := hid (a2 Qd _ (by omega) KQd_317.out)
          have HPW_335 := hid (HPW_318.out.keep (by omega) a2)
          clear KX_302 KY_303 KZ_304 HB_305 HM_306 KMb_307 HN_308 KNa_309 KNt_310 HO_311 KOa_312 KOf_313 KPa_314 KPs_315 KQa_316 KQd_317 HPW_318 hu37_1290 a1 a2 a3 a4 a5
          refine wpMix2_h rfl fun R' hR' hO => ?_
          go_wp2
          rw [← E38_1290.out]
          refine hR' _ _ ⟨⟨u37_1290, KX_319.out, KY_320.out⟩, rfl⟩ ?_
          clear hR' hO R' z0 z1 z2 z3 z4 z5 z6 zf0 zf1 zf2 zf3 zf4 zf5 zf6
          refine wpMix2_done ?_
          simp only [List.drop_succ_cons, List.drop_nil]
          clear r0 r1 r2 p0 p1 p2 p3 p4 p5 p6 HD HSE
          have yz0 := cell_laid (i := 0) KZ_321.out rfl
          by_cases h0 : d.ph < 0
          · have t0yz : decide ((0 : Int) ≤ d.ph) = false := decide_eq_false (by omega)
            obtain ⟨rfl, rfl, rfl⟩ : Mo = zeroM ∧ dn = zeroEd ∧ co = 251 := by
              have := Hco.out
              unfold seditP at this
              rw [HOK.out, if_neg (by decide), if_pos (.inl h0)] at this
              simp only [Prod.mk.injEq] at this
              exact ⟨this.1.symm, this.2.1.symm, this.2.2.symm⟩
            clear h0
            skip
            go_wp2
            go_meet
            exact ⟨rfl, rfl, hid ⟨waw, wcw, law, lcw, none, 0, none, 0, KX_319.out, KMb_324.out, HB_322.out, HM_323.out, KNa_326.out, KNt_327.out, HN_325.out, KOa_329.out, KOf_330.out, HO_328.out, KPa_331.out, KPs_332.out, HPW_335.out, KQa_333.out, KQd_334.out, MemF.zero _ _⟩⟩
          · have t0yz : decide ((0 : Int) ≤ d.ph) = true := decide_eq_true (by omega)
            by_cases h10 : 7 < d.ph
            · have t1yz : decide (d.ph ≤ 7) = false := decide_eq_false (by omega)
              obtain ⟨rfl, rfl, rfl⟩ : Mo = zeroM ∧ dn = zeroEd ∧ co = 251 := by
                have := Hco.out
                unfold seditP at this
                rw [HOK.out, if_neg (by decide), if_pos (.inr h10)] at this
                simp only [Prod.mk.injEq] at this
                exact ⟨this.1.symm, this.2.1.symm, this.2.2.symm⟩
              clear h0 h10
              skip
              go_wp2
              go_meet
              exact ⟨rfl, rfl, hid ⟨waw, wcw, law, lcw, none, 0, none, 0, KX_319.out, KMb_324.out, HB_322.out, HM_323.out, KNa_326.out, KNt_327.out, HN_325.out, KOa_329.out, KOf_330.out, HO_328.out, KPa_331.out, KPs_332.out, HPW_335.out, KQa_333.out, KQd_334.out, MemF.zero _ _⟩⟩
            · have t1yz : decide (d.ph ≤ 7) = true := decide_eq_true (by omega)
              obtain ⟨hse, rfl⟩ : ((editE Mk d).1 = Mo ∧ (editE Mk d).2.1 = dn) ∧ co = 0 := by
                have := Hco.out
                unfold seditP at this
                rw [HOK.out, if_neg (by decide), if_neg (by omega)] at this
                simp only [Prod.mk.injEq] at this
                exact ⟨⟨this.1, this.2.1⟩, this.2.2.symm⟩
              have HSE := hid hse
              clear hse
              go_upto_region 19 with (fail)
              clear yz0
              obtain ⟨D39_1348, hD⟩ : ∃ DX, (u37_1290).drew = DX := ⟨_, rfl⟩
              have hbD : Below u37_1290.heap.size u37_1290 D39_1348 := by rw [← hD]; exact (Below.refl _ _).drew
              have HD := hid hD
              clear hD
              have KX_336 := hid (keep_laid KX_319.out hbD)
              have KY_337 := hid (keep_laid KY_320.out hbD)
              have KZ_338 := hid (keep_laid KZ_321.out hbD)
              have HB_339 := hid (HB_322.out.trans (hbD.mono HB_322.out.size))
              have HM_340 := hid (HM_323.out.grow hbD)
              have KMb_341 := hid (keep_laid KMb_324.out hbD)
              have HN_342 := hid (HN_325.out.grow hbD)
              have KNa_343 := hid (keep_laid KNa_326.out hbD)
              have KNt_344 := hid (keep_laid KNt_327.out hbD)
              have HO_345 := hid (HO_328.out.grow hbD)
              have KOa_346 := hid (keep_laid KOa_329.out hbD)
              have KOf_347 := hid (keep_laid KOf_330.out hbD)
              have KPa_348 := hid (keep_laid KPa_331.out hbD)
              have KPs_349 := hid (keep_laid KPs_332.out hbD)
              have KQa_350 := hid (keep_laid KQa_333.out hbD)
              have KQd_351 := hid (keep_laid KQd_334.out hbD)
              have HPW_352 := hid (HPW_335.out.grow hbD)
              clear KX_319 KY_320 KZ_321 HB_322 HM_323 KMb_324 HN_325 KNa_326 KNt_327 HO_328 KOa_329 KOf_330 KPa_331 KPs_332 KQa_333 KQd_334 HPW_335 hbD
              haveI : Nonempty (RMS 53 X Z #[.slice wa M.W.length wc0M, .slice la M.L.length lc, .bool M.F] #[.int .i64 d.ph, .bool d.cuts, .int .u64 ((d.link : Nat) : Int), .int .u64 ((d.at_ : Nat) : Int), .int .u64 ((d.key : Nat) : Int), .int .u64 ((d.val : Nat) : Int), .int .u64 ((d.hash : Nat) : Int), .int .u64 ((d.next : Nat) : Int)]) := ⟨⟨D39_1348, KX_336.out, KZ_338.out⟩⟩
              have hQdD := lt_laid KQd_351.out
              have r0 : ∀ z : RMS 53 X Z #[.slice wa M.W.length wc0M, .slice la M.L.length lc, .bool M.F] #[.int .i64 d.ph, .bool d.cuts, .int .u64 ((d.link : Nat) : Int), .int .u64 ((d.at_ : Nat) : Int), .int .u64 ((d.key : Nat) : Int), .int .u64 ((d.val : Nat) : Int), .int .u64 ((d.hash : Nat) : Int), .int .u64 ((d.next : Nat) : Int)], z.w.cell? ⟨X, 0, none⟩ = some (.slice wa M.W.length wc0M) := fun z => cell_laid z.bx rfl
              have r1 : ∀ z : RMS 53 X Z #[.slice wa M.W.length wc0M, .slice la M.L.length lc, .bool M.F] #[.int .i64 d.ph, .bool d.cuts, .int .u64 ((d.link : Nat) : Int), .int .u64 ((d.at_ : Nat) : Int), .int .u64 ((d.key : Nat) : Int), .int .u64 ((d.val : Nat) : Int), .int .u64 ((d.hash : Nat) : Int), .int .u64 ((d.next : Nat) : Int)], z.w.cell? ⟨X, 1, none⟩ = some (.slice la M.L.length lc) := fun z => cell_laid z.bx rfl
              have r2 : ∀ z : RMS 53 X Z #[.slice wa M.W.length wc0M, .slice la M.L.length lc, .bool M.F] #[.int .i64 d.ph, .bool d.cuts, .int .u64 ((d.link : Nat) : Int), .int .u64 ((d.at_ : Nat) : Int), .int .u64 ((d.key : Nat) : Int), .int .u64 ((d.val : Nat) : Int), .int .u64 ((d.hash : Nat) : Int), .int .u64 ((d.next : Nat) : Int)], z.w.cell? ⟨X, 2, none⟩ = some (.bool M.F) := fun z => cell_laid z.bx rfl
              have p0 : ∀ z : RMS 53 X Z #[.slice wa M.W.length wc0M, .slice la M.L.length lc, .bool M.F] #[.int .i64 d.ph, .bool d.cuts, .int .u64 ((d.link : Nat) : Int), .int .u64 ((d.at_ : Nat) : Int), .int .u64 ((d.key : Nat) : Int), .int .u64 ((d.val : Nat) : Int), .int .u64 ((d.hash : Nat) : Int), .int .u64 ((d.next : Nat) : Int)], z.w.cell? ⟨Z, 0, none⟩ = some (.int .i64 d.ph) := fun z => cell_laid z.by_ rfl
              have p1 : ∀ z : RMS 53 X Z #[.slice wa M.W.length wc0M, .slice la M.L.length lc, .bool M.F] #[.int .i64 d.ph, .bool d.cuts, .int .u64 ((d.link : Nat) : Int), .int .u64 ((d.at_ : Nat) : Int), .int .u64 ((d.key : Nat) : Int), .int .u64 ((d.val : Nat) : Int), .int .u64 ((d.hash : Nat) : Int), .int .u64 ((d.next : Nat) : Int)], z.w.cell? ⟨Z, 1, none⟩ = some (.bool d.cuts) := fun z => cell_laid z.by_ rfl
              have p2 : ∀ z : RMS 53 X Z #[.slice wa M.W.length wc0M, .slice la M.L.length lc, .bool M.F] #[.int .i64 d.ph, .bool d.cuts, .int .u64 ((d.link : Nat) : Int), .int .u64 ((d.at_ : Nat) : Int), .int .u64 ((d.key : Nat) : Int), .int .u64 ((d.val : Nat) : Int), .int .u64 ((d.hash : Nat) : Int), .int .u64 ((d.next : Nat) : Int)], z.w.cell? ⟨Z, 2, none⟩ = some (.int .u64 ((d.link : Nat) : Int)) := fun z => cell_laid z.by_ rfl
              have p3 : ∀ z : RMS 53 X Z #[.slice wa M.W.length wc0M, .slice la M.L.length lc, .bool M.F] #[.int .i64 d.ph, .bool d.cuts, .int .u64 ((d.link : Nat) : Int), .int .u64 ((d.at_ : Nat) : Int), .int .u64 ((d.key : Nat) : Int), .int .u64 ((d.val : Nat) : Int), .int .u64 ((d.hash : Nat) : Int), .int .u64 ((d.next : Nat) : Int)], z.w.cell? ⟨Z, 3, none⟩ = some (.int .u64 ((d.at_ : Nat) : Int)) := fun z => cell_laid z.by_ rfl
              have p4 : ∀ z : RMS 53 X Z #[.slice wa M.W.length wc0M, .slice la M.L.length lc, .bool M.F] #[.int .i64 d.ph, .bool d.cuts, .int .u64 ((d.link : Nat) : Int), .int .u64 ((d.at_ : Nat) : Int), .int .u64 ((d.key : Nat) : Int), .int .u64 ((d.val : Nat) : Int), .int .u64 ((d.hash : Nat) : Int), .int .u64 ((d.next : Nat) : Int)], z.w.cell? ⟨Z, 4, none⟩ = some (.int .u64 ((d.key : Nat) : Int)) := fun z => cell_laid z.by_ rfl
              have p5 : ∀ z : RMS 53 X Z #[.slice wa M.W.length wc0M, .slice la M.L.length lc, .bool M.F] #[.int .i64 d.ph, .bool d.cuts, .int .u64 ((d.link : Nat) : Int), .int .u64 ((d.at_ : Nat) : Int), .int .u64 ((d.key : Nat) : Int), .int .u64 ((d.val : Nat) : Int), .int .u64 ((d.hash : Nat) : Int), .int .u64 ((d.next : Nat) : Int)], z.w.cell? ⟨Z, 5, none⟩ = some (.int .u64 ((d.val : Nat) : Int)) := fun z => cell_laid z.by_ rfl
              have p6 : ∀ z : RMS 53 X Z #[.slice wa M.W.length wc0M, .slice la M.L.length lc, .bool M.F] #[.int .i64 d.ph, .bool d.cuts, .int .u64 ((d.link : Nat) : Int), .int .u64 ((d.at_ : Nat) : Int), .int .u64 ((d.key : Nat) : Int), .int .u64 ((d.val : Nat) : Int), .int .u64 ((d.hash : Nat) : Int), .int .u64 ((d.next : Nat) : Int)], z.w.cell? ⟨Z, 6, none⟩ = some (.int .u64 ((d.hash : Nat) : Int)) := fun z => cell_laid z.by_ rfl
              have p7 : ∀ z : RMS 53 X Z #[.slice wa M.W.length wc0M, .slice la M.L.length lc, .bool M.F] #[.int .i64 d.ph, .bool d.cuts, .int .u64 ((d.link : Nat) : Int), .int .u64 ((d.at_ : Nat) : Int), .int .u64 ((d.key : Nat) : Int), .int .u64 ((d.val : Nat) : Int), .int .u64 ((d.hash : Nat) : Int), .int .u64 ((d.next : Nat) : Int)], z.w.cell? ⟨Z, 7, none⟩ = some (.int .u64 ((d.next : Nat) : Int)) := fun z => cell_laid z.by_ rfl
              refine wp_region_mix2 (fun W => ∃ z : RMS 53 X Z #[.slice wa M.W.length wc0M, .slice la M.L.length lc, .bool M.F] #[.int .i64 d.ph, .bool d.cuts, .int .u64 ((d.link : Nat) : Int), .int .u64 ((d.at_ : Nat) : Int), .int .u64 ((d.key : Nat) : Int), .int .u64 ((d.val : Nat) : Int), .int .u64 ((d.hash : Nat) : Int), .int .u64 ((d.next : Nat) : Int)], W = z.w) 9 (.q 0 (.q 2 (.h 1 (.h 3 (.q 4 (.q 5 (.q 6 (.h 7 (.h 8 .done))))))))) (by kernel_rfl) (by kernel_rfl) (by rw [HD.out]; exact ⟨⟨D39_1348, KX_336.out, KZ_338.out⟩, rfl⟩) ?_
              rw [HD.out]
              repeat (refine wpMix2_q rfl rfl ?_; go_big_quiet_step (fail); refine wpQuiet_nil ?_)
              refine wpMix2_h rfl fun R' hR' hO => ?_
              go_wp2_with fail
              refine (HOWN.out D39_1348 HB_339.out).mono ?_
              rintro e v1 ⟨wq, wqc, lq, lqc, rfl, hoo, hbn⟩
              have HRS := hid (rEditStep_any Mk d wq lq wqc lqc v1 hoo.memL HOK.out HED.out (by omega))
              rw [HSE.out.1, HSE.out.2] at HRS
              unfold GivesRE memV edV at HRS
              dsimp only at HRS
              have HOO := hid hoo
              have hv1s := hbn.size
              unfold memV
              clear hoo
              have KX_353 := hid (keep_laid KX_336.out hbn)
              have KY_354 := hid (keep_laid KY_337.out hbn)
              have KZ_355 := hid (keep_laid KZ_338.out hbn)
              have HB_356 := hid (HB_339.out.trans (hbn.mono HB_339.out.size))
              have HM_357 := hid (HM_340.out.grow hbn)
              have KMb_358 := hid (keep_laid KMb_341.out hbn)
              have HN_359 := hid (HN_342.out.grow hbn)
              have KNa_360 := hid (keep_laid KNa_343.out hbn)
              have KNt_361 := hid (keep_laid KNt_344.out hbn)
              have HO_362 := hid (HO_345.out.grow hbn)
              have KOa_363 := hid (keep_laid KOa_346.out hbn)
              have KOf_364 := hid (keep_laid KOf_347.out hbn)
              have KPa_365 := hid (keep_laid KPa_348.out hbn)
              have KPs_366 := hid (keep_laid KPs_349.out hbn)
              have KQa_367 := hid (keep_laid KQa_350.out hbn)
              have KQd_368 := hid (keep_laid KQd_351.out hbn)
              have HPW_369 := hid (HPW_352.out.grow hbn)
              clear KX_336 KY_337 KZ_338 HB_339 HM_340 KMb_341 HN_342 KNa_343 KNt_344 HO_345 KOa_346 KOf_347 KPa_348 KPs_349 KQa_350 KQd_351 HPW_352 hbn
              go_wp2
              refine hR' _ _ ⟨⟨v1, KX_353.out, KZ_355.out⟩, rfl⟩ ?_
              clear hR' hO R'
              refine wpMix2_h rfl fun R' hR' hO => ?_
              go_wp2_with fail
              refine HRS.out.mono ?_
              rintro e v2 ⟨wax, wcx, lax, lcx, rfl, hmw, hbn, hkw, hkl⟩
              have HQW : Hid (MemF (Qd + 1) wax wcx lax lcx Mo v2) := hid ⟨hmw, (by
                rintro b off rfl
                rcases hkw with e | e
                · subst e; have := (HOO.out.w.lt b rfl).1; omega
                · have := e b off rfl; omega), (by
                rintro b off rfl
                rcases hkl with e | e
                · subst e; have := (HOO.out.l.lt b rfl).1; omega
                · have := e b off rfl; omega)⟩
              have hml1 := hmw.w.len
              have hml2 := hmw.l.len
              clear hmw hkw hkl
              have KX_370 := hid (keep_laid KX_353.out hbn)
              have KY_371 := hid (keep_laid KY_354.out hbn)
              have KZ_372 := hid (keep_laid KZ_355.out hbn)
              have HB_373 := hid (HB_356.out.trans (hbn.mono HB_356.out.size))
              have HM_374 := hid (HM_357.out.grow hbn)
              have KMb_375 := hid (keep_laid KMb_358.out hbn)
              have HN_376 := hid (HN_359.out.grow hbn)
              have KNa_377 := hid (keep_laid KNa_360.out hbn)
              have KNt_378 := hid (keep_laid KNt_361.out hbn)
              have HO_379 := hid (HO_362.out.grow hbn)
              have KOa_380 := hid (keep_laid KOa_363.out hbn)
              have KOf_381 := hid (keep_laid KOf_364.out hbn)
              have KPa_382 := hid (keep_laid KPa_365.out hbn)
              have KPs_383 := hid (keep_laid KPs_366.out hbn)
              have KQa_384 := hid (keep_laid KQa_367.out hbn)
              have KQd_385 := hid (keep_laid KQd_368.out hbn)
              have HPW_386 := hid (HPW_369.out.grow hbn)
              clear KX_353 KY_354 KZ_355 HB_356 HM_357 KMb_358 HN_359 KNa_360 KNt_361 HO_362 KOa_363 KOf_364 KPa_365 KPs_366 KQa_367 KQd_368 HPW_369 hbn HRS HOO hv1s
              go_wp2
              refine hR' _ _ ⟨⟨v2, KX_370.out, KZ_372.out⟩, rfl⟩ ?_
              clear hR' hO R'
              repeat (refine wpMix2_q rfl rfl ?_; go_big_quiet_step (fail); refine wpQuiet_nil ?_)
              obtain ⟨g0, gf0, g1, gf1, g2, gf2, g3, gf3, g4, gf4, g5, gf5, g6, gf6, g7, gf7⟩ := fcl8 KQd_385.out
              obtain ⟨u40_1468, hu40_1468, a1, a2, a3, a4⟩ := put_mem KQa_384.out (.slice wax Mo.W.length wcx) (.slice lax Mo.L.length lcx) (.bool Mo.F)
              obtain ⟨z0, zf0, z1, zf1, z2, zf2⟩ := fcl3 KQa_384.out
              have E41_1468 := hid hu40_1468
              have KX_387 := hid (a2 X _ (by omega) KX_370.out)
              have KY_388 := hid (a2 Y _ (by omega) KY_371.out)
              have KZ_389 := hid (a2 Z _ (by omega) KZ_372.out)
              have HB_390 := hid (a3 _ _ (by omega) HB_373.out)
              have HM_391 := hid (a4 _ _ _ _ _ _ HM_374.out)
              have KMb_392 := hid (a2 Mb _ (by omega) KMb_375.out)
              have HN_393 := hid (a4 _ _ _ _ _ _ HN_376.out)
              have KNa_394 := hid (a2 Na _ (by omega) KNa_377.out)
              have KNt_395 := hid (a2 Nt _ (by omega) KNt_378.out)
              have HO_396 := hid (a4 _ _ _ _ _ _ HO_379.out)
              have KOa_397 := hid (a2 Oa _ (by omega) KOa_380.out)
              have KOf_398 := hid (a2 Of _ (by omega) KOf_381.out)
              have KPa_399 := hid (a2 Pa _ (by omega) KPa_382.out)
              have KPs_400 := hid (a2 Ps _ (by omega) KPs_383.out)
              have KQa_401 := hid (a1)
              have KQd_402 := hid (a2 Qd _ (by omega) KQd_385.out)
              have HPW_403 := hid (HPW_386.out.keep (by omega) a2)
              have HQW_404 := hid (HQW.out.keep (by omega) a2)
              clear KX_370 KY_371 KZ_372 HB_373 HM_374 KMb_375 HN_376 KNa_377 KNt_378 HO_379 KOa_380 KOf_381 KPa_382 KPs_383 KQa_384 KQd_385 HPW_386 HQW hu40_1468 a1 a2 a3 a4
              refine wpMix2_h rfl fun R' hR' hO => ?_
              go_wp2
              rw [← E41_1468.out]
              refine hR' _ _ ⟨⟨u40_1468, KX_387.out, KZ_389.out⟩, rfl⟩ ?_
              clear hR' hO R' z0 z1 z2 zf0 zf1 zf2 g0 g1 g2 g3 g4 g5 g6 g7 gf0 gf1 gf2 gf3 gf4 gf5 gf6 gf7
              obtain ⟨u42_1495, hu42_1495, a1, a2, a3, a4, a5⟩ := putM8 KQd_402.out (.int .i64 dn.ph) (.bool dn.cuts) (.int .u64 ((dn.link : Nat) : Int)) (.int .u64 ((dn.at_ : Nat) : Int)) (.int .u64 ((dn.key : Nat) : Int)) (.int .u64 ((dn.val : Nat) : Int)) (.int .u64 ((dn.hash : Nat) : Int)) (.int .u64 ((dn.next : Nat) : Int))
              obtain ⟨z0, zf0, z1, zf1, z2, zf2, z3, zf3, z4, zf4, z5, zf5, z6, zf6, z7, zf7⟩ := fcl8 KQd_402.out
              have E43_1495 := hid hu42_1495
              have KX_405 := hid (a2 X _ (by omega) KX_387.out)
              have KY_406 := hid (a2 Y _ (by omega) KY_388.out)
              have KZ_407 := hid (a2 Z _ (by omega) KZ_389.out)
              have HB_408 := hid (a3 _ _ (by omega) HB_390.out)
              have HM_409 := hid (a4 _ _ _ _ _ _ (by decide) (by decide) HM_391.out)
              have KMb_410 := hid (a2 Mb _ (by omega) KMb_392.out)
              have HN_411 := hid (a4 _ _ _ _ _ _ (by decide) (by decide) HN_393.out)
              have KNa_412 := hid (a2 Na _ (by omega) KNa_394.out)
              have KNt_413 := hid (a2 Nt _ (by omega) KNt_395.out)
              have HO_414 := hid (a4 _ _ _ _ _ _ (by decide) (by decide) HO_396.out)
              have KOa_415 := hid (a2 Oa _ (by omega) KOa_397.out)
              have KOf_416 := hid (a2 Of _ (by omega) KOf_398.out)
              have KPa_417 := hid (a2 Pa _ (by omega) KPa_399.out)
              have KPs_418 := hid (a2 Ps _ (by omega) KPs_400.out)
              have KQa_419 := hid (a2 Qa _ (by omega) KQa_401.out)
              have KQd_420 := hid (a1)
              have HPW_421 := hid (HPW_403.out.keep (by omega) a2)
              have HQW_422 := hid (HQW_404.out.keep (by omega) a2)
              clear KX_387 KY_388 KZ_389 HB_390 HM_391 KMb_392 HN_393 KNa_394 KNt_395 HO_396 KOa_397 KOf_398 KPa_399 KPs_400 KQa_401 KQd_402 HPW_403 HQW_404 hu42_1495 a1 a2 a3 a4 a5
              refine wpMix2_h rfl fun R' hR' hO => ?_
              go_wp2
              rw [← E43_1495.out]
              refine hR' _ _ ⟨⟨u42_1495, KX_405.out, KZ_407.out⟩, rfl⟩ ?_
              clear hR' hO R' z0 z1 z2 z3 z4 z5 z6 z7 zf0 zf1 zf2 zf3 zf4 zf5 zf6 zf7
              refine wpMix2_done ?_
              simp only [List.drop_succ_cons, List.drop_nil]
              clear r0 r1 r2 p0 p1 p2 p3 p4 p5 p6 p7 HD HSE
              go_wp2
              go_meet
              exact ⟨rfl, rfl, hid ⟨waw, wcw, law, lcw, wax, wcx, lax, lcx, KX_405.out, KMb_410.out, HB_408.out, HM_409.out, KNa_412.out, KNt_413.out, HN_411.out, KOa_415.out, KOf_416.out, HO_414.out, KPa_417.out, KPs_418.out, HPW_421.out, KQa_419.out, KQd_420.out, HQW_422.out⟩⟩
  case rest =>
    obtain ⟨rfl, rfl, hcc⟩ := hcut
    obtain ⟨W8, hW8⟩ : ∃ W, W = wc := ⟨_, rfl⟩
    subst hW8
    obtain ⟨waw, wcw, law, lcw, wax, wcx, lax, lcx, hcl⟩ := hcc.out
    clear hcc
    clear KX_238 KY_239 KZ_240 HB_241 HM_242 KMb_243 HN_244 KNa_245 KNt_246 HO_247 KOa_248 KOf_249 KPa_250 KPs_251 KQa_252 KQd_253
    obtain ⟨fKX, fKMb, fHB, fHM, fKNa, fKNt, fHN, fKOa, fKOf, fHO, fKPa, fKPs, fHPW, fKQa, fKQd, fHQW⟩ := hcl
    have KX := hid fKX
    have KMb := hid fKMb
    have HB := hid fHB
    have HM := hid fHM
    have KNa := hid fKNa
    have KNt := hid fKNt
    have HN := hid fHN
    have KOa := hid fKOa
    have KOf := hid fKOf
    have HO := hid fHO
    have KPa := hid fKPa
    have KPs := hid fKPs
    have HPW := hid fHPW
    have KQa := hid fKQa
    have KQd := hid fKQd
    have HQW := hid fHQW
    clear fKX fKMb fHB fHM fKNa fKNt fHN fKOa fKOf fHO fKPa fKPs fHPW fKQa fKQd fHQW
    have hsm1 := RefSame_any Mn Mn wan lan waw law wcn lcn wcw lcw W8 HN.out.memL HPW.out.mem
    rw [sameM_self] at hsm1
    have HS1 := hid hsm1
    unfold memV at HS1
    have HS2 : Hid (∀ W, Below W8.heap.size W8 W → _) := hid (fun W hb => RefSame_any Mo Mo wao lao wax lax wco lco wcx lcx W (HO.out.memL.grow hb) (HQW.out.mem.grow hb))
    rw [sameM_self] at HS2
    unfold memV at HS2
    clear hsm1
    have hq1 := HPW.out.mem.w.len
    have hq2 := HPW.out.mem.l.len
    have hq3 := HQW.out.mem.w.len
    have hq4 := HQW.out.mem.l.len
    have tqa : (((cn : Nat) : Int) != ((cn : Nat) : Int)) = false := by simp
    have tqb : (((co : Nat) : Int) != ((co : Nat) : Int)) = false := by simp
    have hok1 : sn.Ok := by have := sseekP_ok HWK.out HSK.out; rw [Hcn.out] at this; exact this
    have hok2 : dn.Ok := by have := seditP_ok HWK.out HED.out; rw [Hco.out] at this; exact this
    have heq1 := sk_eq sn sn hok1 hok1
    rw [decide_eq_true rfl] at heq1
    have heq2 := ed_eq dn dn hok2 hok2
    rw [decide_eq_true rfl] at heq2
    clear hok1 hok2
    obtain ⟨a0, a1, a2, a3, a4, a5, a6⟩ := ncl7 KNt.out
    obtain ⟨b0, b1, b2, b3, b4, b5, b6⟩ := ncl7 KPs.out
    obtain ⟨i0, i1, i2, i3, i4, i5, i6, i7⟩ := ncl8 KOf.out
    obtain ⟨j0, j1, j2, j3, j4, j5, j6, j7⟩ := ncl8 KQd.out
    obtain ⟨k0, k1, k2⟩ := cells3 KNa.out
    obtain ⟨l0, l1, l2⟩ := cells3 KPa.out
    have HB8 := hid HB.out
    clear KNt KPs KOf KQd KPa HPW HQW HB8
    go_wp2_with fail
    refine HS1.out.mono ?_
    rintro e W9 ⟨rfl, hbn⟩
    have HB9 := hid hbn
    have KX_254 := hid (keep_laid KX.out hbn)
    have KMb_255 := hid (keep_laid KMb.out hbn)
    have HB_256 := hid (HB.out.trans (hbn.mono HB.out.size))
    have HM_257 := hid (HM.out.grow hbn)
    have KNa_258 := hid (keep_laid KNa.out hbn)
    have HN_259 := hid (HN.out.grow hbn)
    have KOa_260 := hid (keep_laid KOa.out hbn)
    have HO_261 := hid (HO.out.grow hbn)
    have KQa_262 := hid (keep_laid KQa.out hbn)
    clear KX KMb HB HM KNa HN KOa HO KQa hbn HS1 k0 k1 k2 l0 l1 l2 a0 a1 a2 a3 a4 a5 a6 b0 b1 b2 b3 b4 b5 b6 i0 i1 i2 i3 i4 i5 i6 i7 j0 j1 j2 j3 j4 j5 j6 j7 heq1 heq2
    obtain ⟨k0, k1, k2⟩ := cells3 KOa_260.out
    obtain ⟨l0, l1, l2⟩ := cells3 KQa_262.out
    go_wp2_with fail
    refine (HS2.out W9 HB9.out).mono ?_
    rintro e W10 ⟨rfl, hbn⟩
    have KX_263 := hid (keep_laid KX_254.out hbn)
    have KMb_264 := hid (keep_laid KMb_255.out hbn)
    have HB_265 := hid (HB_256.out.trans (hbn.mono HB_256.out.size))
    have HM_266 := hid (HM_257.out.grow hbn)
    have KNa_267 := hid (keep_laid KNa_258.out hbn)
    have HN_268 := hid (HN_259.out.grow hbn)
    have KOa_269 := hid (keep_laid KOa_260.out hbn)
    have HO_270 := hid (HO_261.out.grow hbn)
    have KQa_271 := hid (keep_laid KQa_262.out hbn)
    clear KX_254 KMb_255 HB_256 HM_257 KNa_258 HN_259 KOa_260 HO_261 KQa_262 hbn HS2 HB9 k0 k1 k2 l0 l1 l2 tqa tqb
    obtain ⟨nw, hnw⟩ : ∃ x, Mn.W.length = x := ⟨_, rfl⟩
    obtain ⟨nl, hnl⟩ : ∃ x, Mo.L.length = x := ⟨_, rfl⟩
    have hNA := KNa_267.out
    have hOA := KOa_269.out
    have hRW := HN_268.out.w
    have hRL := HO_270.out.l
    rw [hnw] at hNA hRW hbnw
    rw [hnl] at hOA hRL hbol
    have HSP : Hid (Spl V X Mb Na Oa #[.slice wa M.W.length wc0M, .slice la M.L.length lc, .bool M.F] #[.slice wa0 Mk.W.length wc0, .slice la0 Mk.L.length lc0, .bool Mk.F] #[.slice wan nw wcn, .slice lan Mn.L.length lcn, .bool Mn.F] #[.slice wao Mo.W.length wco, .slice lao nl lco, .bool Mo.F] wa0 wc0 la0 lc0 Mk bo lao nl lco W10) := hid ⟨KX_263.out, KMb_264.out, hNA, hOA, HM_266.out, ⟨_, hRL, fun v hv => by obtain ⟨x, -, rfl⟩ := List.mem_map.1 hv; exact ⟨_, rfl⟩⟩, HB_265.out⟩
    have HWI : Hid (∀ v ∈ wcells Mn.W, ∃ z : Int, v = .int .u64 z) := hid (fun v hv => by obtain ⟨x, -, rfl⟩ := List.mem_map.1 hv; exact ⟨_, rfl⟩)
    have HRW := hid hRW
    have n0 := (cells3 hNA).1
    clear hNA hOA hRW hRL hnw hnl
    clear KX_263 KMb_264 HB_265 HM_266 KNa_267 HN_268 KOa_269 HO_270 KQa_271
    go_wp2
    go_loopg [157] nw (fun g t157 wr => ∃ (k : Nat) (cs : List Value), g + k = nw ∧ t157 = .int .i64 ((k : Nat) : Int) ∧ Hid (wr.ownsRow bn 26 1 (.slice wan nw wcn) nw cs) ∧ Hid (∀ v ∈ cs, ∃ z : Int, v = .int .u64 z) ∧ Hid (Spl V X Mb Na Oa #[.slice wa M.W.length wc0M, .slice la M.L.length lc, .bool M.F] #[.slice wa0 Mk.W.length wc0, .slice la0 Mk.L.length lc0, .bool Mk.F] #[.slice wan nw wcn, .slice lan Mn.L.length lcn, .bool Mn.F] #[.slice wao Mo.W.length wco, .slice lao nl lco, .bool Mo.F] wa0 wc0 la0 lc0 Mk bo lao nl lco wr))
    case atStart => exact ⟨0, _, rfl, rfl, HRW, HWI, HSP⟩
    case round =>
      obtain ⟨k, cs, hk, rfl, hW, hcs, hS⟩ := hrel
      have HK := hid hk
      clear hk HRW HWI HSP n0
      by_cases hlt : k < nw
      · skip
        obtain ⟨gw, rfl⟩ := row_addr hW.out (by omega)
        have hcl : cs.length = nw * 1 := hW.out.1
        have hck := hW.out.cellAt k (by omega)
        rw [List.getElem?_eq_getElem (by omega)] at hck
        obtain ⟨z, hz⟩ := hcs.out _ (List.getElem_mem (by omega : k < cs.length))
        rw [hz] at hck
        have hfk := hW.out.frozenAt k
        have x0 := (cells3 hS.out.ba).1
        obtain ⟨curw, hcw⟩ := own_type hW.out gw rfl
        have hgb := (hW.out.lt gw rfl).1
        have HST := hid fun y : Int => (hW.out.stored k (.int .u64 y)).1
        have HCS := hid fun y : Int => show ∀ v ∈ cs.set k (.int .u64 y), ∃ z : Int, v = .int .u64 z from fun v hv => by
          rcases List.mem_or_eq_of_mem_set hv with hv | rfl
          · exact hcs.out v hv
          · exact ⟨y, rfl⟩
        have HSS := hid fun y : Int => hS.out.setW hcw (by have := HVbn.out; omega) (fun k hk => by have := HLMbn.out k hk; omega) k (.int .u64 y)
        clear hcl hz hW hcs hS hcw hgb
        go_wp2
        go_roundg (gk - 1)
        case measure => have := HK.out; omega
        case rel => exact ⟨k + 1, _, by have := HK.out; omega, by go_num, hid (HST.out _), hid (HCS.out _), hid (HSS.out _)⟩
      · have x1 := (cells3 hS.out.bc).2.1
        clear HK hW hcs
        go_wp2
        go_loopg [171] nl (fun g t171 wr => ∃ k : Nat, g + k = nl ∧ t171 = .int .i64 ((k : Nat) : Int) ∧ Hid (Spl V X Mb Na Oa #[.slice wa M.W.length wc0M, .slice la M.L.length lc, .bool M.F] #[.slice wa0 Mk.W.length wc0, .slice la0 Mk.L.length lc0, .bool Mk.F] #[.slice wan nw wcn, .slice lan Mn.L.length lcn, .bool Mn.F] #[.slice wao Mo.W.length wco, .slice lao nl lco, .bool Mo.F] wa0 wc0 la0 lc0 Mk bo lao nl lco wr))
        case atStart => exact ⟨0, rfl, rfl, hS⟩
        case round =>
          obtain ⟨k, hk, rfl, hS⟩ := hrel
          have HK := hid hk
          clear hk x1
          by_cases hlt : k < nl
          · skip
            obtain ⟨cs, hL, hcs⟩ := hS.out.lv
            obtain ⟨gl, rfl⟩ := row_addr hL (by omega)
            have hcl : cs.length = nl * 1 := hL.1
            obtain ⟨z, hz⟩ := hcs _ (List.getElem_mem (by omega : k < cs.length))
            have hck : ∀ x : Ext wr, x.v.cell? ⟨gl, k, none⟩ = some (.bool z) := fun x => by
              rw [(own_grow hL x.b).cellAt k (by omega), List.getElem?_eq_getElem (by omega), hz]
            have x1 : ∀ x : Ext wr, x.v.cell? ⟨Oa, 1, none⟩ = some (.slice (some ⟨gl, 0, none⟩) nl lco) := fun x => (cells3 (keep_laid hS.out.bc x.b)).2.1
            obtain ⟨wD, hwD⟩ : ∃ wD, wr.drew = wD := ⟨_, rfl⟩
            have hbd : Below wr.heap.size wr wD := by rw [← hwD]; exact (Below.refl _ _).drew
            have hLd := own_grow hL hbd
            have hcd : wD.cell? ⟨gl, k, none⟩ = some (.bool z) := hck ⟨wD, hbd⟩
            have hfk := hLd.frozenAt k
            have hgb := (hLd.lt gl rfl).1
            have HSS := hid fun y : Bool => (hS.out.grow hbd).setL (by have := HVbo.out; omega) (fun k hk => by have := HLMbo.out k hk; omega) k hlt y
            clear hcl hz hL hcs hS hLd hbd hgb
            go_upto_region 30 with (fail)
            refine wp_region_mix2 (fun W => ∃ z : Ext wr, W = z.v) 10 (.q 0 (.q 1 (.q 2 (.q 3 (.q 4 (.q 5 (.q 6 (.q 7 (.q 8 (.q 9 (.done))))))))))) (by kernel_rfl) (by kernel_rfl) ⟨⟨_, (Below.refl _ _).drew⟩, rfl⟩ ?_
            repeat (refine wpMix2_q rfl rfl ?_; go_big_quiet_step (fail); refine wpQuiet_nil ?_)
            refine wpMix2_done ?_
            simp only [List.drop_succ_cons, List.drop_zero]
            rw [hwD]
            go_wp2
            go_roundg (gk - 1)
            case measure => have := HK.out; omega
            case rel => exact ⟨k + 1, by have := HK.out; omega, by go_num, hid (HSS.out _)⟩
          · skip
            have HX := hid hS.out.bx
            have HMB := hid hS.out.bm
            have HM := hid hS.out.mem
            have HB := hid hS.out.below
            clear hS HK
            go_upto_region 32 with (fail)
            obtain ⟨D34_1697, hD⟩ : ∃ DX, (wr).drew = DX := ⟨_, rfl⟩
            have hbD : Below wr.heap.size wr D34_1697 := by rw [← hD]; exact (Below.refl _ _).drew
            have HD := hid hD
            clear hD
            have HX_272 := hid (keep_laid HX.out hbD)
            have HMB_273 := hid (keep_laid HMB.out hbD)
            have HM_274 := hid (HM.out.grow hbD)
            have HB_275 := hid (HB.out.trans (hbD.mono HB.out.size))
            clear HX HMB HM HB hbD
            have r0 : ∀ z : Ext D34_1697, z.v.cell? ⟨Mb, 0, none⟩ = some (.slice wa0 Mk.W.length wc0) := fun z => cell_laid (keep_laid HMB_273.out z.b) rfl
            have r1 : ∀ z : Ext D34_1697, z.v.cell? ⟨Mb, 1, none⟩ = some (.slice la0 Mk.L.length lc0) := fun z => cell_laid (keep_laid HMB_273.out z.b) rfl
            have r2 : ∀ z : Ext D34_1697, z.v.cell? ⟨Mb, 2, none⟩ = some (.bool Mk.F) := fun z => cell_laid (keep_laid HMB_273.out z.b) rfl
            have p0 : ∀ z : Ext D34_1697, z.v.cell? ⟨X, 0, none⟩ = some (.slice wa M.W.length wc0M) := fun z => cell_laid (keep_laid HX_272.out z.b) rfl
            have p1 : ∀ z : Ext D34_1697, z.v.cell? ⟨X, 1, none⟩ = some (.slice la M.L.length lc) := fun z => cell_laid (keep_laid HX_272.out z.b) rfl
            have p2 : ∀ z : Ext D34_1697, z.v.cell? ⟨X, 2, none⟩ = some (.bool M.F) := fun z => cell_laid (keep_laid HX_272.out z.b) rfl
            refine wp_region_mix2 (fun W => ∃ z : Ext D34_1697, W = z.v) 5 (.q 0 (.q 1 (.h 2 (.h 3 (.q 4 .done))))) (by kernel_rfl) (by kernel_rfl) (by rw [HD.out]; exact ⟨⟨D34_1697, Below.refl _ _⟩, rfl⟩) ?_
            rw [HD.out]
            repeat (refine wpMix2_q rfl rfl ?_; go_big_quiet_step (fail); refine wpQuiet_nil ?_)
            refine wpMix2_h rfl fun R' hR' hO => ?_
            go_wp2_with fail
            refine (HOWN.out D34_1697 HB_275.out).mono ?_
            rintro e v1 ⟨wao, wco, lao, lco, rfl, hoo, hbo⟩
            have hsm := RefSame_any Mk Mk wa0 la0 wao lao wc0 lc0 wco lco v1 (HM_274.out.memL.grow hbo) hoo.memL
            rw [sameM_self] at hsm
            have HSM := hid hsm
            unfold memV at HSM
            have HBO := hid hbo
            clear hoo hbo hsm
            unfold memV
            go_wp2
            refine hR' _ _ ⟨⟨v1, HBO.out⟩, rfl⟩ ?_
            clear hR' hO R'
            refine wpMix2_h rfl fun R' hR' hO => ?_
            go_wp2_with fail
            refine HSM.out.mono ?_
            rintro e v2 ⟨rfl, hb2⟩
            have HB2 := hid (step HBO.out hb2)
            clear hb2
            go_wp2
            refine hR' _ _ ⟨⟨v2, HB2.out⟩, rfl⟩ ?_
            clear hR' hO R'
            repeat (refine wpMix2_q rfl rfl ?_; go_big_quiet_step (fail); refine wpQuiet_nil ?_)
            refine wpMix2_done ?_
            simp only [List.drop_succ_cons, List.drop_nil]
            go_wp2
            go_ret
            exact ⟨rfl, HB_275.out.trans (HB2.out.mono HB_275.out.size)⟩
end Go.Proofs.Ytdkkjcflcegeoaa
