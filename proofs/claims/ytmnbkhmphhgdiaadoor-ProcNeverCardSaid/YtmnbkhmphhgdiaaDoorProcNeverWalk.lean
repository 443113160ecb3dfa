/- ProcNever: the walk (printed by gen_prw3.py). -/
import Derived.Test.YtmnbkhmphhgdiaaDoorPrPlain5
import Derived.Test.YtmnbkhmphhgdiaaDoorOpenPr
import Derived.Test.YtmnbkhmphhgdiaaDoorGuard
import Derived.Maps.OwnOps
namespace Go.Proofs.YtmnbkhmphhgdiaaDoor
open Go.RowKit Go.Shelf
open Go.Proofs
set_option linter.unusedVariables false
attribute [local go_sem] Oper.semAt_some
theorem ncl3 {W : World} {Y : Nat} {v0 v1 v2 : Value} {T : TypeId} (h : W.heap[Y]? = some (.cells #[v0, v1, v2] T (0, 0))) : W.cell? ⟨Y, 0, none⟩ = some v0 ∧ W.cell? ⟨Y, 1, none⟩ = some v1 ∧ W.cell? ⟨Y, 2, none⟩ = some v2 := ⟨cell_laid (i := 0) h rfl, cell_laid (i := 1) h rfl, cell_laid (i := 2) h rfl⟩
theorem fcl3 {W : World} {Y : Nat} {v0 v1 v2 : Value} {T : TypeId} (h : W.heap[Y]? = some (.cells #[v0, v1, v2] T (0, 0))) : W.cell? ⟨Y, 0, none⟩ = some v0 ∧ W.frozen? ⟨Y, 0, none⟩ = false ∧ W.cell? ⟨Y, 1, none⟩ = some v1 ∧ W.frozen? ⟨Y, 1, none⟩ = false ∧ W.cell? ⟨Y, 2, none⟩ = some v2 ∧ W.frozen? ⟨Y, 2, none⟩ = false := ⟨cell_laid (i := 0) h rfl, free_laid (i := 0) h, cell_laid (i := 1) h rfl, free_laid (i := 1) h, cell_laid (i := 2) h rfl, free_laid (i := 2) h⟩
theorem putN3 {V : World} {Y : Nat} {z0 z1 z2 : Value} {T : TypeId} (h : V.heap[Y]? = some (.cells #[z0, z1, z2] T (0, 0))) (v0 v1 v2 : Value) :
    ∃ V', V' = (((V.setCell ⟨Y, 0, none⟩ v0).setCell ⟨Y, 1, none⟩ v1).setCell ⟨Y, 2, none⟩ v2) ∧ V'.heap[Y]? = some (.cells #[v0, v1, v2] T (0, 0)) ∧ (∀ (k : Nat) (o : Obj), k ≠ Y → V.heap[k]? = some o → V'.heap[k]? = some o) ∧ (∀ (B : Nat) (w : World), B ≤ Y → Below B w V → Below B w V') ∧ V.grownBy V' (some Y) := by
  obtain ⟨V0, hV0⟩ : ∃ W, V.setCell ⟨Y, 0, none⟩ v0 = W := ⟨_, rfl⟩
  have h0 : V0.heap[Y]? = some (.cells #[v0, z1, z2] T (0, 0)) := by rw [← hV0]; exact set_laid (i := 0) h v0
  obtain ⟨V1, hV1⟩ : ∃ W, V0.setCell ⟨Y, 1, none⟩ v1 = W := ⟨_, rfl⟩
  have h1 : V1.heap[Y]? = some (.cells #[v0, v1, z2] T (0, 0)) := by rw [← hV1]; exact set_laid (i := 1) h0 v1
  obtain ⟨V2, hV2⟩ : ∃ W, V1.setCell ⟨Y, 2, none⟩ v2 = W := ⟨_, rfl⟩
  have h2 : V2.heap[Y]? = some (.cells #[v0, v1, v2] T (0, 0)) := by rw [← hV2]; exact set_laid (i := 2) h1 v2
  refine ⟨V2, by rw [hV0, hV1, hV2], h2, fun k o hk ho => ?_, fun B w hB hb => ?_, ?_⟩
  · rw [← hV2, ← hV1, ← hV0]; exact (other_laid (other_laid (other_laid ho hk _) hk _) hk _)
  · rw [← hV2, ← hV1, ← hV0]; exact (((hb.setCell (p := ⟨Y, 0, none⟩) hB _).setCell (p := ⟨Y, 1, none⟩) hB _).setCell (p := ⟨Y, 2, none⟩) hB _)
  · rw [← hV2, ← hV1, ← hV0]; exact (grownBy_trans (grownBy_trans (grownBy_setCell _ Y 0 _) (grownBy_setCell _ Y 1 _)) (grownBy_setCell _ Y 2 _))
theorem clcells_at {xs : List Cl} {k : Nat} {t : Cl} (h : xs[k]? = some t) : (clcells xs)[k * 3]? = some (.int .i64 t.1) ∧ (clcells xs)[k * 3 + 1]? = some (.int .u64 ((t.2.1 : Nat) : Int)) ∧ (clcells xs)[k * 3 + 2]? = some (.int .u64 ((t.2.2 : Nat) : Int)) :=
  ⟨flat_at cl3 3 (fun _ => rfl) xs k 0 t h (by decide), flat_at cl3 3 (fun _ => rfl) xs k 1 t h (by decide), flat_at cl3 3 (fun _ => rfl) xs k 2 t h (by decide)⟩
theorem Leads.cl {w : World} {a : Option Addr} {n cap k : Nat} {xs : List Cl} {t : Cl} (h : Leads w a n cap (clcells xs)) (hk : k < n) (hv : xs[k]? = some t) : ∃ b off, a = some ⟨b, off, none⟩ ∧ ∀ w', Below w.heap.size w w' →
    w'.cell? ⟨b, off + k * 3, none⟩ = some (.int .i64 t.1) ∧ w'.cell? ⟨b, off + k * 3 + 1, none⟩ = some (.int .u64 ((t.2.1 : Nat) : Int)) ∧ w'.cell? ⟨b, off + k * 3 + 2, none⟩ = some (.int .u64 ((t.2.2 : Nat) : Int)) := by
  obtain ⟨_, _, ⟨h, _⟩ | ⟨b, off, rfl, h3, h4⟩⟩ := h
  · omega
  · obtain ⟨q0, q1, q2⟩ := clcells_at hv
    exact ⟨b, off, rfl, fun w' hb => ⟨(hb.cell (p := ⟨b, off + k * 3, none⟩) h3).trans (h4 _ _ q0), (hb.cell (p := ⟨b, off + k * 3 + 1, none⟩) h3).trans (h4 (k * 3 + 1) _ q1), (hb.cell (p := ⟨b, off + k * 3 + 2, none⟩) h3).trans (h4 (k * 3 + 2) _ q2)⟩⟩
theorem wp_putG {w : World} {ops : Array Oper} {rest : List Oper} {o : Oper} {a : Act} {Q : Exit → Act → World → Prop} (hg : o.guard = none) (m x v : Operand) (t : TypeId) (hop : o.op = Op.mapUpdate t m x v) (ht : Tryd.prog.underlying t = some (.map 29 3))
    (b k u : Nat) (l : List (Nat × Nat)) (hm : a.eval m = .map (some b)) (hown : IdsI w b l) (hl : l.length ≤ 1000) (hx : a.eval x = .int .u64 ((k : Nat) : Int)) (hv : a.eval v = .int .i64 ((u : Nat) : Int)) (hk : k < 18446744073709551616) (hu : u < 1000)
    (h : ∀ w', IdsI w' b (l ++ [(k, u)]) → w.grownBy w' (some b) → wpList Tryd.prog ops Q rest (a.put o.dst undef) w') : wpList Tryd.prog ops Q (o :: rest) a w := by
  refine wpList_mapUpdate_own w hg m x v t hop 29 3 keyedU ht (plainElem Tryd.prog 3) b l.length (mapDI l) hm hown (by unfold maxLen; omega) _ _ _ hx hv (keyU hk) _ [] (plainElem_int Tryd.underlying3 (wfI hu)) ?_
  intro w' h1 h2
  refine h w' ?_ h2
  unfold IdsI
  rw [mapD_snocI, List.length_append]
  exact h1
theorem IdsI.far {w w' : World} {b M : Nat} {l : List (Nat × Nat)} (h : IdsI w M l) (k : ∀ (k : Nat) (o : Obj), k ≠ b → w.heap[k]? = some o → w'.heap[k]? = some o) (hb : M ≠ b) : IdsI w' M l := by
  obtain ⟨es, clock, hb', F, hs, hD⟩ := h
  exact ⟨es, clock, k M _ hb hb', F, hs, hD⟩
theorem Glob.grown {w w' : World} {b : Nat} (h : Glob w) (g : w.grownBy w' (some b)) (hb : 1 ≤ b) : Glob w' :=
  h.far (fun k o hk ho => keep_grown ho g (fun e => hk (Option.some.inj e).symm)) hb
theorem IdsI.ne {w : World} {M b : Nat} {l : List (Nat × Nat)} {cs : Array Value} {T : TypeId} (h : IdsI w M l) (hb : w.heap[b]? = some (.cells cs T (0, 0))) : M ≠ b := by
  obtain ⟨es, clock, hb', F, hs, hD⟩ := h
  rintro rfl
  rw [hb'] at hb
  cases hb
theorem IdsI.neO {w : World} {M base n size : Nat} {l : List (Nat × Nat)} {e : TypeId} {v : Value} {xs : List Value} (h : IdsI w M l) (ho : w.ownsRow base e size v n xs) : v.ownBlock ≠ some M := by
  intro hk
  obtain ⟨cur, hc⟩ := own_type ho M hk
  exact h.ne hc rfl
set_option maxRecDepth 100000 in
set_option maxHeartbeats 64000000 in
theorem procNever_walk (n c : Nat) (a : Option Addr) (G : Nat → Int) (L : List Pr) (len cap : Nat) (al : Option Addr) (cs : List Cl) (V : World) (hg : Glob V) (hl : Leads V a n c (prcells L)) (hn : L.length = n) (hG : GOk G) (hL : PrsOk L) (hcl : Leads V al len cap (clcells cs)) (hcn : cs.length = len) (hco : ∀ m ∈ cs, m.Ok) :
    Calls Tryd.prog 6 #[.agg #[.int .i64 (G 0), .int .i64 (G 1), .int .i64 (G 2), .int .i64 (G 3), .int .i64 (G 4), .int .i64 (G 5), .int .i64 (G 6), .int .i64 (G 7), .int .i64 (G 8), .int .i64 (G 9), .int .i64 (G 10), .int .i64 (G 11), .int .i64 (G 12), .int .i64 (G 13), .int .i64 (G 14), .int .i64 (G 15), .slice a n c], .slice al len cap] V (Ret (.bool true) V) := by
  obtain ⟨V1, hV1, hbV1, hsV1, hlV1⟩ := laid V #[.int .i64 (G 0), .int .i64 (G 1), .int .i64 (G 2), .int .i64 (G 3), .int .i64 (G 4), .int .i64 (G 5), .int .i64 (G 6), .int .i64 (G 7), .int .i64 (G 8), .int .i64 (G 9), .int .i64 (G 10), .int .i64 (G 11), .int .i64 (G 12), .int .i64 (G 13), .int .i64 (G 14), .int .i64 (G 15), .slice a n c] 25
  obtain ⟨X2, hX2⟩ : ∃ X, V.heap.size = X := ⟨_, rfl⟩
  rw [hX2] at hlV1
  have KX2 := hid hlV1
  have HB := hid hbV1
  have hVX2 : V.heap.size ≤ X2 := by omega
  clear hbV1 hsV1 hlV1
  have hv1 := hg.one
  have HGL := hid (hg.grow HB.out)
  have HL := hid (hl.grow HB.out)
  have HGG := hid hG
  obtain ⟨LL, hLL⟩ : ∃ l, L.take 20 = l := ⟨_, rfl⟩
  have hPL : PrsOk LL := by rw [← hLL]; exact fun x hx => hL x (List.mem_of_mem_take hx)
  have HPL := hid hPL
  have HLL := hid hLL
  have HLN := hid hn
  obtain ⟨q, hq⟩ : ∃ q, LL.length = q := ⟨_, rfl⟩
  have hq20 : q ≤ 20 := by rw [← hq, ← hLL, List.length_take]; omega
  have HQ := hid hq
  have HWK := hid (Wakes_any V1 HGL.out)
  have HCL := hid hcl
  have HCN := hid hcn
  have HCO := hid hco
  have hcll := hcl.len
  have hmm := @run_makeMap Tryd.prog
  clear hg hl hn hG hL hLL hPL hq hcl hcn hco
  go_enter Tryd.func6, Tryd.ntmps6
  go_wp2_with fail
  refine (HWK.out).mono ?_
  rintro e w1_77 ⟨rfl, hbn⟩
  have KX2_1 := hid (keep_laid KX2.out hbn)
  have HB_2 := hid (HB.out.trans (hbn.mono HB.out.size))
  have HGL_3 := hid (HGL.out.grow hbn)
  have HL_4 := hid (HL.out.grow hbn)
  clear KX2 HB HGL HL hbn HWK hX2 hV1
  have HOWN := hid (Own_any n c a G L w1_77 HL_4.out HLN.out)
  rw [HLL.out] at HOWN
  unfold GivesPs at HOWN
  rw [HQ.out] at HOWN
  go_wp2_with (refine wp_loadW rfl 25 (.tmp 2) rfl X2 _ rfl _ KX2_1.out _ Tryd.underlying25 rfl (by kernel_rfl) ?_; intro v hv; subst hv)
  refine (HOWN.out).mono ?_
  rintro e w2_89 ⟨ap, cp, rfl, hrow, hbn⟩
  have hwV : V.heap.size ≤ w1_77.heap.size := HB_2.out.size
  have KX2_5 := hid (keep_laid KX2_1.out hbn)
  have HB_6 := hid (HB_2.out.trans (hbn.mono HB_2.out.size))
  have HGL_7 := hid (HGL_3.out.grow hbn)
  have HL_8 := hid (HL_4.out.grow hbn)
  clear KX2_1 HB_2 HGL_3 HL_4 hbn
  have HRP := hid (own_base hrow hwV)
  have hlp := (Leads.of_own1 hrow).len
  clear hrow hwV
  obtain ⟨w3_101, hw3_101, hbn, hsn, hln⟩ := laid w2_89 #[.int .i64 0, .int .i64 0, .int .i64 0, .int .i64 0, .int .i64 0, .int .i64 0, .int .i64 0, .int .i64 0, .int .i64 0, .int .i64 0, .int .i64 0, .int .i64 0, .int .i64 0, .int .i64 0, .int .i64 0, .int .i64 0, .slice none 0 0] 25
  obtain ⟨X5, hNMX5⟩ : ∃ X, w2_89.heap.size = X := ⟨_, rfl⟩
  rw [hNMX5] at hln
  have nX2X5 : X2 < X5 := by have := lt_laid KX2_5.out; omega
  have hVX5 : V.heap.size ≤ X5 := by have := HB_6.out.size; omega
  have KX2_9 := hid (keep_laid KX2_5.out hbn)
  have HB_10 := hid (HB_6.out.trans (hbn.mono HB_6.out.size))
  have HGL_11 := hid (HGL_7.out.grow hbn)
  have HL_12 := hid (HL_8.out.grow hbn)
  have HRP_13 := hid (own_grow HRP.out hbn)
  clear KX2_5 HB_6 HGL_7 HL_8 HRP hbn hsn
  have KX5_14 := hid (hln)
  clear hln
  clear HL_12
  clear KX2_9
  go_upto_region 4 with (refine wp_storeW rfl 25 (.tmp 5) (.tmp 20) rfl X5 _ _ rfl rfl _ KX5_14.out (by kernel_rfl) (by rfl) (by simp [Value.oneCell']) ?_; intro u4_116 a1 a2 a3 a4; have HA1 := hid a1; have HA2 := hid a2; have HA3 := hid a3; clear a1 a2 a3 a4)
  have HB_15 := hid (HA3.out _ _ (by omega) HB_10.out)
  have HGL_16 := hid (Glob.far HGL_11.out HA2.out (by omega))
  have HRP_17 := hid (own_keep HRP_13.out fun k o hk ho => HA2.out k o (fun e => own_neP HRP_13.out KX5_14.out (by decide) (by rw [← e]; exact hk)) ho)
  have KX5_18 := hid (HA1.out)
  clear HA1 HA2 HA3 HB_10 HGL_11 HRP_13 KX5_14 hNMX5 hw3_101
  have HCK := hid (Check_any q cp ap G LL u4_116 HGL_16.out (Leads.of_own1 HRP_17.out) HQ.out (by omega) HGG.out HPL.out)
  cases hok : okP G LL with
  | false =>
    as_aux_lemma =>
      have HOK := hid hok
      rw [hok, if_neg (by decide)] at HCK
      clear hok
      go_wp2_with (refine wp_loadW rfl 25 (.tmp 5) rfl X5 _ rfl _ KX5_18.out _ Tryd.underlying25 rfl (by kernel_rfl) ?_; intro v hv; subst hv)
      refine (HCK.out).mono ?_
      rintro e w5_129 ⟨rfl, hbn⟩
      have HB_19 := hid (HB_15.out.trans (hbn.mono HB_15.out.size))
      have HGL_20 := hid (HGL_16.out.grow hbn)
      have HRP_21 := hid (own_grow HRP_17.out hbn)
      have KX5_22 := hid (keep_laid KX5_18.out hbn)
      clear HB_15 HGL_16 HRP_17 KX5_18 hbn HCK
      have HSP := hid (Spawn_any q cp 1 ap G LL w5_129 HGL_20.out (Leads.of_own1 HRP_21.out) HQ.out (by omega) HGG.out HPL.out (by omega))
      rw [okRes_err _ HOK.out] at HSP
      unfold Gives3 at HSP
      dsimp only at HSP
      go_wp2_with (refine wp_loadW rfl 25 (.tmp 5) rfl X5 _ rfl _ KX5_22.out _ Tryd.underlying25 rfl (by kernel_rfl) ?_; intro v hv; subst hv)
      refine (HSP.out).mono ?_
      rintro e w6_141 ⟨hbn, rfl⟩
      have HB_23 := hid (HB_19.out.trans (hbn.mono HB_19.out.size))
      have HGL_24 := hid (HGL_20.out.grow hbn)
      have HRP_25 := hid (own_grow HRP_21.out hbn)
      have KX5_26 := hid (keep_laid KX5_22.out hbn)
      clear HB_19 HGL_20 HRP_21 KX5_22 hbn HSP
      obtain ⟨w7_149, hw7_149, hbn, hsn, hln⟩ := laid w6_141 #[.int .i64 0, .int .i64 0, .int .i64 0, .int .i64 0, .int .i64 0, .int .i64 0, .int .i64 0, .int .i64 0, .int .i64 0, .int .i64 0, .int .i64 0, .int .i64 0, .int .i64 0, .int .i64 0, .int .i64 0, .int .i64 0, .slice none 0 0] 25
      obtain ⟨X6, hNMX6⟩ : ∃ X, w6_141.heap.size = X := ⟨_, rfl⟩
      rw [hNMX6] at hln
      have nX5X6 : X5 < X6 := by have := lt_laid KX5_26.out; omega
      have hVX6 : V.heap.size ≤ X6 := by have := HB_23.out.size; omega
      have HB_27 := hid (HB_23.out.trans (hbn.mono HB_23.out.size))
      have HGL_28 := hid (HGL_24.out.grow hbn)
      have HRP_29 := hid (own_grow HRP_25.out hbn)
      have KX5_30 := hid (keep_laid KX5_26.out hbn)
      clear HB_23 HGL_24 HRP_25 KX5_26 hbn hsn
      have KX6_31 := hid (hln)
      clear hln
      go_upto_region 6 with (refine wp_storeW rfl 25 (.tmp 6) (.tmp 27) rfl X6 _ _ rfl rfl _ KX6_31.out (by kernel_rfl) (by rfl) (by simp [Value.oneCell']) ?_; intro u8_161 a1 a2 a3 a4; have HA1 := hid a1; have HA2 := hid a2; have HA3 := hid a3; clear a1 a2 a3 a4)
      have HB_32 := hid (HA3.out _ _ (by omega) HB_27.out)
      have HGL_33 := hid (Glob.far HGL_28.out HA2.out (by omega))
      have HRP_34 := hid (own_keep HRP_29.out fun k o hk ho => HA2.out k o (fun e => own_neP HRP_29.out KX6_31.out (by decide) (by rw [← e]; exact hk)) ho)
      have KX5_35 := hid (HA2.out X5 _ (by omega) KX5_30.out)
      have KX6_36 := hid (HA1.out)
      clear HA1 HA2 HA3 HB_27 HGL_28 HRP_29 KX5_30 KX6_31 hNMX6 hw7_149
      have HRU := hid (Runs_any q cp 1 ap G LL u8_161 HGL_33.out (Leads.of_own1 HRP_34.out) HQ.out (by omega) HGG.out HPL.out)
      rw [show runsP G LL 1 = false by unfold runsP; rw [HOK.out]; rfl] at HRU
      go_wp2_with (refine wp_loadG rfl 25 (.tmp 5) rfl X5 _ rfl _ KX5_35.out _ Tryd.underlying25 rfl (by kernel_rfl) ?_; intro v hv; subst hv)
      refine (HRU.out).mono ?_
      rintro e w9_170 ⟨rfl, hbn⟩
      have HB_37 := hid (HB_32.out.trans (hbn.mono HB_32.out.size))
      have HGL_38 := hid (HGL_33.out.grow hbn)
      have HRP_39 := hid (own_grow HRP_34.out hbn)
      have KX5_40 := hid (keep_laid KX5_35.out hbn)
      have KX6_41 := hid (keep_laid KX6_36.out hbn)
      clear HB_32 HGL_33 HRP_34 KX5_35 KX6_36 hbn HRU
      go_wp2
      go_ret
      exact ⟨rfl, HB_37.out⟩
  | true =>
    as_aux_lemma =>
      have HOK := hid ((okP_iff G LL).1 hok)
      have hq16 : q ≤ 16 := by rw [← HQ.out]; exact ok_len HOK.out
      rw [hok, if_pos rfl] at HCK
      clear hok
      go_wp2_with (refine wp_loadW rfl 25 (.tmp 5) rfl X5 _ rfl _ KX5_18.out _ Tryd.underlying25 rfl (by kernel_rfl) ?_; intro v hv; subst hv)
      refine (HCK.out).mono ?_
      rintro e w5_188 ⟨rfl, hbn⟩
      have HB_19 := hid (HB_15.out.trans (hbn.mono HB_15.out.size))
      have HGL_20 := hid (HGL_16.out.grow hbn)
      have HRP_21 := hid (own_grow HRP_17.out hbn)
      have KX5_22 := hid (keep_laid KX5_18.out hbn)
      clear HB_15 HGL_16 HRP_17 KX5_18 hbn HCK
      obtain ⟨wm, hwm⟩ : ∃ wm, w5_188.alloc (.map #[] 0) = wm := ⟨_, rfl⟩
      have hbn : Below w5_188.heap.size w5_188 wm := by rw [← hwm]; exact (Below.refl _ _).alloc (Nat.le_refl _) _
      have hid0 : IdsI wm w5_188.heap.size [] := by rw [← hwm]; exact IdsI.made w5_188
      obtain ⟨M, hM⟩ : ∃ M, w5_188.heap.size = M := ⟨_, rfl⟩
      rw [hM] at hid0
      have hVM : V.heap.size ≤ M := by have := HB_19.out.size; omega
      have HI0 := hid hid0
      clear hid0
      have HB_23 := hid (HB_19.out.trans (hbn.mono HB_19.out.size))
      have HGL_24 := hid (HGL_20.out.grow hbn)
      have HRP_25 := hid (own_grow HRP_21.out hbn)
      have KX5_26 := hid (keep_laid KX5_22.out hbn)
      clear HB_19 HGL_20 HRP_21 KX5_22 hbn
      have x16 := cell_laid (i := 16) KX5_26.out rfl
      go_wp2
      go_loopg [41, 11] q (fun g t41 t11 wr => ∃ (k : Nat) (v11 : Value), g + k = q ∧ t41 = .int .i64 ((k : Nat) : Int) ∧ t11 = v11 ∧ Hid (LL.length = q) ∧ Hid (wr.heap[X5]? = some (.cells #[.int .i64 (G 0), .int .i64 (G 1), .int .i64 (G 2), .int .i64 (G 3), .int .i64 (G 4), .int .i64 (G 5), .int .i64 (G 6), .int .i64 (G 7), .int .i64 (G 8), .int .i64 (G 9), .int .i64 (G 10), .int .i64 (G 11), .int .i64 (G 12), .int .i64 (G 13), .int .i64 (G 14), .int .i64 (G 15), .slice ap q cp] 25 (0, 0))) ∧ Hid (wr.ownsRow V.heap.size 45 4 (.slice ap q cp) q (prcells LL)) ∧ Hid (Glob wr) ∧ Hid (Below V.heap.size V wr) ∧ Hid (IdsI wr M ((LL.take k).map fun z => (z.1, 1))))
      case atStart => exact ⟨0, _, rfl, rfl, rfl, HQ, KX5_26, HRP_25, HGL_24, HB_23, HI0⟩
      case round =>
        clear x16 hwm hM
        obtain ⟨k, v11, hk, rfl, hv11, -, KX5, HRP, HGL, HB, HI⟩ := hrel
        subst hv11
        have HK := hid hk
        clear hk
        by_cases hlt : k < q
        · obtain ⟨⟨z0, z1, z2, z3⟩, hz⟩ : ∃ z, LL[k]? = some z := ⟨_, List.getElem?_eq_getElem (by rw [HQ.out]; exact hlt)⟩
          obtain ⟨b, off, rfl, -, hcx⟩ := (Leads.of_own1 HRP.out).pr hlt hz
          obtain ⟨f0, f1, f2, f3⟩ := hcx wr (Below.refl _ _)
          have HZ := hid hz
          have hz0 : z0 < 18446744073709551616 := (HPL.out _ (List.mem_of_getElem? hz)).1
          dsimp only at f0 f1 f2 f3
          clear hcx hz
          have LTX11_HRP := hid (fun k hk => own_lt HRP.out k hk)
          obtain ⟨w6_229, hw6_229, hbn, hsn, hln⟩ := laid wr #[.int .u64 0, .int .u64 0, .bool false, .int .u64 0] 45
          obtain ⟨X11, hNMX11⟩ : ∃ X, wr.heap.size = X := ⟨_, rfl⟩
          rw [hNMX11] at hln
          have nX5X11 : X5 < X11 := by have := lt_laid KX5.out; omega
          have hVX11 : V.heap.size ≤ X11 := by have := HB.out.size; omega
          have HI_27 := hid (HI.out.grow hbn)
          have KX5_28 := hid (keep_laid KX5.out hbn)
          have HRP_29 := hid (own_grow HRP.out hbn)
          have HGL_30 := hid (HGL.out.grow hbn)
          have HB_31 := hid (HB.out.trans (hbn.mono HB.out.size))
          clear KX5 HRP HGL HB hbn hsn HI
          have KX11_32 := hid (hln)
          clear hln
          have KX11_32_o := KX11_32.out
          obtain ⟨u7_243, hu7_243, a1, a2, a3, a4⟩ := putN4 KX11_32.out (.int .u64 ((z0 : Nat) : Int)) (.int .u64 ((z1 : Nat) : Int)) (.bool z2) (.int .u64 ((z3 : Nat) : Int))
          obtain ⟨z0, zf0, z1, zf1, z2, zf2, z3, zf3⟩ := fcl4 (KX11_32.out)
          have E8_243 := hid hu7_243
          have KX5_33 := hid (a2 X5 _ (by omega) KX5_28.out)
          have HRP_34 := hid (own_keep HRP_29.out fun k o hk ho => a2 k o (by have := LTX11_HRP.out k hk; omega) ho)
          have HGL_35 := hid (Glob.far HGL_30.out a2 (by omega))
          have HB_36 := hid (a3 _ _ (by omega) HB_31.out)
          have HI_37 := hid (IdsI.far HI_27.out a2 (IdsI.ne HI_27.out KX11_32_o))
          have KX11_38 := hid (a1)
          clear KX5_28 HRP_29 HGL_30 HB_31 HI_27 KX11_32 hu7_243 a1 a2 a3 a4
          clear KX11_32_o
          go_upto_region 11 with (fail)
          rw [← E8_243.out]
          clear z0 z1 z2 z3 zf0 zf1 zf2 zf3 hNMX11 hw6_229 f0 f1 f2 f3
          obtain ⟨f0, f1, f2, f3⟩ := ncl4 (KX11_38.out)
          clear f1 f2 f3
          have hlm : ((LL.take k).map fun z => (z.1, 1)).length ≤ 1000 := by rw [List.length_map, List.length_take]; omega
          go_wp2_with (at_mapUpdate; refine wp_putG rfl _ _ _ 53 rfl Tryd.underlying53 M (z0) 1 _ rfl HI_37.out hlm rfl rfl hz0 (by decide) ?_; intro m9_260 hI7 hg7; have HI7 := hid hI7; have HG7 := hid hg7; clear hI7 hg7)
          have KX5_39 := hid (keep_grown KX5_33.out HG7.out (fun e => IdsI.ne HI_37.out KX5_33.out (Option.some.inj e)))
          have HRP_40 := hid (own_keep HRP_34.out fun k o hk ho => keep_grown ho HG7.out (fun e => IdsI.neO HI_37.out HRP_34.out (by rw [hk, e])))
          have HGL_41 := hid (Glob.grown HGL_35.out HG7.out (by omega))
          have HB_42 := hid (HB_36.out.grown HG7.out HB_36.out.size (fun k e => by cases e; omega))
          have HI_43 := hid (HI7.out)
          have KX11_44 := hid (keep_grown KX11_38.out HG7.out (fun e => IdsI.ne HI_37.out KX11_38.out (Option.some.inj e)))
          clear HI7 HG7 KX5_33 HRP_34 HGL_35 HB_36 HI_37 KX11_38
          go_roundg (gk - 1)
          case measure => have := HK.out; omega
          case rel => exact ⟨k + 1, _, by have := HK.out; omega, by go_num, rfl, HQ, KX5_39, HRP_40, HGL_41, HB_42, hid (by rw [take_pr HZ.out, List.map_append]; exact HI_43.out)⟩
        · have hkq : k = q := by have := HK.out; omega
          subst hkq
          have HI2 := hid (show IdsI wr M (LL.map fun z => (z.1, 1)) by have := HI.out; rw [List.take_of_length_le (by rw [HQ.out]; exact Nat.le_refl _)] at this; exact this)
          have HNV := hid (nev_0 HOK.out HGG.out HPL.out)
          clear HI HK hlt
          go_wp2
          go_loopg [12, 13, 14, 15, 16, 51, 71, 81] len (fun g t12 t13 t14 t15 t16 t51 t71 t81 wr => ∃ (j : Nat) (G : Nat → Int) (P : List Pr) (mp : List (Nat × Nat)) (pm : Nat) (pa : Option Addr) (pc : Nat) (v12 v13 v14 v15 v16 v71 v81 : Value), g + j = len ∧ j ≤ 40 ∧ mp.length ≤ 16 + j ∧ t51 = .int .i64 ((j : Nat) : Int) ∧ t12 = v12 ∧ t13 = v13 ∧ t14 = v14 ∧ t15 = v15 ∧ t16 = v16 ∧ t71 = v71 ∧ t81 = v81 ∧ Hid (NevI G P mp) ∧ Hid (P.length = pm) ∧ Hid (wr.heap[X5]? = some (.cells #[.int .i64 (G 0), .int .i64 (G 1), .int .i64 (G 2), .int .i64 (G 3), .int .i64 (G 4), .int .i64 (G 5), .int .i64 (G 6), .int .i64 (G 7), .int .i64 (G 8), .int .i64 (G 9), .int .i64 (G 10), .int .i64 (G 11), .int .i64 (G 12), .int .i64 (G 13), .int .i64 (G 14), .int .i64 (G 15), .slice pa pm pc] 25 (0, 0))) ∧ Hid (wr.ownsRow V.heap.size 45 4 (.slice pa pm pc) pm (prcells P)) ∧ Hid (Glob wr) ∧ Hid (Below V.heap.size V wr) ∧ Hid (IdsI wr M mp))
          case atStart => exact ⟨0, G, LL, _, k, ap, cp, _, _, _, _, _, _, _, rfl, by omega, by rw [List.length_map, HQ.out]; omega, rfl, rfl, rfl, rfl, rfl, rfl, rfl, rfl, HNV, HQ, KX5, HRP, HGL, HB, HI2⟩
          case round =>
            clear HNV HI2 KX5 HRP HGL HB
            obtain ⟨j, G, P, mp, pm, pa, pc, v12, v13, v14, v15, v16, v71, v81, hj, hj40, hmp, rfl, hv12, hv13, hv14, hv15, hv16, hv71, hv81, HNV, HPM, KX5, HRP, HGL, HB, HI⟩ := hrel
            subst hv12 hv13 hv14 hv15 hv16 hv71 hv81
            have HJ := hid hj
            have hpm : pm ≤ 16 := by rw [← HPM.out]; exact ok_len HNV.out.ok
            have hlpm := (Leads.of_own1 HRP.out).len
            clear hj
            by_cases hlt : j < len
            · obtain ⟨⟨kd, p1, p2⟩, hc0⟩ : ∃ x, cs[j]? = some x := ⟨_, List.getElem?_eq_getElem (by rw [HCN.out]; exact hlt)⟩
              obtain ⟨b, off, rfl, hcx⟩ := HCL.out.cl hlt hc0
              obtain ⟨f0, f1, f2⟩ := hcx wr HB.out
              obtain ⟨hkd, hp1, hp2⟩ := HCO.out _ (List.mem_of_getElem? hc0)
              dsimp only at f0 f1 f2 hkd hp1 hp2
              clear hcx hc0
              obtain ⟨w6_295, hw6_295, hbn, hsn, hln⟩ := laid wr #[.int .i64 0, .int .u64 0, .int .u64 0] 31
              obtain ⟨X13, hNMX13⟩ : ∃ X, wr.heap.size = X := ⟨_, rfl⟩
              rw [hNMX13] at hln
              have nX5X13 : X5 < X13 := by have := lt_laid KX5.out; omega
              have hVX13 : V.heap.size ≤ X13 := by have := HB.out.size; omega
              have HI_27 := hid (HI.out.grow hbn)
              have KX5_28 := hid (keep_laid KX5.out hbn)
              have HRP_29 := hid (own_grow HRP.out hbn)
              have HGL_30 := hid (HGL.out.grow hbn)
              have HB_31 := hid (HB.out.trans (hbn.mono HB.out.size))
              clear KX5 HRP HGL HB hbn hsn HI
              have KX13_32 := hid (hln)
              clear hln
              have KX13_32_o := KX13_32.out
              obtain ⟨u7_309, hu7_309, a1, a2, a3, a4⟩ := putN3 KX13_32.out (.int .i64 kd) (.int .u64 ((p1 : Nat) : Int)) (.int .u64 ((p2 : Nat) : Int))
              obtain ⟨z0, zf0, z1, zf1, z2, zf2⟩ := fcl3 (KX13_32.out)
              have E8_309 := hid hu7_309
              have KX5_33 := hid (a2 X5 _ (by omega) KX5_28.out)
              have HRP_34 := hid (own_keep HRP_29.out fun k o hk ho => a2 k o (fun e => own_neP HRP_29.out KX13_32_o (by decide) (by rw [← e]; exact hk)) ho)
              have HGL_35 := hid (Glob.far HGL_30.out a2 (by omega))
              have HB_36 := hid (a3 _ _ (by omega) HB_31.out)
              have HI_37 := hid (IdsI.far HI_27.out a2 (IdsI.ne HI_27.out KX13_32_o))
              have KX13_38 := hid (a1)
              clear KX5_28 HRP_29 HGL_30 HB_31 HI_27 KX13_32 hu7_309 a1 a2 a3 a4
              clear KX13_32_o
              go_upto_region 16 with (fail)
              rw [← E8_309.out]
              clear z0 z1 z2 zf0 zf1 zf2 hNMX13 hw6_295 f0 f1 f2
              by_cases h40 : j = 40
              · have t40 : (((j : Nat) : Int) == 40) = true := by simp; omega
                go_wp2
                go_ret
                exact ⟨rfl, HB_36.out⟩
              · have t40 : (((j : Nat) : Int) == 40) = false := by simp; omega
                have KX5K := KX5_33
                obtain ⟨w9_330, hw9_330, hbn, hsn, hln⟩ := laid u7_309 #[.int .i64 0, .int .i64 0, .int .i64 0, .int .i64 0, .int .i64 0, .int .i64 0, .int .i64 0, .int .i64 0, .int .i64 0, .int .i64 0, .int .i64 0, .int .i64 0, .int .i64 0, .int .i64 0, .int .i64 0, .int .i64 0, .slice none 0 0] 25
                obtain ⟨X14, hNMX14⟩ : ∃ X, u7_309.heap.size = X := ⟨_, rfl⟩
                rw [hNMX14] at hln
                have nX5X14 : X5 < X14 := by have := lt_laid KX5_33.out; omega
                have nX13X14 : X13 < X14 := by have := lt_laid KX13_38.out; omega
                have hVX14 : V.heap.size ≤ X14 := by have := HB_36.out.size; omega
                have HI_39 := hid (HI_37.out.grow hbn)
                have KX5_40 := hid (keep_laid KX5_33.out hbn)
                have HRP_41 := hid (own_grow HRP_34.out hbn)
                have HGL_42 := hid (HGL_35.out.grow hbn)
                have HB_43 := hid (HB_36.out.trans (hbn.mono HB_36.out.size))
                have KX13_44 := hid (keep_laid KX13_38.out hbn)
                clear KX5_33 HRP_34 HGL_35 HB_36 KX13_38 hbn hsn HI_37
                have KX14_45 := hid (hln)
                clear hln
                go_upto_region 18 with (first | (refine wp_loadW rfl 25 (.tmp 5) rfl X5 _ rfl _ KX5K.out _ Tryd.underlying25 rfl (by kernel_rfl) ?_; intro v hv; subst hv) | (refine wp_storeW rfl 25 (.tmp 14) (.tmp 58) rfl X14 _ _ rfl rfl _ KX14_45.out (by kernel_rfl) (by rfl) (by simp [Value.oneCell']) ?_; intro u14 a1 a2 a3 a4; have HA1 := hid a1; have HA2 := hid a2; have HA3 := hid a3; clear a1 a2 a3 a4))
                have HI_46 := hid (IdsI.far HI_39.out HA2.out (IdsI.ne HI_39.out KX14_45.out))
                clear HI_39
                have KX5_47 := hid (HA2.out X5 _ (by omega) KX5_40.out)
                have HRP_48 := hid (own_keep HRP_41.out fun k o hk ho => HA2.out k o (fun e => own_neP HRP_41.out KX14_45.out (by decide) (by rw [← e]; exact hk)) ho)
                have HGL_49 := hid (Glob.far HGL_42.out HA2.out (by omega))
                have HB_50 := hid (HA3.out _ _ (by omega) HB_43.out)
                have KX13_51 := hid (HA2.out X13 _ (by omega) KX13_44.out)
                have KX14_52 := hid (HA1.out)
                clear HA1 HA2 HA3 KX5_40 HRP_41 HGL_42 HB_43 KX13_44 KX14_45 hNMX14 hw9_330
                clear KX5K
                obtain ⟨f0, f1, f2⟩ := ncl3 (KX13_51.out)
                by_cases hk0 : kd = 0
                · have tk0 : (kd == (0 : Int)) = true := by rw [hk0]; rfl
                  have HK0 := hid hk0
                  clear hk0
                  obtain ⟨R0, hR0⟩ : ∃ r, okRes G P (spawnP G P p1) = r := ⟨_, rfl⟩
                  have HSP := hid (Spawn_any pm pc p1 pa G P u14 HGL_49.out (Leads.of_own1 HRP_48.out) HPM.out (by omega) HNV.out.gok HNV.out.bnd hp1)
                  rw [hR0] at HSP
                  have HR0 := hid hR0
                  clear hR0
                  cases R0 with
                  | error e0 =>
                    have he0 := res_code HR0.out (fun c h => spawn_code h)
                    have te0 : (((e0 : Nat) : Int) != 0) = true := by simp; omega
                    clear he0
                    go_wp2_with (refine wp_loadW rfl 25 (.tmp 5) rfl X5 _ rfl _ KX5_47.out _ Tryd.underlying25 rfl (by kernel_rfl) ?_; intro v hv; subst hv)
                    refine (HSP.out).mono ?_
                    rintro e w10_372 ⟨hbn, rfl⟩
                    have HI_53 := hid (HI_46.out.grow hbn)
                    have KX5_54 := hid (keep_laid KX5_47.out hbn)
                    have HRP_55 := hid (own_grow HRP_48.out hbn)
                    have HGL_56 := hid (HGL_49.out.grow hbn)
                    have HB_57 := hid (HB_50.out.trans (hbn.mono HB_50.out.size))
                    have KX13_58 := hid (keep_laid KX13_51.out hbn)
                    have KX14_59 := hid (keep_laid KX14_52.out hbn)
                    clear KX5_47 HRP_48 HGL_49 HB_50 KX13_51 KX14_52 hbn HSP HI_46
                    go_upto_region 25 with (refine wp_storeW rfl 25 (.tmp 14) (.tmp 78) rfl X14 _ _ rfl rfl _ KX14_59.out (by kernel_rfl) (by rfl) (by simp [Value.oneCell']) ?_; intro u11_383 a1 a2 a3 a4; have HA1 := hid a1; have HA2 := hid a2; have HA3 := hid a3; clear a1 a2 a3 a4)
                    have HI_60 := hid (IdsI.far HI_53.out HA2.out (IdsI.ne HI_53.out KX14_59.out))
                    clear HI_53
                    have KX5_61 := hid (HA2.out X5 _ (by omega) KX5_54.out)
                    have HRP_62 := hid (own_keep HRP_55.out fun k o hk ho => HA2.out k o (fun e => own_neP HRP_55.out KX14_59.out (by decide) (by rw [← e]; exact hk)) ho)
                    have HGL_63 := hid (Glob.far HGL_56.out HA2.out (by omega))
                    have HB_64 := hid (HA3.out _ _ (by omega) HB_57.out)
                    have KX13_65 := hid (HA2.out X13 _ (by omega) KX13_58.out)
                    have KX14_66 := hid (HA1.out)
                    clear HA1 HA2 HA3 KX5_54 HRP_55 HGL_56 HB_57 KX13_58 KX14_59
                    go_wp2
                    go_roundg (gk - 1)
                    case measure => have := HJ.out; omega
                    case rel => exact ⟨j + 1, G, P, mp, pm, pa, pc, _, _, _, _, _, _, _, by have := HJ.out; omega, by omega, by omega, by go_num, rfl, rfl, rfl, rfl, rfl, rfl, rfl, HNV, HPM, KX5_61, HRP_62, HGL_63, HB_64, HI_60⟩
                  | ok r0 =>
                    obtain ⟨G1, P1, m1⟩ := r0
                    obtain ⟨hat, hru, hkd1, hnv, hm1b, hr1⟩ := nev_spawn HNV.out hp1 HR0.out
                    have HNV1 := hid hnv
                    obtain ⟨pm1, hpm1⟩ : ∃ m, P1.length = m := ⟨_, rfl⟩
                    have hp16 : pm1 ≤ 16 := by rw [← hpm1]; exact ok_len hnv.ok
                    have HPM1 := hid hpm1
                    unfold Gives3 at HSP
                    dsimp only at HSP
                    rw [hpm1] at HSP
                    clear hnv hpm1
                    go_wp2_with (refine wp_loadW rfl 25 (.tmp 5) rfl X5 _ rfl _ KX5_47.out _ Tryd.underlying25 rfl (by kernel_rfl) ?_; intro v hv; subst hv)
                    refine (HSP.out).mono ?_
                    rintro e w10_409 ⟨hbn, a1, c1, rfl, hrow⟩
                    have hwV : V.heap.size ≤ u14.heap.size := HB_50.out.size
                    have HI_53 := hid (HI_46.out.grow hbn)
                    have KX5_54 := hid (keep_laid KX5_47.out hbn)
                    have HRP_55 := hid (own_grow HRP_48.out hbn)
                    have HGL_56 := hid (HGL_49.out.grow hbn)
                    have HB_57 := hid (HB_50.out.trans (hbn.mono HB_50.out.size))
                    have KX13_58 := hid (keep_laid KX13_51.out hbn)
                    have KX14_59 := hid (keep_laid KX14_52.out hbn)
                    clear KX5_47 HRP_48 HGL_49 HB_50 KX13_51 KX14_52 hbn HI_46
                    have HR1 := hid (own_base hrow hwV)
                    have hlr1 := (Leads.of_own1 hrow).len
                    clear hrow hwV
                    go_upto_region 25 with (refine wp_storeW rfl 25 (.tmp 14) (.tmp 78) rfl X14 _ _ rfl rfl _ KX14_59.out (by kernel_rfl) (by rfl) (by simp [Value.oneCell']) ?_; intro u11_424 a1 a2 a3 a4; have HA1 := hid a1; have HA2 := hid a2; have HA3 := hid a3; clear a1 a2 a3 a4)
                    have HI_60 := hid (IdsI.far HI_53.out HA2.out (IdsI.ne HI_53.out KX14_59.out))
                    clear HI_53
                    have KX5_61 := hid (HA2.out X5 _ (by omega) KX5_54.out)
                    have HRP_62 := hid (own_keep HRP_55.out fun k o hk ho => HA2.out k o (fun e => own_neP HRP_55.out KX14_59.out (by decide) (by rw [← e]; exact hk)) ho)
                    have HGL_63 := hid (Glob.far HGL_56.out HA2.out (by omega))
                    have HB_64 := hid (HA3.out _ _ (by omega) HB_57.out)
                    have KX13_65 := hid (HA2.out X13 _ (by omega) KX13_58.out)
                    have KX14_66 := hid (HA1.out)
                    have HR1_67 := hid (own_keep HR1.out fun k o hk ho => HA2.out k o (fun e => own_neP HR1.out KX14_59.out (by decide) (by rw [← e]; exact hk)) ho)
                    clear HA1 HA2 HA3 KX5_54 HRP_55 HGL_56 HB_57 KX13_58 KX14_59 HR1
                    have HAT := hid hat
                    have HRU := hid (Runs_any pm1 c1 m1 a1 G1 P1 u11_424 HGL_63.out (Leads.of_own1 HR1_67.out) HPM1.out (by omega) HNV1.out.gok HNV1.out.bnd)
                    rw [hru] at HRU
                    have HKD := hid hkd1
                    have HR2 := hid hr1
                    clear hat hru hkd1 hr1
                    obtain ⟨f0, f1, f2⟩ := ncl3 (KX13_65.out)
                    go_wp2_with (first | (refine wpList_unguard rfl ?_; refine wp_atI rfl _ _ 53 rfl Tryd.underlying53 M m1 mp rfl HI_60.out rfl (by omega) ?_; rw [HAT.out]) | (refine wp_loadG rfl 25 (.tmp 14) rfl X14 _ rfl _ KX14_66.out _ Tryd.underlying25 rfl (by kernel_rfl) ?_; intro v hv; subst hv))
                    refine HRU.out.mono ?_
                    rintro e w12_442 ⟨rfl, hbn⟩
                    clear f0 f1 f2 HRU
                    have HI_68 := hid (HI_60.out.grow hbn)
                    have KX5_69 := hid (keep_laid KX5_61.out hbn)
                    have HRP_70 := hid (own_grow HRP_62.out hbn)
                    have HGL_71 := hid (HGL_63.out.grow hbn)
                    have HB_72 := hid (HB_64.out.trans (hbn.mono HB_64.out.size))
                    have KX13_73 := hid (keep_laid KX13_65.out hbn)
                    have KX14_74 := hid (keep_laid KX14_66.out hbn)
                    have HR1_75 := hid (own_grow HR1_67.out hbn)
                    clear KX5_61 HRP_62 HGL_63 HB_64 KX13_65 KX14_66 HR1_67 hbn HI_60
                    have HKI := hid (Kids_any pm1 c1 p1 a1 G1 P1 w12_442 HGL_71.out (Leads.of_own1 HR1_75.out) HPM1.out (by omega) HNV1.out.gok HNV1.out.bnd hp1)
                    obtain ⟨kl, hkl⟩ : ∃ l, kidsP G1 P1 p1 = l := ⟨_, rfl⟩
                    obtain ⟨kn, hkn⟩ : ∃ n, kl.length = n := ⟨_, rfl⟩
                    rw [hkl] at HKI
                    unfold GivesW at HKI
                    rw [hkn] at HKI
                    have HKL := hid hkl
                    have HKN := hid hkn
                    clear hkl hkn
                    obtain ⟨f0, f1, f2⟩ := ncl3 (KX13_73.out)
                    go_wp2_with (refine wp_loadG rfl 25 (.tmp 14) rfl X14 _ rfl _ KX14_74.out _ Tryd.underlying25 rfl (by kernel_rfl) ?_; intro v hv; subst hv)
                    refine (HKI.out).mono ?_
                    rintro e w13_465 ⟨vk, rfl, hro, hbn⟩
                    have HI_76 := hid (HI_68.out.grow hbn)
                    have KX5_77 := hid (keep_laid KX5_69.out hbn)
                    have HRP_78 := hid (own_grow HRP_70.out hbn)
                    have HGL_79 := hid (HGL_71.out.grow hbn)
                    have HB_80 := hid (HB_72.out.trans (hbn.mono HB_72.out.size))
                    have KX13_81 := hid (keep_laid KX13_73.out hbn)
                    have KX14_82 := hid (keep_laid KX14_74.out hbn)
                    have HR1_83 := hid (own_grow HR1_75.out hbn)
                    clear KX5_69 HRP_70 HGL_71 HB_72 KX13_73 KX14_74 HR1_75 hbn HKI f0 f1 f2 HI_68
                    obtain ⟨ka, kc, rfl, hlk⟩ := Leads.of_own hro
                    have hlk2 := hlk.len
                    have HCO2 := hid (Contains_any kl ka kn kc m1 w13_465 hlk HKN.out)
                    rw [← HKL.out, HKD.out] at HCO2
                    clear hro hlk
                    go_wp2_with fail
                    refine HCO2.out.mono ?_
                    rintro e w30 ⟨rfl, hw30⟩
                    subst hw30
                    clear HCO2
                    have hlm : mp.length ≤ 1000 := by omega
                    go_upto_region 29 with (at_mapUpdate; refine wp_putG rfl _ _ _ 53 rfl Tryd.underlying53 M (m1) 1 mp rfl HI_76.out hlm rfl rfl (by omega) (by decide) ?_; intro m14_489 hI7 hg7; have HI7 := hid hI7; have HG7 := hid hg7; clear hI7 hg7)
                    have KX5_84 := hid (keep_grown KX5_77.out HG7.out (fun e => IdsI.ne HI_76.out KX5_77.out (Option.some.inj e)))
                    have HRP_85 := hid (own_keep HRP_78.out fun k o hk ho => keep_grown ho HG7.out (fun e => IdsI.neO HI_76.out HRP_78.out (by rw [hk, e])))
                    have HGL_86 := hid (Glob.grown HGL_79.out HG7.out (by omega))
                    have HB_87 := hid (HB_80.out.grown HG7.out HB_80.out.size (fun k e => by cases e; omega))
                    have KX13_88 := hid (keep_grown KX13_81.out HG7.out (fun e => IdsI.ne HI_76.out KX13_81.out (Option.some.inj e)))
                    have KX14_89 := hid (keep_grown KX14_82.out HG7.out (fun e => IdsI.ne HI_76.out KX14_82.out (Option.some.inj e)))
                    have HR1_90 := hid (own_keep HR1_83.out fun k o hk ho => keep_grown ho HG7.out (fun e => IdsI.neO HI_76.out HR1_83.out (by rw [hk, e])))
                    have HI_91 := hid (HI7.out)
                    clear HI7 HG7 KX5_77 HRP_78 HGL_79 HB_80 KX13_81 KX14_82 HR1_83 HI_76
                    have HCK := hid (Check_any pm1 c1 a1 G1 P1 m14_489 HGL_86.out (Leads.of_own1 HR1_90.out) HPM1.out (by omega) HNV1.out.gok HNV1.out.bnd)
                    rw [(okP_iff G1 P1).2 HNV1.out.ok, if_pos rfl] at HCK
                    go_wp2_with (refine wp_loadW rfl 25 (.tmp 14) rfl X14 _ rfl _ KX14_89.out _ Tryd.underlying25 rfl (by kernel_rfl) ?_; intro v hv; subst hv)
                    refine (HCK.out).mono ?_
                    rintro e w15_501 ⟨rfl, hbn⟩
                    have HI_92 := hid (HI_91.out.grow hbn)
                    have KX5_93 := hid (keep_laid KX5_84.out hbn)
                    have HRP_94 := hid (own_grow HRP_85.out hbn)
                    have HGL_95 := hid (HGL_86.out.grow hbn)
                    have HB_96 := hid (HB_87.out.trans (hbn.mono HB_87.out.size))
                    have KX13_97 := hid (keep_laid KX13_88.out hbn)
                    have KX14_98 := hid (keep_laid KX14_89.out hbn)
                    have HR1_99 := hid (own_grow HR1_90.out hbn)
                    clear KX5_84 HRP_85 HGL_86 HB_87 KX13_88 KX14_89 HR1_90 hbn HCK HI_91
                    have HRU := hid (Runs_any pm1 c1 1 a1 G1 P1 w15_501 HGL_95.out (Leads.of_own1 HR1_99.out) HPM1.out (by omega) HNV1.out.gok HNV1.out.bnd)
                    rw [HR2.out] at HRU
                    go_wp2_with (refine wp_loadG rfl 25 (.tmp 14) rfl X14 _ rfl _ KX14_98.out _ Tryd.underlying25 rfl (by kernel_rfl) ?_; intro v hv; subst hv)
                    refine (HRU.out).mono ?_
                    rintro e w16_515 ⟨rfl, hbn⟩
                    have HI_100 := hid (HI_92.out.grow hbn)
                    have KX5_101 := hid (keep_laid KX5_93.out hbn)
                    have HRP_102 := hid (own_grow HRP_94.out hbn)
                    have HGL_103 := hid (HGL_95.out.grow hbn)
                    have HB_104 := hid (HB_96.out.trans (hbn.mono HB_96.out.size))
                    have KX13_105 := hid (keep_laid KX13_97.out hbn)
                    have KX14_106 := hid (keep_laid KX14_98.out hbn)
                    have HR1_107 := hid (own_grow HR1_99.out hbn)
                    clear KX5_93 HRP_94 HGL_95 HB_96 KX13_97 KX14_98 HR1_99 hbn HRU HI_92
                    go_upto_region 31 with (fail)
                    go_wp2_with (first | (refine wp_loadW rfl 25 (.tmp 14) rfl X14 _ rfl _ KX14_106.out _ Tryd.underlying25 rfl (by kernel_rfl) ?_; intro v hv; subst hv) | (refine wp_storeW rfl 25 (.tmp 5) (.tmp 128) rfl X5 _ _ rfl rfl _ KX5_101.out (by kernel_rfl) (by rfl) (by simp [Value.oneCell']) ?_; intro u20 a1 a2 a3 a4; have HA1 := hid a1; have HA2 := hid a2; have HA3 := hid a3; clear a1 a2 a3 a4))
                    have HI_108 := hid (IdsI.far HI_100.out HA2.out (IdsI.ne HI_100.out KX5_101.out))
                    clear HI_100
                    have KX5_109 := hid (HA1.out)
                    have HRP_110 := hid (own_keep HRP_102.out fun k o hk ho => HA2.out k o (fun e => own_neP HRP_102.out KX5_101.out (by decide) (by rw [← e]; exact hk)) ho)
                    have HGL_111 := hid (Glob.far HGL_103.out HA2.out (by omega))
                    have HB_112 := hid (HA3.out _ _ (by omega) HB_104.out)
                    have KX13_113 := hid (HA2.out X13 _ (by omega) KX13_105.out)
                    have KX14_114 := hid (HA2.out X14 _ (by omega) KX14_106.out)
                    have HR1_115 := hid (own_keep HR1_107.out fun k o hk ho => HA2.out k o (fun e => own_neP HR1_107.out KX5_101.out (by decide) (by rw [← e]; exact hk)) ho)
                    clear HA1 HA2 HA3 KX5_101 HRP_102 HGL_103 HB_104 KX13_105 KX14_106 HR1_107
                    go_roundg (gk - 1)
                    case measure => have := HJ.out; omega
                    case rel => exact ⟨j + 1, G1, P1, mp ++ [(m1, 1)], pm1, a1, c1, _, _, _, _, _, _, _, by have := HJ.out; omega, by omega, by rw [List.length_append, List.length_singleton]; omega, by go_num, rfl, rfl, rfl, rfl, rfl, rfl, rfl, HNV1, HPM1, KX5_109, HR1_115, HGL_111, HB_112, HI_108⟩
                · have tk0 : (kd == (0 : Int)) = false := by simpa using hk0
                  clear hk0
                  by_cases hk1 : kd = 1
                  · have tk1 : (kd == (1 : Int)) = true := by rw [hk1]; rfl
                    clear hk1
                    obtain ⟨R0, hR0⟩ : ∃ r, okRes G P (exitP G P p1 p2) = r := ⟨_, rfl⟩
                    have HSP := hid (Exit_any pm pc p1 p2 pa G P u14 HGL_49.out (Leads.of_own1 HRP_48.out) HPM.out (by omega) HNV.out.gok HNV.out.bnd hp1 hp2)
                    rw [hR0] at HSP
                    have HR0 := hid hR0
                    clear hR0
                    cases R0 with
                    | error e0 =>
                      have he0 := res_code HR0.out (fun c h => exit_code h)
                      have te0 : (((e0 : Nat) : Int) != 0) = true := by simp; omega
                      clear he0
                      go_wp2_with (refine wp_loadW rfl 25 (.tmp 5) rfl X5 _ rfl _ KX5_47.out _ Tryd.underlying25 rfl (by kernel_rfl) ?_; intro v hv; subst hv)
                      refine (HSP.out).mono ?_
                      rintro e w10_557 ⟨hbn, rfl⟩
                      have HI_53 := hid (HI_46.out.grow hbn)
                      have KX5_54 := hid (keep_laid KX5_47.out hbn)
                      have HRP_55 := hid (own_grow HRP_48.out hbn)
                      have HGL_56 := hid (HGL_49.out.grow hbn)
                      have HB_57 := hid (HB_50.out.trans (hbn.mono HB_50.out.size))
                      have KX13_58 := hid (keep_laid KX13_51.out hbn)
                      have KX14_59 := hid (keep_laid KX14_52.out hbn)
                      clear KX5_47 HRP_48 HGL_49 HB_50 KX13_51 KX14_52 hbn HSP HI_46
                      go_upto_region 25 with (refine wp_storeW rfl 25 (.tmp 14) (.tmp 90) rfl X14 _ _ rfl rfl _ KX14_59.out (by kernel_rfl) (by rfl) (by simp [Value.oneCell']) ?_; intro u11_568 a1 a2 a3 a4; have HA1 := hid a1; have HA2 := hid a2; have HA3 := hid a3; clear a1 a2 a3 a4)
                      have HI_60 := hid (IdsI.far HI_53.out HA2.out (IdsI.ne HI_53.out KX14_59.out))
                      clear HI_53
                      have KX5_61 := hid (HA2.out X5 _ (by omega) KX5_54.out)
                      have HRP_62 := hid (own_keep HRP_55.out fun k o hk ho => HA2.out k o (fun e => own_neP HRP_55.out KX14_59.out (by decide) (by rw [← e]; exact hk)) ho)
                      have HGL_63 := hid (Glob.far HGL_56.out HA2.out (by omega))
                      have HB_64 := hid (HA3.out _ _ (by omega) HB_57.out)
                      have KX13_65 := hid (HA2.out X13 _ (by omega) KX13_58.out)
                      have KX14_66 := hid (HA1.out)
                      clear HA1 HA2 HA3 KX5_54 HRP_55 HGL_56 HB_57 KX13_58 KX14_59
                      go_wp2
                      go_roundg (gk - 1)
                      case measure => have := HJ.out; omega
                      case rel => exact ⟨j + 1, G, P, mp, pm, pa, pc, _, _, _, _, _, _, _, by have := HJ.out; omega, by omega, by omega, by go_num, rfl, rfl, rfl, rfl, rfl, rfl, rfl, HNV, HPM, KX5_61, HRP_62, HGL_63, HB_64, HI_60⟩
                    | ok r0 =>
                      obtain ⟨G1, P1, m1⟩ := r0
                      obtain ⟨hnv, hr1⟩ := nev_exit HNV.out hp2 HR0.out
                      have HNV1 := hid hnv
                      obtain ⟨pm1, hpm1⟩ : ∃ m, P1.length = m := ⟨_, rfl⟩
                      have hp16 : pm1 ≤ 16 := by rw [← hpm1]; exact ok_len hnv.ok
                      have HPM1 := hid hpm1
                      unfold Gives2 at HSP
                      dsimp only at HSP
                      rw [hpm1] at HSP
                      clear hnv hpm1
                      go_wp2_with (refine wp_loadW rfl 25 (.tmp 5) rfl X5 _ rfl _ KX5_47.out _ Tryd.underlying25 rfl (by kernel_rfl) ?_; intro v hv; subst hv)
                      refine (HSP.out).mono ?_
                      rintro e w10_594 ⟨hbn, a1, c1, rfl, hrow⟩
                      have hwV : V.heap.size ≤ u14.heap.size := HB_50.out.size
                      have HI_53 := hid (HI_46.out.grow hbn)
                      have KX5_54 := hid (keep_laid KX5_47.out hbn)
                      have HRP_55 := hid (own_grow HRP_48.out hbn)
                      have HGL_56 := hid (HGL_49.out.grow hbn)
                      have HB_57 := hid (HB_50.out.trans (hbn.mono HB_50.out.size))
                      have KX13_58 := hid (keep_laid KX13_51.out hbn)
                      have KX14_59 := hid (keep_laid KX14_52.out hbn)
                      clear KX5_47 HRP_48 HGL_49 HB_50 KX13_51 KX14_52 hbn HI_46
                      have HR1 := hid (own_base hrow hwV)
                      have hlr1 := (Leads.of_own1 hrow).len
                      clear hrow hwV
                      go_upto_region 25 with (refine wp_storeW rfl 25 (.tmp 14) (.tmp 90) rfl X14 _ _ rfl rfl _ KX14_59.out (by kernel_rfl) (by rfl) (by simp [Value.oneCell']) ?_; intro u11_609 a1 a2 a3 a4; have HA1 := hid a1; have HA2 := hid a2; have HA3 := hid a3; clear a1 a2 a3 a4)
                      have HI_60 := hid (IdsI.far HI_53.out HA2.out (IdsI.ne HI_53.out KX14_59.out))
                      clear HI_53
                      have KX5_61 := hid (HA2.out X5 _ (by omega) KX5_54.out)
                      have HRP_62 := hid (own_keep HRP_55.out fun k o hk ho => HA2.out k o (fun e => own_neP HRP_55.out KX14_59.out (by decide) (by rw [← e]; exact hk)) ho)
                      have HGL_63 := hid (Glob.far HGL_56.out HA2.out (by omega))
                      have HB_64 := hid (HA3.out _ _ (by omega) HB_57.out)
                      have KX13_65 := hid (HA2.out X13 _ (by omega) KX13_58.out)
                      have KX14_66 := hid (HA1.out)
                      have HR1_67 := hid (own_keep HR1.out fun k o hk ho => HA2.out k o (fun e => own_neP HR1.out KX14_59.out (by decide) (by rw [← e]; exact hk)) ho)
                      clear HA1 HA2 HA3 KX5_54 HRP_55 HGL_56 HB_57 KX13_58 KX14_59 HR1
                      have HR2 := hid hr1
                      clear hr1
                      obtain ⟨f0, f1, f2⟩ := ncl3 (KX13_65.out)
                      have hlm : mp.length ≤ 1000 := by omega
                      go_upto_region 29 with (at_mapUpdate; refine wp_putG rfl _ _ _ 53 rfl Tryd.underlying53 M (0) 1 mp rfl HI_60.out hlm rfl rfl (by omega) (by decide) ?_; intro m12_625 hI7 hg7; have HI7 := hid hI7; have HG7 := hid hg7; clear hI7 hg7)
                      clear f0 f1 f2
                      have KX5_68 := hid (keep_grown KX5_61.out HG7.out (fun e => IdsI.ne HI_60.out KX5_61.out (Option.some.inj e)))
                      have HRP_69 := hid (own_keep HRP_62.out fun k o hk ho => keep_grown ho HG7.out (fun e => IdsI.neO HI_60.out HRP_62.out (by rw [hk, e])))
                      have HGL_70 := hid (Glob.grown HGL_63.out HG7.out (by omega))
                      have HB_71 := hid (HB_64.out.grown HG7.out HB_64.out.size (fun k e => by cases e; omega))
                      have KX13_72 := hid (keep_grown KX13_65.out HG7.out (fun e => IdsI.ne HI_60.out KX13_65.out (Option.some.inj e)))
                      have KX14_73 := hid (keep_grown KX14_66.out HG7.out (fun e => IdsI.ne HI_60.out KX14_66.out (Option.some.inj e)))
                      have HR1_74 := hid (own_keep HR1_67.out fun k o hk ho => keep_grown ho HG7.out (fun e => IdsI.neO HI_60.out HR1_67.out (by rw [hk, e])))
                      have HI_75 := hid (HI7.out)
                      clear HI7 HG7 KX5_61 HRP_62 HGL_63 HB_64 KX13_65 KX14_66 HR1_67 HI_60
                      have HCK := hid (Check_any pm1 c1 a1 G1 P1 m12_625 HGL_70.out (Leads.of_own1 HR1_74.out) HPM1.out (by omega) HNV1.out.gok HNV1.out.bnd)
                      rw [(okP_iff G1 P1).2 HNV1.out.ok, if_pos rfl] at HCK
                      go_wp2_with (refine wp_loadW rfl 25 (.tmp 14) rfl X14 _ rfl _ KX14_73.out _ Tryd.underlying25 rfl (by kernel_rfl) ?_; intro v hv; subst hv)
                      refine (HCK.out).mono ?_
                      rintro e w13_638 ⟨rfl, hbn⟩
                      have HI_76 := hid (HI_75.out.grow hbn)
                      have KX5_77 := hid (keep_laid KX5_68.out hbn)
                      have HRP_78 := hid (own_grow HRP_69.out hbn)
                      have HGL_79 := hid (HGL_70.out.grow hbn)
                      have HB_80 := hid (HB_71.out.trans (hbn.mono HB_71.out.size))
                      have KX13_81 := hid (keep_laid KX13_72.out hbn)
                      have KX14_82 := hid (keep_laid KX14_73.out hbn)
                      have HR1_83 := hid (own_grow HR1_74.out hbn)
                      clear KX5_68 HRP_69 HGL_70 HB_71 KX13_72 KX14_73 HR1_74 hbn HCK HI_75
                      have HRU := hid (Runs_any pm1 c1 1 a1 G1 P1 w13_638 HGL_79.out (Leads.of_own1 HR1_83.out) HPM1.out (by omega) HNV1.out.gok HNV1.out.bnd)
                      rw [HR2.out] at HRU
                      go_wp2_with (refine wp_loadG rfl 25 (.tmp 14) rfl X14 _ rfl _ KX14_82.out _ Tryd.underlying25 rfl (by kernel_rfl) ?_; intro v hv; subst hv)
                      refine (HRU.out).mono ?_
                      rintro e w14_652 ⟨rfl, hbn⟩
                      have HI_84 := hid (HI_76.out.grow hbn)
                      have KX5_85 := hid (keep_laid KX5_77.out hbn)
                      have HRP_86 := hid (own_grow HRP_78.out hbn)
                      have HGL_87 := hid (HGL_79.out.grow hbn)
                      have HB_88 := hid (HB_80.out.trans (hbn.mono HB_80.out.size))
                      have KX13_89 := hid (keep_laid KX13_81.out hbn)
                      have KX14_90 := hid (keep_laid KX14_82.out hbn)
                      have HR1_91 := hid (own_grow HR1_83.out hbn)
                      clear KX5_77 HRP_78 HGL_79 HB_80 KX13_81 KX14_82 HR1_83 hbn HRU HI_76
                      go_upto_region 31 with (fail)
                      go_wp2_with (first | (refine wp_loadW rfl 25 (.tmp 14) rfl X14 _ rfl _ KX14_90.out _ Tryd.underlying25 rfl (by kernel_rfl) ?_; intro v hv; subst hv) | (refine wp_storeW rfl 25 (.tmp 5) (.tmp 128) rfl X5 _ _ rfl rfl _ KX5_85.out (by kernel_rfl) (by rfl) (by simp [Value.oneCell']) ?_; intro u20 a1 a2 a3 a4; have HA1 := hid a1; have HA2 := hid a2; have HA3 := hid a3; clear a1 a2 a3 a4))
                      have HI_92 := hid (IdsI.far HI_84.out HA2.out (IdsI.ne HI_84.out KX5_85.out))
                      clear HI_84
                      have KX5_93 := hid (HA1.out)
                      have HRP_94 := hid (own_keep HRP_86.out fun k o hk ho => HA2.out k o (fun e => own_neP HRP_86.out KX5_85.out (by decide) (by rw [← e]; exact hk)) ho)
                      have HGL_95 := hid (Glob.far HGL_87.out HA2.out (by omega))
                      have HB_96 := hid (HA3.out _ _ (by omega) HB_88.out)
                      have KX13_97 := hid (HA2.out X13 _ (by omega) KX13_89.out)
                      have KX14_98 := hid (HA2.out X14 _ (by omega) KX14_90.out)
                      have HR1_99 := hid (own_keep HR1_91.out fun k o hk ho => HA2.out k o (fun e => own_neP HR1_91.out KX5_85.out (by decide) (by rw [← e]; exact hk)) ho)
                      clear HA1 HA2 HA3 KX5_85 HRP_86 HGL_87 HB_88 KX13_89 KX14_90 HR1_91
                      go_roundg (gk - 1)
                      case measure => have := HJ.out; omega
                      case rel => exact ⟨j + 1, G1, P1, mp ++ [(0, 1)], pm1, a1, c1, _, _, _, _, _, _, _, by have := HJ.out; omega, by omega, by rw [List.length_append, List.length_singleton]; omega, by go_num, rfl, rfl, rfl, rfl, rfl, rfl, rfl, HNV1, HPM1, KX5_93, HR1_99, HGL_95, HB_96, HI_92⟩
                  · have tk1 : (kd == (1 : Int)) = false := by simpa using hk1
                    clear hk1
                    obtain ⟨R0, hR0⟩ : ∃ r, okRes G P (waitP G P p1 p2) = r := ⟨_, rfl⟩
                    have HSP := hid (Wait_any pm pc p1 p2 pa G P u14 HGL_49.out (Leads.of_own1 HRP_48.out) HPM.out (by omega) HNV.out.gok HNV.out.bnd hp1 hp2)
                    rw [hR0] at HSP
                    have HR0 := hid hR0
                    clear hR0
                    cases R0 with
                    | error e0 =>
                      have he0 := res_code HR0.out (fun c h => wait_code h)
                      have te0 : (((e0 : Nat) : Int) != 0) = true := by simp; omega
                      clear he0
                      go_wp2_with (refine wp_loadW rfl 25 (.tmp 5) rfl X5 _ rfl _ KX5_47.out _ Tryd.underlying25 rfl (by kernel_rfl) ?_; intro v hv; subst hv)
                      refine (HSP.out).mono ?_
                      rintro e w10_691 ⟨hbn, rfl⟩
                      have HI_53 := hid (HI_46.out.grow hbn)
                      have KX5_54 := hid (keep_laid KX5_47.out hbn)
                      have HRP_55 := hid (own_grow HRP_48.out hbn)
                      have HGL_56 := hid (HGL_49.out.grow hbn)
                      have HB_57 := hid (HB_50.out.trans (hbn.mono HB_50.out.size))
                      have KX13_58 := hid (keep_laid KX13_51.out hbn)
                      have KX14_59 := hid (keep_laid KX14_52.out hbn)
                      clear KX5_47 HRP_48 HGL_49 HB_50 KX13_51 KX14_52 hbn HSP HI_46
                      go_upto_region 25 with (refine wp_storeW rfl 25 (.tmp 14) (.tmp 68) rfl X14 _ _ rfl rfl _ KX14_59.out (by kernel_rfl) (by rfl) (by simp [Value.oneCell']) ?_; intro u11_702 a1 a2 a3 a4; have HA1 := hid a1; have HA2 := hid a2; have HA3 := hid a3; clear a1 a2 a3 a4)
                      have HI_60 := hid (IdsI.far HI_53.out HA2.out (IdsI.ne HI_53.out KX14_59.out))
                      clear HI_53
                      have KX5_61 := hid (HA2.out X5 _ (by omega) KX5_54.out)
                      have HRP_62 := hid (own_keep HRP_55.out fun k o hk ho => HA2.out k o (fun e => own_neP HRP_55.out KX14_59.out (by decide) (by rw [← e]; exact hk)) ho)
                      have HGL_63 := hid (Glob.far HGL_56.out HA2.out (by omega))
                      have HB_64 := hid (HA3.out _ _ (by omega) HB_57.out)
                      have KX13_65 := hid (HA2.out X13 _ (by omega) KX13_58.out)
                      have KX14_66 := hid (HA1.out)
                      clear HA1 HA2 HA3 KX5_54 HRP_55 HGL_56 HB_57 KX13_58 KX14_59
                      go_wp2
                      go_roundg (gk - 1)
                      case measure => have := HJ.out; omega
                      case rel => exact ⟨j + 1, G, P, mp, pm, pa, pc, _, _, _, _, _, _, _, by have := HJ.out; omega, by omega, by omega, by go_num, rfl, rfl, rfl, rfl, rfl, rfl, rfl, HNV, HPM, KX5_61, HRP_62, HGL_63, HB_64, HI_60⟩
                    | ok r0 =>
                      obtain ⟨G1, P1, m1⟩ := r0
                      obtain ⟨hnv, hr1⟩ := nev_wait HNV.out HR0.out
                      have HNV1 := hid hnv
                      obtain ⟨pm1, hpm1⟩ : ∃ m, P1.length = m := ⟨_, rfl⟩
                      have hp16 : pm1 ≤ 16 := by rw [← hpm1]; exact ok_len hnv.ok
                      have HPM1 := hid hpm1
                      unfold Gives3 at HSP
                      dsimp only at HSP
                      rw [hpm1] at HSP
                      clear hnv hpm1
                      go_wp2_with (refine wp_loadW rfl 25 (.tmp 5) rfl X5 _ rfl _ KX5_47.out _ Tryd.underlying25 rfl (by kernel_rfl) ?_; intro v hv; subst hv)
                      refine (HSP.out).mono ?_
                      rintro e w10_728 ⟨hbn, a1, c1, rfl, hrow⟩
                      have hwV : V.heap.size ≤ u14.heap.size := HB_50.out.size
                      have HI_53 := hid (HI_46.out.grow hbn)
                      have KX5_54 := hid (keep_laid KX5_47.out hbn)
                      have HRP_55 := hid (own_grow HRP_48.out hbn)
                      have HGL_56 := hid (HGL_49.out.grow hbn)
                      have HB_57 := hid (HB_50.out.trans (hbn.mono HB_50.out.size))
                      have KX13_58 := hid (keep_laid KX13_51.out hbn)
                      have KX14_59 := hid (keep_laid KX14_52.out hbn)
                      clear KX5_47 HRP_48 HGL_49 HB_50 KX13_51 KX14_52 hbn HI_46
                      have HR1 := hid (own_base hrow hwV)
                      have hlr1 := (Leads.of_own1 hrow).len
                      clear hrow hwV
                      go_upto_region 25 with (refine wp_storeW rfl 25 (.tmp 14) (.tmp 68) rfl X14 _ _ rfl rfl _ KX14_59.out (by kernel_rfl) (by rfl) (by simp [Value.oneCell']) ?_; intro u11_743 a1 a2 a3 a4; have HA1 := hid a1; have HA2 := hid a2; have HA3 := hid a3; clear a1 a2 a3 a4)
                      have HI_60 := hid (IdsI.far HI_53.out HA2.out (IdsI.ne HI_53.out KX14_59.out))
                      clear HI_53
                      have KX5_61 := hid (HA2.out X5 _ (by omega) KX5_54.out)
                      have HRP_62 := hid (own_keep HRP_55.out fun k o hk ho => HA2.out k o (fun e => own_neP HRP_55.out KX14_59.out (by decide) (by rw [← e]; exact hk)) ho)
                      have HGL_63 := hid (Glob.far HGL_56.out HA2.out (by omega))
                      have HB_64 := hid (HA3.out _ _ (by omega) HB_57.out)
                      have KX13_65 := hid (HA2.out X13 _ (by omega) KX13_58.out)
                      have KX14_66 := hid (HA1.out)
                      have HR1_67 := hid (own_keep HR1.out fun k o hk ho => HA2.out k o (fun e => own_neP HR1.out KX14_59.out (by decide) (by rw [← e]; exact hk)) ho)
                      clear HA1 HA2 HA3 KX5_54 HRP_55 HGL_56 HB_57 KX13_58 KX14_59 HR1
                      have HR2 := hid hr1
                      clear hr1
                      obtain ⟨f0, f1, f2⟩ := ncl3 (KX13_65.out)
                      have hlm : mp.length ≤ 1000 := by omega
                      go_upto_region 29 with (at_mapUpdate; refine wp_putG rfl _ _ _ 53 rfl Tryd.underlying53 M (0) 1 mp rfl HI_60.out hlm rfl rfl (by omega) (by decide) ?_; intro m12_759 hI7 hg7; have HI7 := hid hI7; have HG7 := hid hg7; clear hI7 hg7)
                      clear f0 f1 f2
                      have KX5_68 := hid (keep_grown KX5_61.out HG7.out (fun e => IdsI.ne HI_60.out KX5_61.out (Option.some.inj e)))
                      have HRP_69 := hid (own_keep HRP_62.out fun k o hk ho => keep_grown ho HG7.out (fun e => IdsI.neO HI_60.out HRP_62.out (by rw [hk, e])))
                      have HGL_70 := hid (Glob.grown HGL_63.out HG7.out (by omega))
                      have HB_71 := hid (HB_64.out.grown HG7.out HB_64.out.size (fun k e => by cases e; omega))
                      have KX13_72 := hid (keep_grown KX13_65.out HG7.out (fun e => IdsI.ne HI_60.out KX13_65.out (Option.some.inj e)))
                      have KX14_73 := hid (keep_grown KX14_66.out HG7.out (fun e => IdsI.ne HI_60.out KX14_66.out (Option.some.inj e)))
                      have HR1_74 := hid (own_keep HR1_67.out fun k o hk ho => keep_grown ho HG7.out (fun e => IdsI.neO HI_60.out HR1_67.out (by rw [hk, e])))
                      have HI_75 := hid (HI7.out)
                      clear HI7 HG7 KX5_61 HRP_62 HGL_63 HB_64 KX13_65 KX14_66 HR1_67 HI_60
                      have HCK := hid (Check_any pm1 c1 a1 G1 P1 m12_759 HGL_70.out (Leads.of_own1 HR1_74.out) HPM1.out (by omega) HNV1.out.gok HNV1.out.bnd)
                      rw [(okP_iff G1 P1).2 HNV1.out.ok, if_pos rfl] at HCK
                      go_wp2_with (refine wp_loadW rfl 25 (.tmp 14) rfl X14 _ rfl _ KX14_73.out _ Tryd.underlying25 rfl (by kernel_rfl) ?_; intro v hv; subst hv)
                      refine (HCK.out).mono ?_
                      rintro e w13_772 ⟨rfl, hbn⟩
                      have HI_76 := hid (HI_75.out.grow hbn)
                      have KX5_77 := hid (keep_laid KX5_68.out hbn)
                      have HRP_78 := hid (own_grow HRP_69.out hbn)
                      have HGL_79 := hid (HGL_70.out.grow hbn)
                      have HB_80 := hid (HB_71.out.trans (hbn.mono HB_71.out.size))
                      have KX13_81 := hid (keep_laid KX13_72.out hbn)
                      have KX14_82 := hid (keep_laid KX14_73.out hbn)
                      have HR1_83 := hid (own_grow HR1_74.out hbn)
                      clear KX5_68 HRP_69 HGL_70 HB_71 KX13_72 KX14_73 HR1_74 hbn HCK HI_75
                      have HRU := hid (Runs_any pm1 c1 1 a1 G1 P1 w13_772 HGL_79.out (Leads.of_own1 HR1_83.out) HPM1.out (by omega) HNV1.out.gok HNV1.out.bnd)
                      rw [HR2.out] at HRU
                      go_wp2_with (refine wp_loadG rfl 25 (.tmp 14) rfl X14 _ rfl _ KX14_82.out _ Tryd.underlying25 rfl (by kernel_rfl) ?_; intro v hv; subst hv)
                      refine (HRU.out).mono ?_
                      rintro e w14_786 ⟨rfl, hbn⟩
                      have HI_84 := hid (HI_76.out.grow hbn)
                      have KX5_85 := hid (keep_laid KX5_77.out hbn)
                      have HRP_86 := hid (own_grow HRP_78.out hbn)
                      have HGL_87 := hid (HGL_79.out.grow hbn)
                      have HB_88 := hid (HB_80.out.trans (hbn.mono HB_80.out.size))
                      have KX13_89 := hid (keep_laid KX13_81.out hbn)
                      have KX14_90 := hid (keep_laid KX14_82.out hbn)
                      have HR1_91 := hid (own_grow HR1_83.out hbn)
                      clear KX5_77 HRP_78 HGL_79 HB_80 KX13_81 KX14_82 HR1_83 hbn HRU HI_76
                      go_upto_region 31 with (fail)
                      go_wp2_with (first | (refine wp_loadW rfl 25 (.tmp 14) rfl X14 _ rfl _ KX14_90.out _ Tryd.underlying25 rfl (by kernel_rfl) ?_; intro v hv; subst hv) | (refine wp_storeW rfl 25 (.tmp 5) (.tmp 128) rfl X5 _ _ rfl rfl _ KX5_85.out (by kernel_rfl) (by rfl) (by simp [Value.oneCell']) ?_; intro u20 a1 a2 a3 a4; have HA1 := hid a1; have HA2 := hid a2; have HA3 := hid a3; clear a1 a2 a3 a4))
                      have HI_92 := hid (IdsI.far HI_84.out HA2.out (IdsI.ne HI_84.out KX5_85.out))
                      clear HI_84
                      have KX5_93 := hid (HA1.out)
                      have HRP_94 := hid (own_keep HRP_86.out fun k o hk ho => HA2.out k o (fun e => own_neP HRP_86.out KX5_85.out (by decide) (by rw [← e]; exact hk)) ho)
                      have HGL_95 := hid (Glob.far HGL_87.out HA2.out (by omega))
                      have HB_96 := hid (HA3.out _ _ (by omega) HB_88.out)
                      have KX13_97 := hid (HA2.out X13 _ (by omega) KX13_89.out)
                      have KX14_98 := hid (HA2.out X14 _ (by omega) KX14_90.out)
                      have HR1_99 := hid (own_keep HR1_91.out fun k o hk ho => HA2.out k o (fun e => own_neP HR1_91.out KX5_85.out (by decide) (by rw [← e]; exact hk)) ho)
                      clear HA1 HA2 HA3 KX5_85 HRP_86 HGL_87 HB_88 KX13_89 KX14_90 HR1_91
                      go_roundg (gk - 1)
                      case measure => have := HJ.out; omega
                      case rel => exact ⟨j + 1, G1, P1, mp ++ [(0, 1)], pm1, a1, c1, _, _, _, _, _, _, _, by have := HJ.out; omega, by omega, by rw [List.length_append, List.length_singleton]; omega, by go_num, rfl, rfl, rfl, rfl, rfl, rfl, rfl, HNV1, HPM1, KX5_93, HR1_99, HGL_95, HB_96, HI_92⟩
            · go_wp2
              go_ret
              exact ⟨rfl, HB.out⟩
end Go.Proofs.YtmnbkhmphhgdiaaDoor
