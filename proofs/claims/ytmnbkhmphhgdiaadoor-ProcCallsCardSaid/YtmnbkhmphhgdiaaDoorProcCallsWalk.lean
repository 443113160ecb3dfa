/- ProcCalls: the walk (printed by gen_prw4.py). -/
import Derived.Test.YtmnbkhmphhgdiaaDoorPr19
import Derived.Test.YtmnbkhmphhgdiaaDoorPrPlain5
import Derived.Test.YtmnbkhmphhgdiaaDoorOpenPr
namespace Go.Proofs.YtmnbkhmphhgdiaaDoor
open Go.RowKit Go.Shelf
open Go.Proofs
set_option linter.unusedVariables false
attribute [local go_sem] Oper.semAt_some
theorem ncl3 {W : World} {Y : Nat} {v0 v1 v2 : Value} {T : TypeId} (h : W.heap[Y]? = some (.cells #[v0, v1, v2] T (0, 0))) : W.cell? ⟨Y, 0, none⟩ = some v0 ∧ W.cell? ⟨Y, 1, none⟩ = some v1 ∧ W.cell? ⟨Y, 2, none⟩ = some v2 := ⟨cell_laid (i := 0) h rfl, cell_laid (i := 1) h rfl, cell_laid (i := 2) h rfl⟩
theorem fcl3 {W : World} {Y : Nat} {v0 v1 v2 : Value} {T : TypeId} (h : W.heap[Y]? = some (.cells #[v0, v1, v2] T (0, 0))) : W.cell? ⟨Y, 0, none⟩ = some v0 ∧ W.frozen? ⟨Y, 0, none⟩ = false ∧ W.cell? ⟨Y, 1, none⟩ = some v1 ∧ W.frozen? ⟨Y, 1, none⟩ = false ∧ W.cell? ⟨Y, 2, none⟩ = some v2 ∧ W.frozen? ⟨Y, 2, none⟩ = false := ⟨cell_laid (i := 0) h rfl, free_laid (i := 0) h, cell_laid (i := 1) h rfl, free_laid (i := 1) h, cell_laid (i := 2) h rfl, free_laid (i := 2) h⟩
theorem putN3 {V : World} {Y : Nat} {z0 z1 z2 : Value} {T : TypeId} (h : V.heap[Y]? = some (.cells #[z0, z1, z2] T (0, 0))) (v0 v1 v2 : Value) :
    ∃ V', V' = (((V.setCell ⟨Y, 0, none⟩ v0).setCell ⟨Y, 1, none⟩ v1).setCell ⟨Y, 2, none⟩ v2) ∧ V'.heap[Y]? = some (.cells #[v0, v1, v2] T (0, 0)) ∧ (∀ (k : Nat) (o : Obj), k ≠ Y → V.heap[k]? = some o → V'.heap[k]? = some o) ∧ (∀ (B : Nat) (w : World), B ≤ Y → Below B w V → Below B w V') ∧ V.grownBy V' (some Y) := by
  obtain ⟨V0, hV0⟩ : ∃ W, V.setCell ⟨Y, 0, none⟩ v0 = W := ⟨_, rfl⟩
  have h0 : V0.heap[Y]? = some (.cells #[v0, z1, z2] T (0, 0)) := by rw [← hV0]; exact set_laid (i := 0) h v0
  obtain ⟨V1, hV1⟩ : ∃ W, V0.setCell ⟨Y, 1, none⟩ v1 = W := ⟨_, rfl⟩
  have h1 : V1.heap[Y]? = some (.cells #[v0, v1, z2] T (0, 0)) := by rw [← hV1]; exact set_laid (i := 1) h0 v1
  obtain ⟨V2, hV2⟩ : ∃ W, V1.setCell ⟨Y, 2, none⟩ v2 = W := ⟨_, rfl⟩
  have h2 : V2.heap[Y]? = some (.cells #[v0, v1, v2] T (0, 0)) := by rw [← hV2]; exact set_laid (i := 2) h1 v2
  refine ⟨V2, by rw [hV0, hV1, hV2], h2, fun k o hk ho => ?_, fun B w hB hb => ?_, ?_⟩
  · rw [← hV2, ← hV1, ← hV0]; exact (other_laid (other_laid (other_laid ho hk _) hk _) hk _)
  · rw [← hV2, ← hV1, ← hV0]; exact (((hb.setCell (p := ⟨Y, 0, none⟩) hB _).setCell (p := ⟨Y, 1, none⟩) hB _).setCell (p := ⟨Y, 2, none⟩) hB _)
  · rw [← hV2, ← hV1, ← hV0]; exact (grownBy_trans (grownBy_trans (grownBy_setCell _ Y 0 _) (grownBy_setCell _ Y 1 _)) (grownBy_setCell _ Y 2 _))
theorem clcells_at {xs : List Cl} {k : Nat} {t : Cl} (h : xs[k]? = some t) : (clcells xs)[k * 3]? = some (.int .i64 t.1) ∧ (clcells xs)[k * 3 + 1]? = some (.int .u64 ((t.2.1 : Nat) : Int)) ∧ (clcells xs)[k * 3 + 2]? = some (.int .u64 ((t.2.2 : Nat) : Int)) :=
  ⟨flat_at cl3 3 (fun _ => rfl) xs k 0 t h (by decide), flat_at cl3 3 (fun _ => rfl) xs k 1 t h (by decide), flat_at cl3 3 (fun _ => rfl) xs k 2 t h (by decide)⟩
theorem Leads.cl {w : World} {a : Option Addr} {n cap k : Nat} {xs : List Cl} {t : Cl} (h : Leads w a n cap (clcells xs)) (hk : k < n) (hv : xs[k]? = some t) : ∃ b off, a = some ⟨b, off, none⟩ ∧ ∀ w', Below w.heap.size w w' →
    w'.cell? ⟨b, off + k * 3, none⟩ = some (.int .i64 t.1) ∧ w'.cell? ⟨b, off + k * 3 + 1, none⟩ = some (.int .u64 ((t.2.1 : Nat) : Int)) ∧ w'.cell? ⟨b, off + k * 3 + 2, none⟩ = some (.int .u64 ((t.2.2 : Nat) : Int)) := by
  obtain ⟨_, _, ⟨h, _⟩ | ⟨b, off, rfl, h3, h4⟩⟩ := h
  · omega
  · obtain ⟨q0, q1, q2⟩ := clcells_at hv
    exact ⟨b, off, rfl, fun w' hb => ⟨(hb.cell (p := ⟨b, off + k * 3, none⟩) h3).trans (h4 _ _ q0), (hb.cell (p := ⟨b, off + k * 3 + 1, none⟩) h3).trans (h4 (k * 3 + 1) _ q1), (hb.cell (p := ⟨b, off + k * 3 + 2, none⟩) h3).trans (h4 (k * 3 + 2) _ q2)⟩⟩
def zG : Nat → Int := fun _ => 0
theorem zG_ok : GOk zG := fun _ => by show _ ≤ (0 : Int) ∧ (0 : Int) ≤ _; decide
theorem same_self (G : Nat → Int) (L : List Pr) : sameB G G L L = true := by
  unfold sameB
  rw [(gEq_iff G G).2 fun _ _ => rfl, decide_eq_true rfl]
  rfl
theorem prs_take {L : List Pr} (h : PrsOk L) (k : Nat) : PrsOk (L.take k) := fun x hx => h x (List.mem_of_mem_take hx)
theorem wait_bounds {G : Nat → Int} {L : List Pr} {pid child : Nat} (hL : PrsOk L) : PrsOk (L.filter (fun y => decide (y.1 ≠ child))) := fun y hy => hL y (List.mem_filter.1 hy).1
theorem exitP_inv {G G' : Nat → Int} {L L' : List Pr} {pid code m : Nat} (hc : code < 18446744073709551616) (hG : GOk G) (hL : PrsOk L) (ho : OkL G L) (h : exitP G L pid code = .ok (G', L', m)) : GOk G' ∧ PrsOk L' ∧ L'.length ≤ 16 := by
  unfold exitP at h
  by_cases hr : runsB L pid = true
  · rw [if_pos hr] at h
    by_cases h1 : pid = 1
    · rw [if_pos h1] at h; cases h
    · rw [if_neg h1] at h
      cases h
      exact ⟨hG, exit_bounds hL hc, ok_len (exit_ok ho hr h1)⟩
  · rw [if_neg hr] at h; cases h
theorem waitP_inv {G G' : Nat → Int} {L L' : List Pr} {pid child m : Nat} (hG : GOk G) (hL : PrsOk L) (ho : OkL G L) (h : waitP G L pid child = .ok (G', L', m)) : GOk G' ∧ PrsOk L' ∧ L'.length ≤ 16 := by
  have hl : L.length ≤ 16 := ok_len ho
  unfold waitP at h
  split at h
  · split at h
    · split at h
      · split at h
        · cases h
          exact ⟨hG, fun y hy => hL y (List.mem_filter.1 hy).1, Nat.le_trans (List.length_filter_le _ _) hl⟩
        · cases h
      · cases h
    · cases h
  · cases h
theorem spawnP_inv {G G' : Nat → Int} {L L' : List Pr} {parent m : Nat} (hp : parent < 18446744073709551616) (hG : GOk G) (hL : PrsOk L) (ho : OkL G L) (h : spawnP G L parent = .ok (G', L', m)) : GOk G' ∧ PrsOk L' ∧ L'.length ≤ 16 := by
  obtain ⟨h1, h2, -, -, h3⟩ := spawn_bounds hG hL hp (show okRes G L (spawnP G L parent) = .ok (G', L', m) by rw [okRes_ok ho]; exact h)
  exact ⟨h1, h2, h3⟩
set_option maxRecDepth 100000 in
set_option maxHeartbeats 64000000 in
theorem procCalls_walk (n c : Nat) (a : Option Addr) (G : Nat → Int) (L : List Pr) (len cap : Nat) (al : Option Addr) (cs : List Cl) (V : World) (hg : Glob V) (hl : Leads V a n c (prcells L)) (hn : L.length = n) (hG : GOk G) (hL : PrsOk L) (hcl : Leads V al len cap (clcells cs)) (hcn : cs.length = len) (hco : ∀ m ∈ cs, m.Ok) :
    Calls Tryd.prog 3 #[.agg #[.int .i64 (G 0), .int .i64 (G 1), .int .i64 (G 2), .int .i64 (G 3), .int .i64 (G 4), .int .i64 (G 5), .int .i64 (G 6), .int .i64 (G 7), .int .i64 (G 8), .int .i64 (G 9), .int .i64 (G 10), .int .i64 (G 11), .int .i64 (G 12), .int .i64 (G 13), .int .i64 (G 14), .int .i64 (G 15), .slice a n c], .slice al len cap] V (Ret (.bool true) V) := by
  obtain ⟨V1, hV1, hbV1, hsV1, hlV1⟩ := laid V #[.int .i64 (G 0), .int .i64 (G 1), .int .i64 (G 2), .int .i64 (G 3), .int .i64 (G 4), .int .i64 (G 5), .int .i64 (G 6), .int .i64 (G 7), .int .i64 (G 8), .int .i64 (G 9), .int .i64 (G 10), .int .i64 (G 11), .int .i64 (G 12), .int .i64 (G 13), .int .i64 (G 14), .int .i64 (G 15), .slice a n c] 25
  obtain ⟨X2, hX2⟩ : ∃ X, V.heap.size = X := ⟨_, rfl⟩
  rw [hX2] at hlV1
  have KX2 := hid hlV1
  have HB := hid hbV1
  have hVX2 : V.heap.size ≤ X2 := by omega
  clear hbV1 hsV1 hlV1
  have hv1 := hg.one
  have HGV := hid hg
  have HL := hid (hl.grow HB.out)
  have HGG := hid hG
  obtain ⟨LL, hLL⟩ : ∃ l, L.take 20 = l := ⟨_, rfl⟩
  have hPL : PrsOk LL := by rw [← hLL]; exact prs_take hL 20
  have HPL := hid hPL
  have HLL := hid hLL
  have HLN := hid hn
  obtain ⟨q, hq⟩ : ∃ q, LL.length = q := ⟨_, rfl⟩
  have hq20 : q ≤ 20 := by rw [← hq, ← hLL, List.length_take]; omega
  have HQ := hid hq
  have HWK := hid (Wakes_any V1 (hg.grow HB.out))
  have HCL := hid hcl
  have HCN := hid hcn
  have HCO := hid hco
  have hcll := hcl.len
  clear hg hl hn hG hL hLL hPL hq hcl hcn hco
  go_enter Tryd.func3, Tryd.ntmps3
  go_wp2_with fail
  refine (HWK.out).mono ?_
  rintro e w1_87 ⟨rfl, hbn⟩
  have KX2_1 := hid (keep_laid KX2.out hbn)
  have HB_2 := hid (HB.out.trans (hbn.mono HB.out.size))
  have HL_3 := hid (HL.out.grow hbn)
  clear KX2 HB HL hbn HWK hX2 hV1
  have HOWN := hid (Own_any n c a G L w1_87 HL_3.out HLN.out)
  rw [HLL.out] at HOWN
  unfold GivesPs at HOWN
  rw [HQ.out] at HOWN
  go_wp2_with (refine wp_loadW rfl 25 (.tmp 2) rfl X2 _ rfl _ KX2_1.out _ Tryd.underlying25 rfl (by kernel_rfl) ?_; intro v hv; subst hv)
  refine (HOWN.out).mono ?_
  rintro e w2_98 ⟨ap, cp, rfl, hrow, hbn⟩
  have hwV : V.heap.size ≤ w1_87.heap.size := HB_2.out.size
  have KX2_4 := hid (keep_laid KX2_1.out hbn)
  have HB_5 := hid (HB_2.out.trans (hbn.mono HB_2.out.size))
  have HL_6 := hid (HL_3.out.grow hbn)
  clear KX2_1 HB_2 HL_3 hbn
  have HRP := hid (own_base hrow hwV)
  have hlp := (Leads.of_own1 hrow).len
  clear hrow hwV
  obtain ⟨w3_109, hw3_109, hbn, hsn, hln⟩ := laid w2_98 #[.int .i64 0, .int .i64 0, .int .i64 0, .int .i64 0, .int .i64 0, .int .i64 0, .int .i64 0, .int .i64 0, .int .i64 0, .int .i64 0, .int .i64 0, .int .i64 0, .int .i64 0, .int .i64 0, .int .i64 0, .int .i64 0, .slice none 0 0] 25
  obtain ⟨X5, hNMX5⟩ : ∃ X, w2_98.heap.size = X := ⟨_, rfl⟩
  rw [hNMX5] at hln
  have nX2X5 : X2 < X5 := by have := lt_laid KX2_4.out; omega
  have hVX5 : V.heap.size ≤ X5 := by have := HB_5.out.size; omega
  have KX2_7 := hid (keep_laid KX2_4.out hbn)
  have HB_8 := hid (HB_5.out.trans (hbn.mono HB_5.out.size))
  have HL_9 := hid (HL_6.out.grow hbn)
  have HRP_10 := hid (own_grow HRP.out hbn)
  clear KX2_4 HB_5 HL_6 HRP hbn hsn
  have KX5_11 := hid (hln)
  clear hln
  clear HL_9
  clear KX2_7
  go_upto_region 4 with (refine wp_storeW rfl 25 (.tmp 5) (.tmp 20) rfl X5 _ _ rfl rfl _ KX5_11.out (by kernel_rfl) (by rfl) (by simp [Value.oneCell']) ?_; intro u4_123 a1 a2 a3 a4; have HA1 := hid a1; have HA2 := hid a2; have HA3 := hid a3; clear a1 a2 a3 a4)
  have HB_12 := hid (HA3.out _ _ (by omega) HB_8.out)
  have HRP_13 := hid (own_keep HRP_10.out fun k o hk ho => HA2.out k o (fun e => own_neP HRP_10.out KX5_11.out (by decide) (by rw [← e]; exact hk)) ho)
  have KX5_14 := hid (HA1.out)
  clear HA1 HA2 HA3 HB_8 HRP_10 KX5_11 hNMX5 hw3_109
  go_wp2
  go_loopg [23, 6, 7, 8, 9, 10, 11, 12, 13, 14, 15, 16, 58, 78] len (fun g t23 t6 t7 t8 t9 t10 t11 t12 t13 t14 t15 t16 t58 t78 wr => ∃ (j : Nat) (G : Nat → Int) (P : List Pr) (pm : Nat) (pa : Option Addr) (pc : Nat) (v6 v7 v8 v9 v10 v11 v12 v13 v14 v15 v16 v58 v78 : Value), g + j = len ∧ j ≤ 20 ∧ pm ≤ 20 ∧ t23 = .int .i64 ((j : Nat) : Int) ∧ t6 = v6 ∧ t7 = v7 ∧ t8 = v8 ∧ t9 = v9 ∧ t10 = v10 ∧ t11 = v11 ∧ t12 = v12 ∧ t13 = v13 ∧ t14 = v14 ∧ t15 = v15 ∧ t16 = v16 ∧ t58 = v58 ∧ t78 = v78 ∧ Hid (GOk G) ∧ Hid (PrsOk P) ∧ Hid (P.length = pm) ∧ Hid (wr.heap[X5]? = some (.cells #[.int .i64 (G 0), .int .i64 (G 1), .int .i64 (G 2), .int .i64 (G 3), .int .i64 (G 4), .int .i64 (G 5), .int .i64 (G 6), .int .i64 (G 7), .int .i64 (G 8), .int .i64 (G 9), .int .i64 (G 10), .int .i64 (G 11), .int .i64 (G 12), .int .i64 (G 13), .int .i64 (G 14), .int .i64 (G 15), .slice pa pm pc] 25 (0, 0))) ∧ Hid (wr.ownsRow V.heap.size 45 4 (.slice pa pm pc) pm (prcells P)) ∧ Hid (Below V.heap.size V wr))
  case atStart => exact ⟨0, G, LL, q, ap, cp, _, _, _, _, _, _, _, _, _, _, _, _, _, rfl, by omega, hq20, rfl, rfl, rfl, rfl, rfl, rfl, rfl, rfl, rfl, rfl, rfl, rfl, rfl, rfl, HGG, HPL, HQ, KX5_14, HRP_13, HB_12⟩
  case round =>
    clear KX5_14 HRP_13 HB_12 HGG HPL
    obtain ⟨j, G, P, pm, pa, pc, v6, v7, v8, v9, v10, v11, v12, v13, v14, v15, v16, v58, v78, hj, hj20, hpm, rfl, hv6, hv7, hv8, hv9, hv10, hv11, hv12, hv13, hv14, hv15, hv16, hv58, hv78, HGO, HPB, HPM, KX5, HRP, HB⟩ := hrel
    subst hv6 hv7 hv8 hv9 hv10 hv11 hv12 hv13 hv14 hv15 hv16 hv58 hv78
    have HJ := hid hj
    have hlpm := (Leads.of_own1 HRP.out).len
    clear hj
    by_cases hlt : j < len
    · have hP20 : P.take 20 = P := List.take_of_length_le (by rw [HPM.out]; exact hpm)
      have HP20 := hid hP20
      obtain ⟨⟨kd, p1, p2⟩, hc0⟩ : ∃ x, cs[j]? = some x := ⟨_, List.getElem?_eq_getElem (by rw [HCN.out]; exact hlt)⟩
      obtain ⟨b, off, rfl, hcx⟩ := HCL.out.cl hlt hc0
      obtain ⟨f0, f1, f2⟩ := hcx wr HB.out
      obtain ⟨hkd, hp1, hp2⟩ := HCO.out _ (List.mem_of_getElem? hc0)
      dsimp only at f0 f1 f2 hkd hp1 hp2
      clear hcx hc0 hP20
      obtain ⟨w5_148, hw5_148, hbn, hsn, hln⟩ := laid wr #[.int .i64 0, .int .u64 0, .int .u64 0] 31
      obtain ⟨X7, hNMX7⟩ : ∃ X, wr.heap.size = X := ⟨_, rfl⟩
      rw [hNMX7] at hln
      have nX5X7 : X5 < X7 := by have := lt_laid KX5.out; omega
      have hVX7 : V.heap.size ≤ X7 := by have := HB.out.size; omega
      have KX5_15 := hid (keep_laid KX5.out hbn)
      have HRP_16 := hid (own_grow HRP.out hbn)
      have HB_17 := hid (HB.out.trans (hbn.mono HB.out.size))
      clear KX5 HRP HB hbn hsn
      have KX7_18 := hid (hln)
      clear hln
      have KX7_18_o := KX7_18.out
      obtain ⟨u6_160, hu6_160, a1, a2, a3, a4⟩ := putN3 KX7_18.out (.int .i64 kd) (.int .u64 ((p1 : Nat) : Int)) (.int .u64 ((p2 : Nat) : Int))
      obtain ⟨z0, zf0, z1, zf1, z2, zf2⟩ := fcl3 (KX7_18.out)
      have E7_160 := hid hu6_160
      have KX5_19 := hid (a2 X5 _ (by omega) KX5_15.out)
      have HRP_20 := hid (own_keep HRP_16.out fun k o hk ho => a2 k o (fun e => own_neP HRP_16.out KX7_18_o (by decide) (by rw [← e]; exact hk)) ho)
      have HB_21 := hid (a3 _ _ (by omega) HB_17.out)
      have KX7_22 := hid (a1)
      clear KX5_15 HRP_16 HB_17 KX7_18 hu6_160 a1 a2 a3 a4
      clear KX7_18_o
      go_upto_region 7 with (fail)
      rw [← E7_160.out]
      clear z0 z1 z2 zf0 zf1 zf2 hNMX7 hw5_148 f0 f1 f2
      by_cases h40 : j = 20
      · have t40 : (((j : Nat) : Int) == 20) = true := by simp; omega
        go_wp2
        go_ret
        exact ⟨rfl, HB_21.out⟩
      · have t40 : (((j : Nat) : Int) == 20) = false := by simp; omega
        have HOW := hid (Own_any pm pc pa G P u6_160 (Leads.of_own1 HRP_20.out) HPM.out)
        rw [HP20.out] at HOW
        unfold GivesPs at HOW
        rw [HPM.out] at HOW
        go_wp2_with (refine wp_loadW rfl 25 (.tmp 5) rfl X5 _ rfl _ KX5_19.out _ Tryd.underlying25 rfl (by kernel_rfl) ?_; intro v hv; subst hv)
        refine (HOW.out).mono ?_
        rintro e w8_182 ⟨wa, wc, rfl, hrow, hbn⟩
        have hwV : V.heap.size ≤ u6_160.heap.size := HB_21.out.size
        have KX5_23 := hid (keep_laid KX5_19.out hbn)
        have HRP_24 := hid (own_grow HRP_20.out hbn)
        have HB_25 := hid (HB_21.out.trans (hbn.mono HB_21.out.size))
        have KX7_26 := hid (keep_laid KX7_22.out hbn)
        clear KX5_19 HRP_20 HB_21 KX7_22 hbn
        have HRW := hid (own_base hrow hwV)
        have hlw := (Leads.of_own1 hrow).len
        clear hrow hwV
        obtain ⟨w9_194, hw9_194, hbn, hsn, hln⟩ := laid w8_182 #[.int .i64 0, .int .i64 0, .int .i64 0, .int .i64 0, .int .i64 0, .int .i64 0, .int .i64 0, .int .i64 0, .int .i64 0, .int .i64 0, .int .i64 0, .int .i64 0, .int .i64 0, .int .i64 0, .int .i64 0, .int .i64 0, .slice none 0 0] 25
        obtain ⟨X8, hNMX8⟩ : ∃ X, w8_182.heap.size = X := ⟨_, rfl⟩
        rw [hNMX8] at hln
        have nX5X8 : X5 < X8 := by have := lt_laid KX5_23.out; omega
        have nX7X8 : X7 < X8 := by have := lt_laid KX7_26.out; omega
        have hVX8 : V.heap.size ≤ X8 := by have := HB_25.out.size; omega
        have KX5_27 := hid (keep_laid KX5_23.out hbn)
        have HRP_28 := hid (own_grow HRP_24.out hbn)
        have HB_29 := hid (HB_25.out.trans (hbn.mono HB_25.out.size))
        have KX7_30 := hid (keep_laid KX7_26.out hbn)
        have HRW_31 := hid (own_grow HRW.out hbn)
        clear KX5_23 HRP_24 HB_25 KX7_26 HRW hbn hsn
        have KX8_32 := hid (hln)
        clear hln
        go_upto_region 9 with (refine wp_storeW rfl 25 (.tmp 8) (.tmp 31) rfl X8 _ _ rfl rfl _ KX8_32.out (by kernel_rfl) (by rfl) (by simp [Value.oneCell']) ?_; intro u10_208 a1 a2 a3 a4; have HA1 := hid a1; have HA2 := hid a2; have HA3 := hid a3; clear a1 a2 a3 a4)
        have KX5_33 := hid (HA2.out X5 _ (by omega) KX5_27.out)
        have HRP_34 := hid (own_keep HRP_28.out fun k o hk ho => HA2.out k o (fun e => own_neP HRP_28.out KX8_32.out (by decide) (by rw [← e]; exact hk)) ho)
        have HB_35 := hid (HA3.out _ _ (by omega) HB_29.out)
        have KX7_36 := hid (HA2.out X7 _ (by omega) KX7_30.out)
        have HRW_37 := hid (own_keep HRW_31.out fun k o hk ho => HA2.out k o (fun e => own_neP HRW_31.out KX8_32.out (by decide) (by rw [← e]; exact hk)) ho)
        have KX8_38 := hid (HA1.out)
        clear HA1 HA2 HA3 KX5_27 HRP_28 HB_29 KX7_30 HRW_31 KX8_32 hNMX8 hw9_194
        obtain ⟨w11_216, hw11_216, hbn, hsn, hln⟩ := laid u10_208 #[.int .i64 0, .int .i64 0, .int .i64 0, .int .i64 0, .int .i64 0, .int .i64 0, .int .i64 0, .int .i64 0, .int .i64 0, .int .i64 0, .int .i64 0, .int .i64 0, .int .i64 0, .int .i64 0, .int .i64 0, .int .i64 0, .slice none 0 0] 25
        obtain ⟨X9, hNMX9⟩ : ∃ X, u10_208.heap.size = X := ⟨_, rfl⟩
        rw [hNMX9] at hln
        have nX5X9 : X5 < X9 := by have := lt_laid KX5_33.out; omega
        have nX7X9 : X7 < X9 := by have := lt_laid KX7_36.out; omega
        have nX8X9 : X8 < X9 := by have := lt_laid KX8_38.out; omega
        have hVX9 : V.heap.size ≤ X9 := by have := HB_35.out.size; omega
        have KX5_39 := hid (keep_laid KX5_33.out hbn)
        have HRP_40 := hid (own_grow HRP_34.out hbn)
        have HB_41 := hid (HB_35.out.trans (hbn.mono HB_35.out.size))
        have KX7_42 := hid (keep_laid KX7_36.out hbn)
        have HRW_43 := hid (own_grow HRW_37.out hbn)
        have KX8_44 := hid (keep_laid KX8_38.out hbn)
        clear KX5_33 HRP_34 HB_35 KX7_36 HRW_37 KX8_38 hbn hsn
        have KX9_45 := hid (hln)
        clear hln
        obtain ⟨w12_232, hw12_232, hbn, hsn, hln⟩ := laid w11_216 #[.int .i64 0, .int .i64 0, .int .i64 0, .int .i64 0, .int .i64 0, .int .i64 0, .int .i64 0, .int .i64 0, .int .i64 0, .int .i64 0, .int .i64 0, .int .i64 0, .int .i64 0, .int .i64 0, .int .i64 0, .int .i64 0, .slice none 0 0] 25
        obtain ⟨X10, hNMX10⟩ : ∃ X, w11_216.heap.size = X := ⟨_, rfl⟩
        rw [hNMX10] at hln
        have nX5X10 : X5 < X10 := by have := lt_laid KX5_39.out; omega
        have nX7X10 : X7 < X10 := by have := lt_laid KX7_42.out; omega
        have nX8X10 : X8 < X10 := by have := lt_laid KX8_44.out; omega
        have nX9X10 : X9 < X10 := by have := lt_laid KX9_45.out; omega
        have hVX10 : V.heap.size ≤ X10 := by have := HB_41.out.size; omega
        have KX5_46 := hid (keep_laid KX5_39.out hbn)
        have HRP_47 := hid (own_grow HRP_40.out hbn)
        have HB_48 := hid (HB_41.out.trans (hbn.mono HB_41.out.size))
        have KX7_49 := hid (keep_laid KX7_42.out hbn)
        have HRW_50 := hid (own_grow HRW_43.out hbn)
        have KX8_51 := hid (keep_laid KX8_44.out hbn)
        have KX9_52 := hid (keep_laid KX9_45.out hbn)
        clear KX5_39 HRP_40 HB_41 KX7_42 HRW_43 KX8_44 KX9_45 hbn hsn
        have KX10_53 := hid (hln)
        clear hln
        have HRI := hid (Right_any pm pc pa G P w12_232 (Leads.of_own1 HRP_47.out) HPM.out (by omega) HGO.out HPB.out)
        obtain ⟨OK, hOK⟩ : ∃ b, okP G P = b := ⟨_, rfl⟩
        rw [hOK] at HRI
        have HOK := hid hOK
        clear hOK
        go_wp2_with (refine wp_loadW rfl 25 (.tmp 5) rfl X5 _ rfl _ KX5_46.out _ Tryd.underlying25 rfl (by kernel_rfl) ?_; intro v hv; subst hv)
        refine (HRI.out).mono ?_
        rintro e w13_255 ⟨rfl, hbn⟩
        have KX5_54 := hid (keep_laid KX5_46.out hbn)
        have HRP_55 := hid (own_grow HRP_47.out hbn)
        have HB_56 := hid (HB_48.out.trans (hbn.mono HB_48.out.size))
        have KX7_57 := hid (keep_laid KX7_49.out hbn)
        have HRW_58 := hid (own_grow HRW_50.out hbn)
        have KX8_59 := hid (keep_laid KX8_51.out hbn)
        have KX9_60 := hid (keep_laid KX9_52.out hbn)
        have KX10_61 := hid (keep_laid KX10_53.out hbn)
        clear KX5_46 HRP_47 HB_48 KX7_49 HRW_50 KX8_51 KX9_52 KX10_53 hbn HRI hNMX9 hw11_216 hNMX10 hw12_232
        obtain ⟨f0, f1, f2⟩ := ncl3 (KX7_57.out)
        by_cases hk0 : kd = 0
        · have tk0 : (kd == (0 : Int)) = true := by rw [hk0]; rfl
          clear hk0
          obtain ⟨S1, hS1⟩ : ∃ x, w13_255.heap.size = x := ⟨_, rfl⟩
          have LTHRP : Hid (∀ k, (Value.slice pa pm pc).ownBlock = some k → k < S1) := hid (fun k hk => by rw [← hS1]; exact own_lt HRP_55.out k hk)
          have LTHRW : Hid (∀ k, (Value.slice wa pm wc).ownBlock = some k → k < S1) := hid (fun k hk => by rw [← hS1]; exact own_lt HRW_58.out k hk)
          have hVS1 : V.heap.size ≤ S1 := by rw [← hS1]; exact HB_56.out.size
          have HSP := hid (Spawn_any pm pc p1 pa G P w13_255 (HGV.out.grow HB_56.out) (Leads.of_own1 HRP_55.out) HPM.out (by omega) HGO.out HPB.out hp1)
          cases OK with
          | false =>
            as_aux_lemma =>
              rw [okRes_err _ HOK.out] at HSP
              unfold Gives3 at HSP
              dsimp only at HSP
              clear hS1
              go_wp2_with (refine wp_loadW rfl 25 (.tmp 5) rfl X5 _ rfl _ KX5_54.out _ Tryd.underlying25 rfl (by kernel_rfl) ?_; intro v hv; subst hv)
              refine (HSP.out).mono ?_
              rintro e w14_283 ⟨hbn, rfl⟩
              have KX5_62 := hid (keep_laid KX5_54.out hbn)
              have HRP_63 := hid (own_grow HRP_55.out hbn)
              have HB_64 := hid (HB_56.out.trans (hbn.mono HB_56.out.size))
              have KX7_65 := hid (keep_laid KX7_57.out hbn)
              have HRW_66 := hid (own_grow HRW_58.out hbn)
              have KX8_67 := hid (keep_laid KX8_59.out hbn)
              have KX9_68 := hid (keep_laid KX9_60.out hbn)
              have KX10_69 := hid (keep_laid KX10_61.out hbn)
              clear KX5_54 HRP_55 HB_56 KX7_57 HRW_58 KX8_59 KX9_60 KX10_61 hbn HSP
              go_upto_region 20 with (refine wp_storeW rfl 25 (.tmp 9) (.tmp 65) rfl X9 _ _ rfl rfl _ KX9_68.out (by kernel_rfl) (by rfl) (by simp [Value.oneCell']) ?_; intro u15_295 a1 a2 a3 a4; have HA1 := hid a1; have HA2 := hid a2; have HA3 := hid a3; clear a1 a2 a3 a4)
              have KX5_70 := hid (HA2.out X5 _ (by omega) KX5_62.out)
              have HRP_71 := hid (own_keep HRP_63.out fun k o hk ho => HA2.out k o (fun e => own_neP HRP_63.out KX9_68.out (by decide) (by rw [← e]; exact hk)) ho)
              have HB_72 := hid (HA3.out _ _ (by omega) HB_64.out)
              have KX7_73 := hid (HA2.out X7 _ (by omega) KX7_65.out)
              have HRW_74 := hid (own_keep HRW_66.out fun k o hk ho => HA2.out k o (fun e => own_neP HRW_66.out KX9_68.out (by decide) (by rw [← e]; exact hk)) ho)
              have KX8_75 := hid (HA2.out X8 _ (by omega) KX8_67.out)
              have KX9_76 := hid (HA1.out)
              have KX10_77 := hid (HA2.out X10 _ (by omega) KX10_69.out)
              clear HA1 HA2 HA3 KX5_62 HRP_63 HB_64 KX7_65 HRW_66 KX8_67 KX9_68 KX10_69
              clear f0 f1 f2
              have HZ9 : Hid (u15_295.ownsRow V.heap.size 45 4 (.slice none 0 0) 0 (prcells [])) := hid (World.ownsRow_nil _ _ _ _)
              have HGB : Hid (∀ k, (Value.slice none 0 0).ownBlock = some k → V.heap.size ≤ k) := hid (fun k e => by cases e)
              have HGB1 : Hid (∀ k, (Value.slice none 0 0).ownBlock = some k → S1 ≤ k) := hid (fun k e => by cases e)
              have HSM := hid (rSame_any 0 0 0 0 none none zG zG [] [] u15_295 (Leads.of_own1 (show World.ownsRow _ V.heap.size 45 4 (.slice none 0 0) 0 (prcells []) from World.ownsRow_nil _ _ _ _)) rfl (Leads.of_own1 (show World.ownsRow _ V.heap.size 45 4 (.slice none 0 0) 0 (prcells []) from World.ownsRow_nil _ _ _ _)) rfl ⟨by omega, by omega⟩ zG_ok zG_ok (fun x hx => by cases hx) (fun x hx => by cases hx))
              rw [same_self] at HSM
              go_wp2_with (first | (refine wp_loadG rfl 25 (.tmp 9) rfl X9 _ rfl _ KX9_76.out _ Tryd.underlying25 rfl (by kernel_rfl) ?_; intro v hv; subst hv) | (refine wp_loadG rfl 25 (.tmp 10) rfl X10 _ rfl _ KX10_77.out _ Tryd.underlying25 rfl (by kernel_rfl) ?_; intro v hv; subst hv))
              refine HSM.out.mono ?_
              rintro e w16_313 ⟨rfl, hbn⟩
              have KX5_78 := hid (keep_laid KX5_70.out hbn)
              have HRP_79 := hid (own_grow HRP_71.out hbn)
              have HB_80 := hid (HB_72.out.trans (hbn.mono HB_72.out.size))
              have KX7_81 := hid (keep_laid KX7_73.out hbn)
              have HRW_82 := hid (own_grow HRW_74.out hbn)
              have KX8_83 := hid (keep_laid KX8_75.out hbn)
              have KX9_84 := hid (keep_laid KX9_76.out hbn)
              have KX10_85 := hid (keep_laid KX10_77.out hbn)
              clear KX5_70 HRP_71 HB_72 KX7_73 HRW_74 KX8_75 KX9_76 KX10_77 hbn HSM
              have HOW := hid (Own_any 0 0 none zG [] w16_313 (Leads.of_own1 (show World.ownsRow _ V.heap.size 45 4 (.slice none 0 0) 0 (prcells []) from World.ownsRow_nil _ _ _ _)) rfl)
              obtain ⟨L3, hL3⟩ : ∃ l, List.take 20 [] = l := ⟨_, rfl⟩
              obtain ⟨q3, hq3⟩ : ∃ q, L3.length = q := ⟨_, rfl⟩
              have hl3 : PrsOk L3 := by rw [← hL3]; exact prs_take (fun x hx => by cases hx) 20
              have hq3b : q3 ≤ 20 := by rw [← hq3, ← hL3, List.length_take]; omega
              have HL3 := hid hl3
              have HQ3 := hid hq3
              rw [hL3] at HOW
              unfold GivesPs at HOW
              rw [hq3] at HOW
              obtain ⟨S2, hS2⟩ : ∃ x, w16_313.heap.size = x := ⟨_, rfl⟩
              have HGS : Hid (∀ k, (Value.slice none 0 0).ownBlock = some k → k < S2) := hid (fun k hk => by rw [← hS2]; exact own_lt (show World.ownsRow _ V.heap.size 45 4 (.slice none 0 0) 0 (prcells []) from World.ownsRow_nil _ _ _ _) k hk)
              rw [hS2] at HOW
              have hVS2 : V.heap.size ≤ S2 := by rw [← hS2]; exact HB_80.out.size
              clear hL3 hq3 hl3
              go_wp2_with (refine wp_loadW rfl 25 (.tmp 9) rfl X9 _ rfl _ KX9_84.out _ Tryd.underlying25 rfl (by kernel_rfl) ?_; intro v hv; subst hv)
              refine (HOW.out).mono ?_
              rintro e w17_338 ⟨a3, c3, rfl, hrow, hbn⟩
              have hbn : Below w16_313.heap.size w16_313 w17_338 := by rw [hS2]; exact hbn
              have KX5_86 := hid (keep_laid KX5_78.out hbn)
              have HRP_87 := hid (own_grow HRP_79.out hbn)
              have HB_88 := hid (HB_80.out.trans (hbn.mono HB_80.out.size))
              have KX7_89 := hid (keep_laid KX7_81.out hbn)
              have HRW_90 := hid (own_grow HRW_82.out hbn)
              have KX8_91 := hid (keep_laid KX8_83.out hbn)
              have KX9_92 := hid (keep_laid KX9_84.out hbn)
              have KX10_93 := hid (keep_laid KX10_85.out hbn)
              clear KX5_78 HRP_79 HB_80 KX7_81 HRW_82 KX8_83 KX9_84 KX10_85 hbn hS2
              have HRN := hid hrow
              have hlr3 := (Leads.of_own1 hrow).len
              clear hrow
              obtain ⟨w18_355, hw18_355, hbn, hsn, hln⟩ := laid w17_338 #[.int .i64 0, .int .i64 0, .int .i64 0, .int .i64 0, .int .i64 0, .int .i64 0, .int .i64 0, .int .i64 0, .int .i64 0, .int .i64 0, .int .i64 0, .int .i64 0, .int .i64 0, .int .i64 0, .int .i64 0, .int .i64 0, .slice none 0 0] 25
              obtain ⟨X16, hNMX16⟩ : ∃ X, w17_338.heap.size = X := ⟨_, rfl⟩
              rw [hNMX16] at hln
              have nX5X16 : X5 < X16 := by have := lt_laid KX5_86.out; omega
              have nX7X16 : X7 < X16 := by have := lt_laid KX7_89.out; omega
              have nX8X16 : X8 < X16 := by have := lt_laid KX8_91.out; omega
              have nX9X16 : X9 < X16 := by have := lt_laid KX9_92.out; omega
              have nX10X16 : X10 < X16 := by have := lt_laid KX10_93.out; omega
              have hVX16 : V.heap.size ≤ X16 := by have := HB_88.out.size; omega
              have KX5_94 := hid (keep_laid KX5_86.out hbn)
              have HRP_95 := hid (own_grow HRP_87.out hbn)
              have HB_96 := hid (HB_88.out.trans (hbn.mono HB_88.out.size))
              have KX7_97 := hid (keep_laid KX7_89.out hbn)
              have HRW_98 := hid (own_grow HRW_90.out hbn)
              have KX8_99 := hid (keep_laid KX8_91.out hbn)
              have KX9_100 := hid (keep_laid KX9_92.out hbn)
              have KX10_101 := hid (keep_laid KX10_93.out hbn)
              have HRN_102 := hid (own_grow HRN.out hbn)
              clear KX5_86 HRP_87 HB_88 KX7_89 HRW_90 KX8_91 KX9_92 KX10_93 HRN hbn hsn
              have KX16_103 := hid (hln)
              clear hln
              go_upto_region 29 with (refine wp_storeW rfl 25 (.tmp 16) (.tmp 115) rfl X16 _ _ rfl rfl _ KX16_103.out (by kernel_rfl) (by rfl) (by simp [Value.oneCell']) ?_; intro u19_376 a1 a2 a3 a4; have HA1 := hid a1; have HA2 := hid a2; have HA3 := hid a3; clear a1 a2 a3 a4)
              have KX5_104 := hid (HA2.out X5 _ (by omega) KX5_94.out)
              have HRP_105 := hid (own_keep HRP_95.out fun k o hk ho => HA2.out k o (fun e => own_neP HRP_95.out KX16_103.out (by decide) (by rw [← e]; exact hk)) ho)
              have HB_106 := hid (HA3.out _ _ (by omega) HB_96.out)
              have KX7_107 := hid (HA2.out X7 _ (by omega) KX7_97.out)
              have HRW_108 := hid (own_keep HRW_98.out fun k o hk ho => HA2.out k o (fun e => own_neP HRW_98.out KX16_103.out (by decide) (by rw [← e]; exact hk)) ho)
              have KX8_109 := hid (HA2.out X8 _ (by omega) KX8_99.out)
              have KX9_110 := hid (HA2.out X9 _ (by omega) KX9_100.out)
              have KX10_111 := hid (HA2.out X10 _ (by omega) KX10_101.out)
              have HRN_112 := hid (own_keep HRN_102.out fun k o hk ho => HA2.out k o (fun e => own_neP HRN_102.out KX16_103.out (by decide) (by rw [← e]; exact hk)) ho)
              have KX16_113 := hid (HA1.out)
              clear HA1 HA2 HA3 KX5_94 HRP_95 HB_96 KX7_97 HRW_98 KX8_99 KX9_100 KX10_101 HRN_102 KX16_103 hNMX16 hw18_355
              have HSP := hid (Spoil_any 0 0 _ none zG [] u19_376 (show World.ownsRow _ V.heap.size 45 4 (.slice none 0 0) 0 (prcells []) from World.ownsRow_nil _ _ _ _) rfl (by omega))
              go_wp2_with (refine wp_loadW rfl 25 (.tmp 9) rfl X9 _ rfl _ KX9_110.out _ Tryd.underlying25 rfl (by kernel_rfl) ?_; intro v hv; subst hv)
              refine HSP.out.mono ?_
              rintro e w20_389 ⟨rfl, hgs⟩
              have KX5_114 := hid (keep_grown KX5_104.out hgs (own_neP (show World.ownsRow _ V.heap.size 45 4 (.slice none 0 0) 0 (prcells []) from World.ownsRow_nil _ _ _ _) KX5_104.out (by decide)))
              have HRP_115 := hid (own_keep HRP_105.out fun k o hk ho => keep_grown ho hgs (fun e => by have := LTHRP.out k hk; have := HGB1.out k e; omega))
              have HB_116 := hid (HB_106.out.grown hgs HB_106.out.size (fun k e => HGB.out k e))
              have KX7_117 := hid (keep_grown KX7_107.out hgs (own_neP (show World.ownsRow _ V.heap.size 45 4 (.slice none 0 0) 0 (prcells []) from World.ownsRow_nil _ _ _ _) KX7_107.out (by decide)))
              have HRW_118 := hid (own_keep HRW_108.out fun k o hk ho => keep_grown ho hgs (fun e => by have := LTHRW.out k hk; have := HGB1.out k e; omega))
              have KX8_119 := hid (keep_grown KX8_109.out hgs (own_neP (show World.ownsRow _ V.heap.size 45 4 (.slice none 0 0) 0 (prcells []) from World.ownsRow_nil _ _ _ _) KX8_109.out (by decide)))
              have KX9_120 := hid (keep_grown KX9_110.out hgs (own_neP (show World.ownsRow _ V.heap.size 45 4 (.slice none 0 0) 0 (prcells []) from World.ownsRow_nil _ _ _ _) KX9_110.out (by decide)))
              have KX10_121 := hid (keep_grown KX10_111.out hgs (own_neP (show World.ownsRow _ V.heap.size 45 4 (.slice none 0 0) 0 (prcells []) from World.ownsRow_nil _ _ _ _) KX10_111.out (by decide)))
              have HRN_122 := hid (own_keep HRN_112.out fun k o hk ho => keep_grown ho hgs (fun e => by have := HGS.out k e; have := (HRN_112.out.lt k hk).1; omega))
              have KX16_123 := hid (keep_grown KX16_113.out hgs (own_neP (show World.ownsRow _ V.heap.size 45 4 (.slice none 0 0) 0 (prcells []) from World.ownsRow_nil _ _ _ _) KX16_113.out (by decide)))
              clear hgs HSP KX5_104 HRP_105 HB_106 KX7_107 HRW_108 KX8_109 KX9_110 KX10_111 HRN_112 KX16_113
              have HSM := hid (rSame_any pm pc pm wc pa wa G G P P w20_389 (Leads.of_own1 HRP_115.out) HPM.out (Leads.of_own1 HRW_118.out) HPM.out ⟨by omega, by omega⟩ HGO.out HGO.out HPB.out HPB.out)
              rw [same_self] at HSM
              go_wp2_with (first | (refine wp_loadW rfl 25 (.tmp 5) rfl X5 _ rfl _ KX5_114.out _ Tryd.underlying25 rfl (by kernel_rfl) ?_; intro v hv; subst hv) | (refine wp_loadW rfl 25 (.tmp 8) rfl X8 _ rfl _ KX8_119.out _ Tryd.underlying25 rfl (by kernel_rfl) ?_; intro v hv; subst hv))
              refine HSM.out.mono ?_
              rintro e w21_407 ⟨rfl, hbn⟩
              have KX5_124 := hid (keep_laid KX5_114.out hbn)
              have HRP_125 := hid (own_grow HRP_115.out hbn)
              have HB_126 := hid (HB_116.out.trans (hbn.mono HB_116.out.size))
              have KX7_127 := hid (keep_laid KX7_117.out hbn)
              have HRW_128 := hid (own_grow HRW_118.out hbn)
              have KX8_129 := hid (keep_laid KX8_119.out hbn)
              have KX9_130 := hid (keep_laid KX9_120.out hbn)
              have KX10_131 := hid (keep_laid KX10_121.out hbn)
              have HRN_132 := hid (own_grow HRN_122.out hbn)
              have KX16_133 := hid (keep_laid KX16_123.out hbn)
              clear KX5_114 HRP_115 HB_116 KX7_117 HRW_118 KX8_119 KX9_120 KX10_121 HRN_122 KX16_123 hbn HSM
              go_wp2
              go_roundg (gk - 1)
              case measure => have := HJ.out; omega
              case rel => exact ⟨j + 1, G, P, pm, pa, pc, _, _, _, _, _, _, _, _, _, _, _, _, _, by have := HJ.out; omega, by omega, hpm, by go_num, rfl, rfl, rfl, rfl, rfl, rfl, rfl, rfl, rfl, rfl, rfl, rfl, rfl, HGO, HPB, HPM, KX5_124, HRP_125, HB_126⟩
          | true =>
            as_aux_lemma =>
              have HO := hid ((okP_iff G P).1 HOK.out)
              rw [okRes_ok HO.out] at HSP
              obtain ⟨R0, hR0⟩ : ∃ r, spawnP G P p1 = r := ⟨_, rfl⟩
              rw [hR0] at HSP
              have HR0 := hid hR0
              clear hR0
              cases R0 with
              | error e0 =>
                have he0 := spawn_code HR0.out
                have te0 : (((e0 : Nat) : Int) == 0) = false := by simp; omega
                clear he0 hS1
                unfold Gives3 at HSP
                dsimp only at HSP
                go_wp2_with (refine wp_loadW rfl 25 (.tmp 5) rfl X5 _ rfl _ KX5_54.out _ Tryd.underlying25 rfl (by kernel_rfl) ?_; intro v hv; subst hv)
                refine (HSP.out).mono ?_
                rintro e w14_438 ⟨hbn, rfl⟩
                have KX5_62 := hid (keep_laid KX5_54.out hbn)
                have HRP_63 := hid (own_grow HRP_55.out hbn)
                have HB_64 := hid (HB_56.out.trans (hbn.mono HB_56.out.size))
                have KX7_65 := hid (keep_laid KX7_57.out hbn)
                have HRW_66 := hid (own_grow HRW_58.out hbn)
                have KX8_67 := hid (keep_laid KX8_59.out hbn)
                have KX9_68 := hid (keep_laid KX9_60.out hbn)
                have KX10_69 := hid (keep_laid KX10_61.out hbn)
                clear KX5_54 HRP_55 HB_56 KX7_57 HRW_58 KX8_59 KX9_60 KX10_61 hbn HSP
                go_upto_region 21 with (refine wp_storeW rfl 25 (.tmp 9) (.tmp 65) rfl X9 _ _ rfl rfl _ KX9_68.out (by kernel_rfl) (by rfl) (by simp [Value.oneCell']) ?_; intro u15_450 a1 a2 a3 a4; have HA1 := hid a1; have HA2 := hid a2; have HA3 := hid a3; clear a1 a2 a3 a4)
                have KX5_70 := hid (HA2.out X5 _ (by omega) KX5_62.out)
                have HRP_71 := hid (own_keep HRP_63.out fun k o hk ho => HA2.out k o (fun e => own_neP HRP_63.out KX9_68.out (by decide) (by rw [← e]; exact hk)) ho)
                have HB_72 := hid (HA3.out _ _ (by omega) HB_64.out)
                have KX7_73 := hid (HA2.out X7 _ (by omega) KX7_65.out)
                have HRW_74 := hid (own_keep HRW_66.out fun k o hk ho => HA2.out k o (fun e => own_neP HRW_66.out KX9_68.out (by decide) (by rw [← e]; exact hk)) ho)
                have KX8_75 := hid (HA2.out X8 _ (by omega) KX8_67.out)
                have KX9_76 := hid (HA1.out)
                have KX10_77 := hid (HA2.out X10 _ (by omega) KX10_69.out)
                clear HA1 HA2 HA3 KX5_62 HRP_63 HB_64 KX7_65 HRW_66 KX8_67 KX9_68 KX10_69
                clear f0 f1 f2
                obtain ⟨D, hD⟩ : ∃ DX, World.drew u15_450 = DX := ⟨_, rfl⟩
                have hbD : Below u15_450.heap.size u15_450 D := by rw [← hD]; exact (Below.refl _ _).drew
                have HD := hid hD
                clear hD
                have KX5_78 := hid (keep_laid KX5_70.out hbD)
                have HRP_79 := hid (own_grow HRP_71.out hbD)
                have HB_80 := hid (HB_72.out.trans (hbD.mono HB_72.out.size))
                have KX7_81 := hid (keep_laid KX7_73.out hbD)
                have HRW_82 := hid (own_grow HRW_74.out hbD)
                have KX8_83 := hid (keep_laid KX8_75.out hbD)
                have KX9_84 := hid (keep_laid KX9_76.out hbD)
                have KX10_85 := hid (keep_laid KX10_77.out hbD)
                clear KX5_70 HRP_71 HB_72 KX7_73 HRW_74 KX8_75 KX9_76 KX10_77 hbD
                haveI : Nonempty (Two X5 X7 #[.int .i64 (G 0), .int .i64 (G 1), .int .i64 (G 2), .int .i64 (G 3), .int .i64 (G 4), .int .i64 (G 5), .int .i64 (G 6), .int .i64 (G 7), .int .i64 (G 8), .int .i64 (G 9), .int .i64 (G 10), .int .i64 (G 11), .int .i64 (G 12), .int .i64 (G 13), .int .i64 (G 14), .int .i64 (G 15), .slice pa pm pc] #[.int .i64 kd, .int .u64 ((p1 : Nat) : Int), .int .u64 ((p2 : Nat) : Int)] 25 31) := ⟨⟨D, KX5_78.out, KX7_81.out⟩⟩
                have q1 : ∀ z : Two X5 X7 #[.int .i64 (G 0), .int .i64 (G 1), .int .i64 (G 2), .int .i64 (G 3), .int .i64 (G 4), .int .i64 (G 5), .int .i64 (G 6), .int .i64 (G 7), .int .i64 (G 8), .int .i64 (G 9), .int .i64 (G 10), .int .i64 (G 11), .int .i64 (G 12), .int .i64 (G 13), .int .i64 (G 14), .int .i64 (G 15), .slice pa pm pc] #[.int .i64 kd, .int .u64 ((p1 : Nat) : Int), .int .u64 ((p2 : Nat) : Int)] 25 31, z.w.cell? ⟨X7, 1, none⟩ = some (.int .u64 ((p1 : Nat) : Int)) := fun z => cell_laid z.by_ rfl
                have q2 : ∀ z : Two X5 X7 #[.int .i64 (G 0), .int .i64 (G 1), .int .i64 (G 2), .int .i64 (G 3), .int .i64 (G 4), .int .i64 (G 5), .int .i64 (G 6), .int .i64 (G 7), .int .i64 (G 8), .int .i64 (G 9), .int .i64 (G 10), .int .i64 (G 11), .int .i64 (G 12), .int .i64 (G 13), .int .i64 (G 14), .int .i64 (G 15), .slice pa pm pc] #[.int .i64 kd, .int .u64 ((p1 : Nat) : Int), .int .u64 ((p2 : Nat) : Int)] 25 31, z.w.cell? ⟨X7, 2, none⟩ = some (.int .u64 ((p2 : Nat) : Int)) := fun z => cell_laid z.by_ rfl
                refine wp_region_mix3 (fun W => ∃ z : Two X5 X7 #[.int .i64 (G 0), .int .i64 (G 1), .int .i64 (G 2), .int .i64 (G 3), .int .i64 (G 4), .int .i64 (G 5), .int .i64 (G 6), .int .i64 (G 7), .int .i64 (G 8), .int .i64 (G 9), .int .i64 (G 10), .int .i64 (G 11), .int .i64 (G 12), .int .i64 (G 13), .int .i64 (G 14), .int .i64 (G 15), .slice pa pm pc] #[.int .i64 kd, .int .u64 ((p1 : Nat) : Int), .int .u64 ((p2 : Nat) : Int)] 25 31, W = z.w) 12 (.q 0 (.q 2 (.q 3 (.h 1 (.h 4 (.q 5 (.q 6 (.q 7 (.q 8 (.h 9 (.q 10 (.q 11 .done)))))))))))) (by kernel_rfl) (by kernel_rfl) (by rw [HD.out]; exact ⟨⟨D, KX5_78.out, KX7_81.out⟩, rfl⟩) ?_
                rw [HD.out]
                refine wpMix3_q rfl rfl ?_
                refine wpQuiet_loadW rfl 25 (.tmp 5) rfl X5 _ rfl _ (by rintro w ⟨z, rfl⟩; exact z.bx) _ Tryd.underlying25 rfl (by kernel_rfl) ?_
                intro v hv
                subst hv
                refine wpQuiet_nil ?_
                simp only [Act.put, List.setIfInBounds_toArray, List.set_cons_succ, List.set_cons_zero]
                repeat (refine wpMix3_q rfl rfl ?_; go_big_quiet_step (fail); refine wpQuiet_nil ?_)
                have HOW := hid (Own_any pm pc pa G P D (Leads.of_own1 HRP_79.out) HPM.out)
                rw [HP20.out] at HOW
                unfold GivesPs at HOW
                rw [HPM.out] at HOW
                refine wpMix3_h rfl fun R' hR' hO => ?_
                go_wp2_with fail
                refine HOW.out.mono ?_
                rintro e w31 ⟨oa, oc, rfl, hrow, hbn⟩
                have hlo := (Leads.of_own1 hrow).len
                have HRO := hid hrow
                clear hrow HOW
                have KX5_86 := hid (keep_laid KX5_78.out hbn)
                have HRP_87 := hid (own_grow HRP_79.out hbn)
                have HB_88 := hid (HB_80.out.trans (hbn.mono HB_80.out.size))
                have KX7_89 := hid (keep_laid KX7_81.out hbn)
                have HRW_90 := hid (own_grow HRW_82.out hbn)
                have KX8_91 := hid (keep_laid KX8_83.out hbn)
                have KX9_92 := hid (keep_laid KX9_84.out hbn)
                have KX10_93 := hid (keep_laid KX10_85.out hbn)
                clear KX5_78 HRP_79 HB_80 KX7_81 HRW_82 KX8_83 KX9_84 KX10_85 hbn
                go_wp2
                refine hR' _ _ ⟨⟨w31, KX5_86.out, KX7_89.out⟩, rfl⟩ ?_
                clear hR' hO R'
                have HRF := hid ((fun W hW => rSpawn_any pm oc p1 oa G P W hW HPM.out (by omega) HPB.out HO.out) w31 (Leads.of_own1 HRO.out))
                rw [HR0.out] at HRF
                unfold Gives3 at HRF
                dsimp only at HRF
                refine wpMix3_h rfl fun R' hR' hO => ?_
                go_wp2_with fail
                refine HRF.out.mono ?_
                rintro e w32 ⟨hbn, rfl⟩
                clear HRF HRO
                have KX5_94 := hid (keep_laid KX5_86.out hbn)
                have HRP_95 := hid (own_grow HRP_87.out hbn)
                have HB_96 := hid (HB_88.out.trans (hbn.mono HB_88.out.size))
                have KX7_97 := hid (keep_laid KX7_89.out hbn)
                have HRW_98 := hid (own_grow HRW_90.out hbn)
                have KX8_99 := hid (keep_laid KX8_91.out hbn)
                have KX9_100 := hid (keep_laid KX9_92.out hbn)
                have KX10_101 := hid (keep_laid KX10_93.out hbn)
                clear KX5_86 HRP_87 HB_88 KX7_89 HRW_90 KX8_91 KX9_92 KX10_93 hbn
                go_wp2
                refine hR' _ _ ⟨⟨w32, KX5_94.out, KX7_97.out⟩, rfl⟩ ?_
                clear hR' hO R'
                repeat (refine wpMix3_q rfl rfl ?_; go_big_quiet_step (fail); refine wpQuiet_nil ?_)
                refine wpMix3_h rfl fun R' hR' hO => ?_
                go_wp2_with (refine wp_storeW rfl 25 (.tmp 10) (.tmp 75) rfl X10 _ _ rfl rfl _ KX10_101.out (by kernel_rfl) (by rfl) (by simp [Value.oneCell']) ?_; intro u33 a1 a2 a3 a4; have HA1 := hid a1; have HA2 := hid a2; have HA3 := hid a3; clear a1 a2 a3 a4)
                have KX5_102 := hid (HA2.out X5 _ (by omega) KX5_94.out)
                have HRP_103 := hid (own_keep HRP_95.out fun k o hk ho => HA2.out k o (fun e => own_neP HRP_95.out KX10_101.out (by decide) (by rw [← e]; exact hk)) ho)
                have HB_104 := hid (HA3.out _ _ (by omega) HB_96.out)
                have KX7_105 := hid (HA2.out X7 _ (by omega) KX7_97.out)
                have HRW_106 := hid (own_keep HRW_98.out fun k o hk ho => HA2.out k o (fun e => own_neP HRW_98.out KX10_101.out (by decide) (by rw [← e]; exact hk)) ho)
                have KX8_107 := hid (HA2.out X8 _ (by omega) KX8_99.out)
                have KX9_108 := hid (HA2.out X9 _ (by omega) KX9_100.out)
                have KX10_109 := hid (HA1.out)
                clear HA1 HA2 HA3 KX5_94 HRP_95 HB_96 KX7_97 HRW_98 KX8_99 KX9_100 KX10_101
                refine hR' _ _ ⟨⟨u33, KX5_102.out, KX7_105.out⟩, rfl⟩ ?_
                clear hR' hO R'
                repeat (refine wpMix3_q rfl rfl ?_; go_big_quiet_step (fail); refine wpQuiet_nil ?_)
                refine wpMix3_done ?_
                simp only [List.drop_succ_cons, List.drop_nil]
                clear q1 q2
                have HGB : Hid (∀ k, (Value.slice none 0 0).ownBlock = some k → V.heap.size ≤ k) := hid (fun k e => by cases e)
                have HGB1 : Hid (∀ k, (Value.slice none 0 0).ownBlock = some k → S1 ≤ k) := hid (fun k e => by cases e)
                have HSM := hid (rSame_any 0 0 0 0 none none zG zG [] [] u33 (Leads.of_own1 (show World.ownsRow _ V.heap.size 45 4 (.slice none 0 0) 0 (prcells []) from World.ownsRow_nil _ _ _ _)) rfl (Leads.of_own1 (show World.ownsRow _ V.heap.size 45 4 (.slice none 0 0) 0 (prcells []) from World.ownsRow_nil _ _ _ _)) rfl ⟨by omega, by omega⟩ zG_ok zG_ok (fun x hx => by cases hx) (fun x hx => by cases hx))
                rw [same_self] at HSM
                go_wp2_with (first | (refine wp_loadG rfl 25 (.tmp 9) rfl X9 _ rfl _ KX9_108.out _ Tryd.underlying25 rfl (by kernel_rfl) ?_; intro v hv; subst hv) | (refine wp_loadG rfl 25 (.tmp 10) rfl X10 _ rfl _ KX10_109.out _ Tryd.underlying25 rfl (by kernel_rfl) ?_; intro v hv; subst hv))
                refine HSM.out.mono ?_
                rintro e w16_554 ⟨rfl, hbn⟩
                have KX5_110 := hid (keep_laid KX5_102.out hbn)
                have HRP_111 := hid (own_grow HRP_103.out hbn)
                have HB_112 := hid (HB_104.out.trans (hbn.mono HB_104.out.size))
                have KX7_113 := hid (keep_laid KX7_105.out hbn)
                have HRW_114 := hid (own_grow HRW_106.out hbn)
                have KX8_115 := hid (keep_laid KX8_107.out hbn)
                have KX9_116 := hid (keep_laid KX9_108.out hbn)
                have KX10_117 := hid (keep_laid KX10_109.out hbn)
                clear KX5_102 HRP_103 HB_104 KX7_105 HRW_106 KX8_107 KX9_108 KX10_109 hbn HSM
                have HOW := hid (Own_any 0 0 none zG [] w16_554 (Leads.of_own1 (show World.ownsRow _ V.heap.size 45 4 (.slice none 0 0) 0 (prcells []) from World.ownsRow_nil _ _ _ _)) rfl)
                obtain ⟨L3, hL3⟩ : ∃ l, List.take 20 [] = l := ⟨_, rfl⟩
                obtain ⟨q3, hq3⟩ : ∃ q, L3.length = q := ⟨_, rfl⟩
                have hl3 : PrsOk L3 := by rw [← hL3]; exact prs_take (fun x hx => by cases hx) 20
                have hq3b : q3 ≤ 20 := by rw [← hq3, ← hL3, List.length_take]; omega
                have HL3 := hid hl3
                have HQ3 := hid hq3
                rw [hL3] at HOW
                unfold GivesPs at HOW
                rw [hq3] at HOW
                obtain ⟨S2, hS2⟩ : ∃ x, w16_554.heap.size = x := ⟨_, rfl⟩
                have HGS : Hid (∀ k, (Value.slice none 0 0).ownBlock = some k → k < S2) := hid (fun k hk => by rw [← hS2]; exact own_lt (show World.ownsRow _ V.heap.size 45 4 (.slice none 0 0) 0 (prcells []) from World.ownsRow_nil _ _ _ _) k hk)
                rw [hS2] at HOW
                have hVS2 : V.heap.size ≤ S2 := by rw [← hS2]; exact HB_112.out.size
                clear hL3 hq3 hl3
                go_wp2_with (refine wp_loadW rfl 25 (.tmp 9) rfl X9 _ rfl _ KX9_116.out _ Tryd.underlying25 rfl (by kernel_rfl) ?_; intro v hv; subst hv)
                refine (HOW.out).mono ?_
                rintro e w17_579 ⟨a3, c3, rfl, hrow, hbn⟩
                have hbn : Below w16_554.heap.size w16_554 w17_579 := by rw [hS2]; exact hbn
                have KX5_118 := hid (keep_laid KX5_110.out hbn)
                have HRP_119 := hid (own_grow HRP_111.out hbn)
                have HB_120 := hid (HB_112.out.trans (hbn.mono HB_112.out.size))
                have KX7_121 := hid (keep_laid KX7_113.out hbn)
                have HRW_122 := hid (own_grow HRW_114.out hbn)
                have KX8_123 := hid (keep_laid KX8_115.out hbn)
                have KX9_124 := hid (keep_laid KX9_116.out hbn)
                have KX10_125 := hid (keep_laid KX10_117.out hbn)
                clear KX5_110 HRP_111 HB_112 KX7_113 HRW_114 KX8_115 KX9_116 KX10_117 hbn hS2
                have HRN := hid hrow
                have hlr3 := (Leads.of_own1 hrow).len
                clear hrow
                obtain ⟨w18_596, hw18_596, hbn, hsn, hln⟩ := laid w17_579 #[.int .i64 0, .int .i64 0, .int .i64 0, .int .i64 0, .int .i64 0, .int .i64 0, .int .i64 0, .int .i64 0, .int .i64 0, .int .i64 0, .int .i64 0, .int .i64 0, .int .i64 0, .int .i64 0, .int .i64 0, .int .i64 0, .slice none 0 0] 25
                obtain ⟨X16, hNMX16⟩ : ∃ X, w17_579.heap.size = X := ⟨_, rfl⟩
                rw [hNMX16] at hln
                have nX5X16 : X5 < X16 := by have := lt_laid KX5_118.out; omega
                have nX7X16 : X7 < X16 := by have := lt_laid KX7_121.out; omega
                have nX8X16 : X8 < X16 := by have := lt_laid KX8_123.out; omega
                have nX9X16 : X9 < X16 := by have := lt_laid KX9_124.out; omega
                have nX10X16 : X10 < X16 := by have := lt_laid KX10_125.out; omega
                have hVX16 : V.heap.size ≤ X16 := by have := HB_120.out.size; omega
                have KX5_126 := hid (keep_laid KX5_118.out hbn)
                have HRP_127 := hid (own_grow HRP_119.out hbn)
                have HB_128 := hid (HB_120.out.trans (hbn.mono HB_120.out.size))
                have KX7_129 := hid (keep_laid KX7_121.out hbn)
                have HRW_130 := hid (own_grow HRW_122.out hbn)
                have KX8_131 := hid (keep_laid KX8_123.out hbn)
                have KX9_132 := hid (keep_laid KX9_124.out hbn)
                have KX10_133 := hid (keep_laid KX10_125.out hbn)
                have HRN_134 := hid (own_grow HRN.out hbn)
                clear KX5_118 HRP_119 HB_120 KX7_121 HRW_122 KX8_123 KX9_124 KX10_125 HRN hbn hsn
                have KX16_135 := hid (hln)
                clear hln
                go_upto_region 29 with (refine wp_storeW rfl 25 (.tmp 16) (.tmp 115) rfl X16 _ _ rfl rfl _ KX16_135.out (by kernel_rfl) (by rfl) (by simp [Value.oneCell']) ?_; intro u19_617 a1 a2 a3 a4; have HA1 := hid a1; have HA2 := hid a2; have HA3 := hid a3; clear a1 a2 a3 a4)
                have KX5_136 := hid (HA2.out X5 _ (by omega) KX5_126.out)
                have HRP_137 := hid (own_keep HRP_127.out fun k o hk ho => HA2.out k o (fun e => own_neP HRP_127.out KX16_135.out (by decide) (by rw [← e]; exact hk)) ho)
                have HB_138 := hid (HA3.out _ _ (by omega) HB_128.out)
                have KX7_139 := hid (HA2.out X7 _ (by omega) KX7_129.out)
                have HRW_140 := hid (own_keep HRW_130.out fun k o hk ho => HA2.out k o (fun e => own_neP HRW_130.out KX16_135.out (by decide) (by rw [← e]; exact hk)) ho)
                have KX8_141 := hid (HA2.out X8 _ (by omega) KX8_131.out)
                have KX9_142 := hid (HA2.out X9 _ (by omega) KX9_132.out)
                have KX10_143 := hid (HA2.out X10 _ (by omega) KX10_133.out)
                have HRN_144 := hid (own_keep HRN_134.out fun k o hk ho => HA2.out k o (fun e => own_neP HRN_134.out KX16_135.out (by decide) (by rw [← e]; exact hk)) ho)
                have KX16_145 := hid (HA1.out)
                clear HA1 HA2 HA3 KX5_126 HRP_127 HB_128 KX7_129 HRW_130 KX8_131 KX9_132 KX10_133 HRN_134 KX16_135 hNMX16 hw18_596
                have HSP := hid (Spoil_any 0 0 _ none zG [] u19_617 (show World.ownsRow _ V.heap.size 45 4 (.slice none 0 0) 0 (prcells []) from World.ownsRow_nil _ _ _ _) rfl (by omega))
                go_wp2_with (refine wp_loadW rfl 25 (.tmp 9) rfl X9 _ rfl _ KX9_142.out _ Tryd.underlying25 rfl (by kernel_rfl) ?_; intro v hv; subst hv)
                refine HSP.out.mono ?_
                rintro e w20_630 ⟨rfl, hgs⟩
                have KX5_146 := hid (keep_grown KX5_136.out hgs (own_neP (show World.ownsRow _ V.heap.size 45 4 (.slice none 0 0) 0 (prcells []) from World.ownsRow_nil _ _ _ _) KX5_136.out (by decide)))
                have HRP_147 := hid (own_keep HRP_137.out fun k o hk ho => keep_grown ho hgs (fun e => by have := LTHRP.out k hk; have := HGB1.out k e; omega))
                have HB_148 := hid (HB_138.out.grown hgs HB_138.out.size (fun k e => HGB.out k e))
                have KX7_149 := hid (keep_grown KX7_139.out hgs (own_neP (show World.ownsRow _ V.heap.size 45 4 (.slice none 0 0) 0 (prcells []) from World.ownsRow_nil _ _ _ _) KX7_139.out (by decide)))
                have HRW_150 := hid (own_keep HRW_140.out fun k o hk ho => keep_grown ho hgs (fun e => by have := LTHRW.out k hk; have := HGB1.out k e; omega))
                have KX8_151 := hid (keep_grown KX8_141.out hgs (own_neP (show World.ownsRow _ V.heap.size 45 4 (.slice none 0 0) 0 (prcells []) from World.ownsRow_nil _ _ _ _) KX8_141.out (by decide)))
                have KX9_152 := hid (keep_grown KX9_142.out hgs (own_neP (show World.ownsRow _ V.heap.size 45 4 (.slice none 0 0) 0 (prcells []) from World.ownsRow_nil _ _ _ _) KX9_142.out (by decide)))
                have KX10_153 := hid (keep_grown KX10_143.out hgs (own_neP (show World.ownsRow _ V.heap.size 45 4 (.slice none 0 0) 0 (prcells []) from World.ownsRow_nil _ _ _ _) KX10_143.out (by decide)))
                have HRN_154 := hid (own_keep HRN_144.out fun k o hk ho => keep_grown ho hgs (fun e => by have := HGS.out k e; have := (HRN_144.out.lt k hk).1; omega))
                have KX16_155 := hid (keep_grown KX16_145.out hgs (own_neP (show World.ownsRow _ V.heap.size 45 4 (.slice none 0 0) 0 (prcells []) from World.ownsRow_nil _ _ _ _) KX16_145.out (by decide)))
                clear hgs HSP KX5_136 HRP_137 HB_138 KX7_139 HRW_140 KX8_141 KX9_142 KX10_143 HRN_144 KX16_145
                have HSM := hid (rSame_any pm pc pm wc pa wa G G P P w20_630 (Leads.of_own1 HRP_147.out) HPM.out (Leads.of_own1 HRW_150.out) HPM.out ⟨by omega, by omega⟩ HGO.out HGO.out HPB.out HPB.out)
                rw [same_self] at HSM
                go_wp2_with (first | (refine wp_loadW rfl 25 (.tmp 5) rfl X5 _ rfl _ KX5_146.out _ Tryd.underlying25 rfl (by kernel_rfl) ?_; intro v hv; subst hv) | (refine wp_loadW rfl 25 (.tmp 8) rfl X8 _ rfl _ KX8_151.out _ Tryd.underlying25 rfl (by kernel_rfl) ?_; intro v hv; subst hv))
                refine HSM.out.mono ?_
                rintro e w21_648 ⟨rfl, hbn⟩
                have KX5_156 := hid (keep_laid KX5_146.out hbn)
                have HRP_157 := hid (own_grow HRP_147.out hbn)
                have HB_158 := hid (HB_148.out.trans (hbn.mono HB_148.out.size))
                have KX7_159 := hid (keep_laid KX7_149.out hbn)
                have HRW_160 := hid (own_grow HRW_150.out hbn)
                have KX8_161 := hid (keep_laid KX8_151.out hbn)
                have KX9_162 := hid (keep_laid KX9_152.out hbn)
                have KX10_163 := hid (keep_laid KX10_153.out hbn)
                have HRN_164 := hid (own_grow HRN_154.out hbn)
                have KX16_165 := hid (keep_laid KX16_155.out hbn)
                clear KX5_146 HRP_147 HB_148 KX7_149 HRW_150 KX8_151 KX9_152 KX10_153 HRN_154 KX16_155 hbn HSM
                go_wp2
                go_roundg (gk - 1)
                case measure => have := HJ.out; omega
                case rel => exact ⟨j + 1, G, P, pm, pa, pc, _, _, _, _, _, _, _, _, _, _, _, _, _, by have := HJ.out; omega, by omega, hpm, by go_num, rfl, rfl, rfl, rfl, rfl, rfl, rfl, rfl, rfl, rfl, rfl, rfl, rfl, HGO, HPB, HPM, KX5_156, HRP_157, HB_158⟩
              | ok r0 =>
                obtain ⟨G1, L1, n1⟩ := r0
                obtain ⟨hG1, hL1, hl1⟩ := spawnP_inv hp1 HGO.out HPB.out HO.out HR0.out
                obtain ⟨m1, hm1⟩ : ∃ m, L1.length = m := ⟨_, rfl⟩
                rw [hm1] at hl1
                have HG1 := hid hG1
                have HL1 := hid hL1
                have HM1 := hid hm1
                unfold Gives3 at HSP
                dsimp only at HSP
                rw [hm1, hS1] at HSP
                clear hG1 hL1 hm1
                go_wp2_with (refine wp_loadW rfl 25 (.tmp 5) rfl X5 _ rfl _ KX5_54.out _ Tryd.underlying25 rfl (by kernel_rfl) ?_; intro v hv; subst hv)
                refine (HSP.out).mono ?_
                rintro e w14_676 ⟨hbn, a1, c1, rfl, hrow⟩
                have hbn : Below w13_255.heap.size w13_255 w14_676 := by rw [hS1]; exact hbn
                have KX5_62 := hid (keep_laid KX5_54.out hbn)
                have HRP_63 := hid (own_grow HRP_55.out hbn)
                have HB_64 := hid (HB_56.out.trans (hbn.mono HB_56.out.size))
                have KX7_65 := hid (keep_laid KX7_57.out hbn)
                have HRW_66 := hid (own_grow HRW_58.out hbn)
                have KX8_67 := hid (keep_laid KX8_59.out hbn)
                have KX9_68 := hid (keep_laid KX9_60.out hbn)
                have KX10_69 := hid (keep_laid KX10_61.out hbn)
                clear KX5_54 HRP_55 HB_56 KX7_57 HRW_58 KX8_59 KX9_60 KX10_61 hbn hS1
                have HRG := hid hrow
                have hlr1 := (Leads.of_own1 hrow).len
                have HGB1 : Hid (∀ k, (Value.slice a1 m1 c1).ownBlock = some k → S1 ≤ k) := hid (fun k hk => (hrow.lt k hk).1)
                have HGB : Hid (∀ k, (Value.slice a1 m1 c1).ownBlock = some k → V.heap.size ≤ k) := hid (fun k hk => Nat.le_trans hVS1 (HGB1.out k hk))
                clear hrow
                go_upto_region 21 with (refine wp_storeW rfl 25 (.tmp 9) (.tmp 65) rfl X9 _ _ rfl rfl _ KX9_68.out (by kernel_rfl) (by rfl) (by simp [Value.oneCell']) ?_; intro u15_694 a1 a2 a3 a4; have HA1 := hid a1; have HA2 := hid a2; have HA3 := hid a3; clear a1 a2 a3 a4)
                have KX5_70 := hid (HA2.out X5 _ (by omega) KX5_62.out)
                have HRP_71 := hid (own_keep HRP_63.out fun k o hk ho => HA2.out k o (fun e => own_neP HRP_63.out KX9_68.out (by decide) (by rw [← e]; exact hk)) ho)
                have HB_72 := hid (HA3.out _ _ (by omega) HB_64.out)
                have KX7_73 := hid (HA2.out X7 _ (by omega) KX7_65.out)
                have HRW_74 := hid (own_keep HRW_66.out fun k o hk ho => HA2.out k o (fun e => own_neP HRW_66.out KX9_68.out (by decide) (by rw [← e]; exact hk)) ho)
                have KX8_75 := hid (HA2.out X8 _ (by omega) KX8_67.out)
                have KX9_76 := hid (HA1.out)
                have KX10_77 := hid (HA2.out X10 _ (by omega) KX10_69.out)
                have HRG_78 := hid (own_keep HRG.out fun k o hk ho => HA2.out k o (fun e => own_neP HRG.out KX9_68.out (by decide) (by rw [← e]; exact hk)) ho)
                clear HA1 HA2 HA3 KX5_62 HRP_63 HB_64 KX7_65 HRW_66 KX8_67 KX9_68 KX10_69 HRG
                clear f0 f1 f2
                obtain ⟨D, hD⟩ : ∃ DX, World.drew u15_694 = DX := ⟨_, rfl⟩
                have hbD : Below u15_694.heap.size u15_694 D := by rw [← hD]; exact (Below.refl _ _).drew
                have HD := hid hD
                clear hD
                have KX5_79 := hid (keep_laid KX5_70.out hbD)
                have HRP_80 := hid (own_grow HRP_71.out hbD)
                have HB_81 := hid (HB_72.out.trans (hbD.mono HB_72.out.size))
                have KX7_82 := hid (keep_laid KX7_73.out hbD)
                have HRW_83 := hid (own_grow HRW_74.out hbD)
                have KX8_84 := hid (keep_laid KX8_75.out hbD)
                have KX9_85 := hid (keep_laid KX9_76.out hbD)
                have KX10_86 := hid (keep_laid KX10_77.out hbD)
                have HRG_87 := hid (own_grow HRG_78.out hbD)
                clear KX5_70 HRP_71 HB_72 KX7_73 HRW_74 KX8_75 KX9_76 KX10_77 HRG_78 hbD
                haveI : Nonempty (Two X5 X7 #[.int .i64 (G 0), .int .i64 (G 1), .int .i64 (G 2), .int .i64 (G 3), .int .i64 (G 4), .int .i64 (G 5), .int .i64 (G 6), .int .i64 (G 7), .int .i64 (G 8), .int .i64 (G 9), .int .i64 (G 10), .int .i64 (G 11), .int .i64 (G 12), .int .i64 (G 13), .int .i64 (G 14), .int .i64 (G 15), .slice pa pm pc] #[.int .i64 kd, .int .u64 ((p1 : Nat) : Int), .int .u64 ((p2 : Nat) : Int)] 25 31) := ⟨⟨D, KX5_79.out, KX7_82.out⟩⟩
                have q1 : ∀ z : Two X5 X7 #[.int .i64 (G 0), .int .i64 (G 1), .int .i64 (G 2), .int .i64 (G 3), .int .i64 (G 4), .int .i64 (G 5), .int .i64 (G 6), .int .i64 (G 7), .int .i64 (G 8), .int .i64 (G 9), .int .i64 (G 10), .int .i64 (G 11), .int .i64 (G 12), .int .i64 (G 13), .int .i64 (G 14), .int .i64 (G 15), .slice pa pm pc] #[.int .i64 kd, .int .u64 ((p1 : Nat) : Int), .int .u64 ((p2 : Nat) : Int)] 25 31, z.w.cell? ⟨X7, 1, none⟩ = some (.int .u64 ((p1 : Nat) : Int)) := fun z => cell_laid z.by_ rfl
                have q2 : ∀ z : Two X5 X7 #[.int .i64 (G 0), .int .i64 (G 1), .int .i64 (G 2), .int .i64 (G 3), .int .i64 (G 4), .int .i64 (G 5), .int .i64 (G 6), .int .i64 (G 7), .int .i64 (G 8), .int .i64 (G 9), .int .i64 (G 10), .int .i64 (G 11), .int .i64 (G 12), .int .i64 (G 13), .int .i64 (G 14), .int .i64 (G 15), .slice pa pm pc] #[.int .i64 kd, .int .u64 ((p1 : Nat) : Int), .int .u64 ((p2 : Nat) : Int)] 25 31, z.w.cell? ⟨X7, 2, none⟩ = some (.int .u64 ((p2 : Nat) : Int)) := fun z => cell_laid z.by_ rfl
                refine wp_region_mix3 (fun W => ∃ z : Two X5 X7 #[.int .i64 (G 0), .int .i64 (G 1), .int .i64 (G 2), .int .i64 (G 3), .int .i64 (G 4), .int .i64 (G 5), .int .i64 (G 6), .int .i64 (G 7), .int .i64 (G 8), .int .i64 (G 9), .int .i64 (G 10), .int .i64 (G 11), .int .i64 (G 12), .int .i64 (G 13), .int .i64 (G 14), .int .i64 (G 15), .slice pa pm pc] #[.int .i64 kd, .int .u64 ((p1 : Nat) : Int), .int .u64 ((p2 : Nat) : Int)] 25 31, W = z.w) 12 (.q 0 (.q 2 (.q 3 (.h 1 (.h 4 (.q 5 (.q 6 (.q 7 (.q 8 (.h 9 (.q 10 (.q 11 .done)))))))))))) (by kernel_rfl) (by kernel_rfl) (by rw [HD.out]; exact ⟨⟨D, KX5_79.out, KX7_82.out⟩, rfl⟩) ?_
                rw [HD.out]
                refine wpMix3_q rfl rfl ?_
                refine wpQuiet_loadW rfl 25 (.tmp 5) rfl X5 _ rfl _ (by rintro w ⟨z, rfl⟩; exact z.bx) _ Tryd.underlying25 rfl (by kernel_rfl) ?_
                intro v hv
                subst hv
                refine wpQuiet_nil ?_
                simp only [Act.put, List.setIfInBounds_toArray, List.set_cons_succ, List.set_cons_zero]
                repeat (refine wpMix3_q rfl rfl ?_; go_big_quiet_step (fail); refine wpQuiet_nil ?_)
                have HOW := hid (Own_any pm pc pa G P D (Leads.of_own1 HRP_80.out) HPM.out)
                rw [HP20.out] at HOW
                unfold GivesPs at HOW
                rw [HPM.out] at HOW
                refine wpMix3_h rfl fun R' hR' hO => ?_
                go_wp2_with fail
                refine HOW.out.mono ?_
                rintro e w31 ⟨oa, oc, rfl, hrow, hbn⟩
                have hlo := (Leads.of_own1 hrow).len
                have HRO := hid hrow
                clear hrow HOW
                have KX5_88 := hid (keep_laid KX5_79.out hbn)
                have HRP_89 := hid (own_grow HRP_80.out hbn)
                have HB_90 := hid (HB_81.out.trans (hbn.mono HB_81.out.size))
                have KX7_91 := hid (keep_laid KX7_82.out hbn)
                have HRW_92 := hid (own_grow HRW_83.out hbn)
                have KX8_93 := hid (keep_laid KX8_84.out hbn)
                have KX9_94 := hid (keep_laid KX9_85.out hbn)
                have KX10_95 := hid (keep_laid KX10_86.out hbn)
                have HRG_96 := hid (own_grow HRG_87.out hbn)
                clear KX5_79 HRP_80 HB_81 KX7_82 HRW_83 KX8_84 KX9_85 KX10_86 HRG_87 hbn
                go_wp2
                refine hR' _ _ ⟨⟨w31, KX5_88.out, KX7_91.out⟩, rfl⟩ ?_
                clear hR' hO R'
                have HRF := hid ((fun W hW => rSpawn_any pm oc p1 oa G P W hW HPM.out (by omega) HPB.out HO.out) w31 (Leads.of_own1 HRO.out))
                rw [HR0.out] at HRF
                unfold Gives3 at HRF
                dsimp only at HRF
                refine wpMix3_h rfl fun R' hR' hO => ?_
                go_wp2_with fail
                refine HRF.out.mono ?_
                rintro e w32 ⟨hbn, a2, c2, rfl, hrow⟩
                have hlr2 := (Leads.of_own1 hrow).len
                have HRQ := hid hrow
                rw [HM1.out] at HRQ hlr2 ⊢
                clear hrow
                clear HRF HRO
                have KX5_97 := hid (keep_laid KX5_88.out hbn)
                have HRP_98 := hid (own_grow HRP_89.out hbn)
                have HB_99 := hid (HB_90.out.trans (hbn.mono HB_90.out.size))
                have KX7_100 := hid (keep_laid KX7_91.out hbn)
                have HRW_101 := hid (own_grow HRW_92.out hbn)
                have KX8_102 := hid (keep_laid KX8_93.out hbn)
                have KX9_103 := hid (keep_laid KX9_94.out hbn)
                have KX10_104 := hid (keep_laid KX10_95.out hbn)
                have HRG_105 := hid (own_grow HRG_96.out hbn)
                clear KX5_88 HRP_89 HB_90 KX7_91 HRW_92 KX8_93 KX9_94 KX10_95 HRG_96 hbn
                go_wp2
                refine hR' _ _ ⟨⟨w32, KX5_97.out, KX7_100.out⟩, rfl⟩ ?_
                clear hR' hO R'
                repeat (refine wpMix3_q rfl rfl ?_; go_big_quiet_step (fail); refine wpQuiet_nil ?_)
                refine wpMix3_h rfl fun R' hR' hO => ?_
                go_wp2_with (refine wp_storeW rfl 25 (.tmp 10) (.tmp 75) rfl X10 _ _ rfl rfl _ KX10_104.out (by kernel_rfl) (by rfl) (by simp [Value.oneCell']) ?_; intro u33 a1 a2 a3 a4; have HA1 := hid a1; have HA2 := hid a2; have HA3 := hid a3; clear a1 a2 a3 a4)
                have KX5_106 := hid (HA2.out X5 _ (by omega) KX5_97.out)
                have HRP_107 := hid (own_keep HRP_98.out fun k o hk ho => HA2.out k o (fun e => own_neP HRP_98.out KX10_104.out (by decide) (by rw [← e]; exact hk)) ho)
                have HB_108 := hid (HA3.out _ _ (by omega) HB_99.out)
                have KX7_109 := hid (HA2.out X7 _ (by omega) KX7_100.out)
                have HRW_110 := hid (own_keep HRW_101.out fun k o hk ho => HA2.out k o (fun e => own_neP HRW_101.out KX10_104.out (by decide) (by rw [← e]; exact hk)) ho)
                have KX8_111 := hid (HA2.out X8 _ (by omega) KX8_102.out)
                have KX9_112 := hid (HA2.out X9 _ (by omega) KX9_103.out)
                have KX10_113 := hid (HA1.out)
                have HRG_114 := hid (own_keep HRG_105.out fun k o hk ho => HA2.out k o (fun e => own_neP HRG_105.out KX10_104.out (by decide) (by rw [← e]; exact hk)) ho)
                have HRQ_115 := hid (own_keep HRQ.out fun k o hk ho => HA2.out k o (fun e => own_neP HRQ.out KX10_104.out (by decide) (by rw [← e]; exact hk)) ho)
                clear HA1 HA2 HA3 KX5_97 HRP_98 HB_99 KX7_100 HRW_101 KX8_102 KX9_103 KX10_104 HRG_105 HRQ
                refine hR' _ _ ⟨⟨u33, KX5_106.out, KX7_109.out⟩, rfl⟩ ?_
                clear hR' hO R'
                repeat (refine wpMix3_q rfl rfl ?_; go_big_quiet_step (fail); refine wpQuiet_nil ?_)
                refine wpMix3_done ?_
                simp only [List.drop_succ_cons, List.drop_nil]
                clear q1 q2
                have HSM := hid (rSame_any m1 c1 m1 c2 a1 a2 G1 G1 L1 L1 u33 (Leads.of_own1 HRG_114.out) HM1.out (Leads.of_own1 HRQ_115.out) HM1.out ⟨by omega, by omega⟩ HG1.out HG1.out HL1.out HL1.out)
                rw [same_self] at HSM
                go_wp2_with (first | (refine wp_loadG rfl 25 (.tmp 9) rfl X9 _ rfl _ KX9_112.out _ Tryd.underlying25 rfl (by kernel_rfl) ?_; intro v hv; subst hv) | (refine wp_loadG rfl 25 (.tmp 10) rfl X10 _ rfl _ KX10_113.out _ Tryd.underlying25 rfl (by kernel_rfl) ?_; intro v hv; subst hv))
                refine HSM.out.mono ?_
                rintro e w16_806 ⟨rfl, hbn⟩
                have KX5_116 := hid (keep_laid KX5_106.out hbn)
                have HRP_117 := hid (own_grow HRP_107.out hbn)
                have HB_118 := hid (HB_108.out.trans (hbn.mono HB_108.out.size))
                have KX7_119 := hid (keep_laid KX7_109.out hbn)
                have HRW_120 := hid (own_grow HRW_110.out hbn)
                have KX8_121 := hid (keep_laid KX8_111.out hbn)
                have KX9_122 := hid (keep_laid KX9_112.out hbn)
                have KX10_123 := hid (keep_laid KX10_113.out hbn)
                have HRG_124 := hid (own_grow HRG_114.out hbn)
                have HRQ_125 := hid (own_grow HRQ_115.out hbn)
                clear KX5_106 HRP_107 HB_108 KX7_109 HRW_110 KX8_111 KX9_112 KX10_113 HRG_114 HRQ_115 hbn HSM
                have HOW := hid (Own_any m1 c1 a1 G1 L1 w16_806 (Leads.of_own1 HRG_124.out) HM1.out)
                obtain ⟨L3, hL3⟩ : ∃ l, List.take 20 L1 = l := ⟨_, rfl⟩
                obtain ⟨q3, hq3⟩ : ∃ q, L3.length = q := ⟨_, rfl⟩
                have hl3 : PrsOk L3 := by rw [← hL3]; exact prs_take HL1.out 20
                have hq3b : q3 ≤ 20 := by rw [← hq3, ← hL3, List.length_take]; omega
                have HL3 := hid hl3
                have HQ3 := hid hq3
                rw [hL3] at HOW
                unfold GivesPs at HOW
                rw [hq3] at HOW
                obtain ⟨S2, hS2⟩ : ∃ x, w16_806.heap.size = x := ⟨_, rfl⟩
                have HGS : Hid (∀ k, (Value.slice a1 m1 c1).ownBlock = some k → k < S2) := hid (fun k hk => by rw [← hS2]; exact own_lt HRG_124.out k hk)
                rw [hS2] at HOW
                have hVS2 : V.heap.size ≤ S2 := by rw [← hS2]; exact HB_118.out.size
                clear hL3 hq3 hl3
                go_wp2_with (refine wp_loadW rfl 25 (.tmp 9) rfl X9 _ rfl _ KX9_122.out _ Tryd.underlying25 rfl (by kernel_rfl) ?_; intro v hv; subst hv)
                refine (HOW.out).mono ?_
                rintro e w17_833 ⟨a3, c3, rfl, hrow, hbn⟩
                have hbn : Below w16_806.heap.size w16_806 w17_833 := by rw [hS2]; exact hbn
                have KX5_126 := hid (keep_laid KX5_116.out hbn)
                have HRP_127 := hid (own_grow HRP_117.out hbn)
                have HB_128 := hid (HB_118.out.trans (hbn.mono HB_118.out.size))
                have KX7_129 := hid (keep_laid KX7_119.out hbn)
                have HRW_130 := hid (own_grow HRW_120.out hbn)
                have KX8_131 := hid (keep_laid KX8_121.out hbn)
                have KX9_132 := hid (keep_laid KX9_122.out hbn)
                have KX10_133 := hid (keep_laid KX10_123.out hbn)
                have HRG_134 := hid (own_grow HRG_124.out hbn)
                have HRQ_135 := hid (own_grow HRQ_125.out hbn)
                clear KX5_116 HRP_117 HB_118 KX7_119 HRW_120 KX8_121 KX9_122 KX10_123 HRG_124 HRQ_125 hbn hS2
                have HRN := hid hrow
                have hlr3 := (Leads.of_own1 hrow).len
                clear hrow
                obtain ⟨w18_852, hw18_852, hbn, hsn, hln⟩ := laid w17_833 #[.int .i64 0, .int .i64 0, .int .i64 0, .int .i64 0, .int .i64 0, .int .i64 0, .int .i64 0, .int .i64 0, .int .i64 0, .int .i64 0, .int .i64 0, .int .i64 0, .int .i64 0, .int .i64 0, .int .i64 0, .int .i64 0, .slice none 0 0] 25
                obtain ⟨X16, hNMX16⟩ : ∃ X, w17_833.heap.size = X := ⟨_, rfl⟩
                rw [hNMX16] at hln
                have nX5X16 : X5 < X16 := by have := lt_laid KX5_126.out; omega
                have nX7X16 : X7 < X16 := by have := lt_laid KX7_129.out; omega
                have nX8X16 : X8 < X16 := by have := lt_laid KX8_131.out; omega
                have nX9X16 : X9 < X16 := by have := lt_laid KX9_132.out; omega
                have nX10X16 : X10 < X16 := by have := lt_laid KX10_133.out; omega
                have hVX16 : V.heap.size ≤ X16 := by have := HB_128.out.size; omega
                have KX5_136 := hid (keep_laid KX5_126.out hbn)
                have HRP_137 := hid (own_grow HRP_127.out hbn)
                have HB_138 := hid (HB_128.out.trans (hbn.mono HB_128.out.size))
                have KX7_139 := hid (keep_laid KX7_129.out hbn)
                have HRW_140 := hid (own_grow HRW_130.out hbn)
                have KX8_141 := hid (keep_laid KX8_131.out hbn)
                have KX9_142 := hid (keep_laid KX9_132.out hbn)
                have KX10_143 := hid (keep_laid KX10_133.out hbn)
                have HRG_144 := hid (own_grow HRG_134.out hbn)
                have HRQ_145 := hid (own_grow HRQ_135.out hbn)
                have HRN_146 := hid (own_grow HRN.out hbn)
                clear KX5_126 HRP_127 HB_128 KX7_129 HRW_130 KX8_131 KX9_132 KX10_133 HRG_134 HRQ_135 HRN hbn hsn
                have KX16_147 := hid (hln)
                clear hln
                go_upto_region 29 with (refine wp_storeW rfl 25 (.tmp 16) (.tmp 115) rfl X16 _ _ rfl rfl _ KX16_147.out (by kernel_rfl) (by rfl) (by simp [Value.oneCell']) ?_; intro u19_875 a1 a2 a3 a4; have HA1 := hid a1; have HA2 := hid a2; have HA3 := hid a3; clear a1 a2 a3 a4)
                have KX5_148 := hid (HA2.out X5 _ (by omega) KX5_136.out)
                have HRP_149 := hid (own_keep HRP_137.out fun k o hk ho => HA2.out k o (fun e => own_neP HRP_137.out KX16_147.out (by decide) (by rw [← e]; exact hk)) ho)
                have HB_150 := hid (HA3.out _ _ (by omega) HB_138.out)
                have KX7_151 := hid (HA2.out X7 _ (by omega) KX7_139.out)
                have HRW_152 := hid (own_keep HRW_140.out fun k o hk ho => HA2.out k o (fun e => own_neP HRW_140.out KX16_147.out (by decide) (by rw [← e]; exact hk)) ho)
                have KX8_153 := hid (HA2.out X8 _ (by omega) KX8_141.out)
                have KX9_154 := hid (HA2.out X9 _ (by omega) KX9_142.out)
                have KX10_155 := hid (HA2.out X10 _ (by omega) KX10_143.out)
                have HRG_156 := hid (own_keep HRG_144.out fun k o hk ho => HA2.out k o (fun e => own_neP HRG_144.out KX16_147.out (by decide) (by rw [← e]; exact hk)) ho)
                have HRQ_157 := hid (own_keep HRQ_145.out fun k o hk ho => HA2.out k o (fun e => own_neP HRQ_145.out KX16_147.out (by decide) (by rw [← e]; exact hk)) ho)
                have HRN_158 := hid (own_keep HRN_146.out fun k o hk ho => HA2.out k o (fun e => own_neP HRN_146.out KX16_147.out (by decide) (by rw [← e]; exact hk)) ho)
                have KX16_159 := hid (HA1.out)
                clear HA1 HA2 HA3 KX5_136 HRP_137 HB_138 KX7_139 HRW_140 KX8_141 KX9_142 KX10_143 HRG_144 HRQ_145 HRN_146 KX16_147 hNMX16 hw18_852
                have HSP := hid (Spoil_any m1 c1 _ a1 G1 L1 u19_875 HRG_156.out HM1.out (by omega))
                go_wp2_with (refine wp_loadW rfl 25 (.tmp 9) rfl X9 _ rfl _ KX9_154.out _ Tryd.underlying25 rfl (by kernel_rfl) ?_; intro v hv; subst hv)
                refine HSP.out.mono ?_
                rintro e w20_890 ⟨rfl, hgs⟩
                have KX5_160 := hid (keep_grown KX5_148.out hgs (own_neP HRG_156.out KX5_148.out (by decide)))
                have HRP_161 := hid (own_keep HRP_149.out fun k o hk ho => keep_grown ho hgs (fun e => by have := LTHRP.out k hk; have := HGB1.out k e; omega))
                have HB_162 := hid (HB_150.out.grown hgs HB_150.out.size (fun k e => HGB.out k e))
                have KX7_163 := hid (keep_grown KX7_151.out hgs (own_neP HRG_156.out KX7_151.out (by decide)))
                have HRW_164 := hid (own_keep HRW_152.out fun k o hk ho => keep_grown ho hgs (fun e => by have := LTHRW.out k hk; have := HGB1.out k e; omega))
                have KX8_165 := hid (keep_grown KX8_153.out hgs (own_neP HRG_156.out KX8_153.out (by decide)))
                have KX9_166 := hid (keep_grown KX9_154.out hgs (own_neP HRG_156.out KX9_154.out (by decide)))
                have KX10_167 := hid (keep_grown KX10_155.out hgs (own_neP HRG_156.out KX10_155.out (by decide)))
                have HRN_168 := hid (own_keep HRN_158.out fun k o hk ho => keep_grown ho hgs (fun e => by have := HGS.out k e; have := (HRN_158.out.lt k hk).1; omega))
                have KX16_169 := hid (keep_grown KX16_159.out hgs (own_neP HRG_156.out KX16_159.out (by decide)))
                clear hgs HSP KX5_148 HRP_149 HB_150 KX7_151 HRW_152 KX8_153 KX9_154 KX10_155 HRG_156 HRQ_157 HRN_158 KX16_159
                have HSM := hid (rSame_any pm pc pm wc pa wa G G P P w20_890 (Leads.of_own1 HRP_161.out) HPM.out (Leads.of_own1 HRW_164.out) HPM.out ⟨by omega, by omega⟩ HGO.out HGO.out HPB.out HPB.out)
                rw [same_self] at HSM
                go_wp2_with (first | (refine wp_loadW rfl 25 (.tmp 5) rfl X5 _ rfl _ KX5_160.out _ Tryd.underlying25 rfl (by kernel_rfl) ?_; intro v hv; subst hv) | (refine wp_loadW rfl 25 (.tmp 8) rfl X8 _ rfl _ KX8_165.out _ Tryd.underlying25 rfl (by kernel_rfl) ?_; intro v hv; subst hv))
                refine HSM.out.mono ?_
                rintro e w21_908 ⟨rfl, hbn⟩
                have KX5_170 := hid (keep_laid KX5_160.out hbn)
                have HRP_171 := hid (own_grow HRP_161.out hbn)
                have HB_172 := hid (HB_162.out.trans (hbn.mono HB_162.out.size))
                have KX7_173 := hid (keep_laid KX7_163.out hbn)
                have HRW_174 := hid (own_grow HRW_164.out hbn)
                have KX8_175 := hid (keep_laid KX8_165.out hbn)
                have KX9_176 := hid (keep_laid KX9_166.out hbn)
                have KX10_177 := hid (keep_laid KX10_167.out hbn)
                have HRN_178 := hid (own_grow HRN_168.out hbn)
                have KX16_179 := hid (keep_laid KX16_169.out hbn)
                clear KX5_160 HRP_161 HB_162 KX7_163 HRW_164 KX8_165 KX9_166 KX10_167 HRN_168 KX16_169 hbn HSM
                go_upto_region 33 with (fail)
                go_wp2_with (first | (refine wp_loadW rfl 25 (.tmp 16) rfl X16 _ rfl _ KX16_179.out _ Tryd.underlying25 rfl (by kernel_rfl) ?_; intro v hv; subst hv) | (refine wp_storeW rfl 25 (.tmp 5) (.tmp 124) rfl X5 _ _ rfl rfl _ KX5_170.out (by kernel_rfl) (by rfl) (by simp [Value.oneCell']) ?_; intro u20 a1 a2 a3 a4; have HA1 := hid a1; have HA2 := hid a2; have HA3 := hid a3; clear a1 a2 a3 a4))
                have KX5_180 := hid (HA1.out)
                have HRP_181 := hid (own_keep HRP_171.out fun k o hk ho => HA2.out k o (fun e => own_neP HRP_171.out KX5_170.out (by decide) (by rw [← e]; exact hk)) ho)
                have HB_182 := hid (HA3.out _ _ (by omega) HB_172.out)
                have KX7_183 := hid (HA2.out X7 _ (by omega) KX7_173.out)
                have HRW_184 := hid (own_keep HRW_174.out fun k o hk ho => HA2.out k o (fun e => own_neP HRW_174.out KX5_170.out (by decide) (by rw [← e]; exact hk)) ho)
                have KX8_185 := hid (HA2.out X8 _ (by omega) KX8_175.out)
                have KX9_186 := hid (HA2.out X9 _ (by omega) KX9_176.out)
                have KX10_187 := hid (HA2.out X10 _ (by omega) KX10_177.out)
                have HRN_188 := hid (own_keep HRN_178.out fun k o hk ho => HA2.out k o (fun e => own_neP HRN_178.out KX5_170.out (by decide) (by rw [← e]; exact hk)) ho)
                have KX16_189 := hid (HA2.out X16 _ (by omega) KX16_179.out)
                clear HA1 HA2 HA3 KX5_170 HRP_171 HB_172 KX7_173 HRW_174 KX8_175 KX9_176 KX10_177 HRN_178 KX16_179
                go_roundg (gk - 1)
                case measure => have := HJ.out; omega
                case rel => exact ⟨j + 1, G1, L3, q3, a3, c3, _, _, _, _, _, _, _, _, _, _, _, _, _, by have := HJ.out; omega, by omega, hq3b, by go_num, rfl, rfl, rfl, rfl, rfl, rfl, rfl, rfl, rfl, rfl, rfl, rfl, rfl, hid HG1.out, HL3, HQ3, KX5_180, hid (own_base HRN_188.out hVS2), HB_182⟩
        · have tk0 : (kd == (0 : Int)) = false := by simpa using hk0
          clear hk0
          by_cases hk1 : kd = 1
          · have tk1 : (kd == (1 : Int)) = true := by rw [hk1]; rfl
            clear hk1
            obtain ⟨S1, hS1⟩ : ∃ x, w13_255.heap.size = x := ⟨_, rfl⟩
            have LTHRP : Hid (∀ k, (Value.slice pa pm pc).ownBlock = some k → k < S1) := hid (fun k hk => by rw [← hS1]; exact own_lt HRP_55.out k hk)
            have LTHRW : Hid (∀ k, (Value.slice wa pm wc).ownBlock = some k → k < S1) := hid (fun k hk => by rw [← hS1]; exact own_lt HRW_58.out k hk)
            have hVS1 : V.heap.size ≤ S1 := by rw [← hS1]; exact HB_56.out.size
            have HSP := hid (Exit_any pm pc p1 p2 pa G P w13_255 (HGV.out.grow HB_56.out) (Leads.of_own1 HRP_55.out) HPM.out (by omega) HGO.out HPB.out hp1 hp2)
            cases OK with
            | false =>
              as_aux_lemma =>
                rw [okRes_err _ HOK.out] at HSP
                unfold Gives2 at HSP
                dsimp only at HSP
                clear hS1
                go_wp2_with (refine wp_loadW rfl 25 (.tmp 5) rfl X5 _ rfl _ KX5_54.out _ Tryd.underlying25 rfl (by kernel_rfl) ?_; intro v hv; subst hv)
                refine (HSP.out).mono ?_
                rintro e w14_953 ⟨hbn, rfl⟩
                have KX5_62 := hid (keep_laid KX5_54.out hbn)
                have HRP_63 := hid (own_grow HRP_55.out hbn)
                have HB_64 := hid (HB_56.out.trans (hbn.mono HB_56.out.size))
                have KX7_65 := hid (keep_laid KX7_57.out hbn)
                have HRW_66 := hid (own_grow HRW_58.out hbn)
                have KX8_67 := hid (keep_laid KX8_59.out hbn)
                have KX9_68 := hid (keep_laid KX9_60.out hbn)
                have KX10_69 := hid (keep_laid KX10_61.out hbn)
                clear KX5_54 HRP_55 HB_56 KX7_57 HRW_58 KX8_59 KX9_60 KX10_61 hbn HSP
                go_upto_region 24 with (refine wp_storeW rfl 25 (.tmp 9) (.tmp 87) rfl X9 _ _ rfl rfl _ KX9_68.out (by kernel_rfl) (by rfl) (by simp [Value.oneCell']) ?_; intro u15_965 a1 a2 a3 a4; have HA1 := hid a1; have HA2 := hid a2; have HA3 := hid a3; clear a1 a2 a3 a4)
                have KX5_70 := hid (HA2.out X5 _ (by omega) KX5_62.out)
                have HRP_71 := hid (own_keep HRP_63.out fun k o hk ho => HA2.out k o (fun e => own_neP HRP_63.out KX9_68.out (by decide) (by rw [← e]; exact hk)) ho)
                have HB_72 := hid (HA3.out _ _ (by omega) HB_64.out)
                have KX7_73 := hid (HA2.out X7 _ (by omega) KX7_65.out)
                have HRW_74 := hid (own_keep HRW_66.out fun k o hk ho => HA2.out k o (fun e => own_neP HRW_66.out KX9_68.out (by decide) (by rw [← e]; exact hk)) ho)
                have KX8_75 := hid (HA2.out X8 _ (by omega) KX8_67.out)
                have KX9_76 := hid (HA1.out)
                have KX10_77 := hid (HA2.out X10 _ (by omega) KX10_69.out)
                clear HA1 HA2 HA3 KX5_62 HRP_63 HB_64 KX7_65 HRW_66 KX8_67 KX9_68 KX10_69
                clear f0 f1 f2
                have HZ9 : Hid (u15_965.ownsRow V.heap.size 45 4 (.slice none 0 0) 0 (prcells [])) := hid (World.ownsRow_nil _ _ _ _)
                have HGB : Hid (∀ k, (Value.slice none 0 0).ownBlock = some k → V.heap.size ≤ k) := hid (fun k e => by cases e)
                have HGB1 : Hid (∀ k, (Value.slice none 0 0).ownBlock = some k → S1 ≤ k) := hid (fun k e => by cases e)
                have HSM := hid (rSame_any 0 0 0 0 none none zG zG [] [] u15_965 (Leads.of_own1 (show World.ownsRow _ V.heap.size 45 4 (.slice none 0 0) 0 (prcells []) from World.ownsRow_nil _ _ _ _)) rfl (Leads.of_own1 (show World.ownsRow _ V.heap.size 45 4 (.slice none 0 0) 0 (prcells []) from World.ownsRow_nil _ _ _ _)) rfl ⟨by omega, by omega⟩ zG_ok zG_ok (fun x hx => by cases hx) (fun x hx => by cases hx))
                rw [same_self] at HSM
                go_wp2_with (first | (refine wp_loadG rfl 25 (.tmp 9) rfl X9 _ rfl _ KX9_76.out _ Tryd.underlying25 rfl (by kernel_rfl) ?_; intro v hv; subst hv) | (refine wp_loadG rfl 25 (.tmp 10) rfl X10 _ rfl _ KX10_77.out _ Tryd.underlying25 rfl (by kernel_rfl) ?_; intro v hv; subst hv))
                refine HSM.out.mono ?_
                rintro e w16_983 ⟨rfl, hbn⟩
                have KX5_78 := hid (keep_laid KX5_70.out hbn)
                have HRP_79 := hid (own_grow HRP_71.out hbn)
                have HB_80 := hid (HB_72.out.trans (hbn.mono HB_72.out.size))
                have KX7_81 := hid (keep_laid KX7_73.out hbn)
                have HRW_82 := hid (own_grow HRW_74.out hbn)
                have KX8_83 := hid (keep_laid KX8_75.out hbn)
                have KX9_84 := hid (keep_laid KX9_76.out hbn)
                have KX10_85 := hid (keep_laid KX10_77.out hbn)
                clear KX5_70 HRP_71 HB_72 KX7_73 HRW_74 KX8_75 KX9_76 KX10_77 hbn HSM
                have HOW := hid (Own_any 0 0 none zG [] w16_983 (Leads.of_own1 (show World.ownsRow _ V.heap.size 45 4 (.slice none 0 0) 0 (prcells []) from World.ownsRow_nil _ _ _ _)) rfl)
                obtain ⟨L3, hL3⟩ : ∃ l, List.take 20 [] = l := ⟨_, rfl⟩
                obtain ⟨q3, hq3⟩ : ∃ q, L3.length = q := ⟨_, rfl⟩
                have hl3 : PrsOk L3 := by rw [← hL3]; exact prs_take (fun x hx => by cases hx) 20
                have hq3b : q3 ≤ 20 := by rw [← hq3, ← hL3, List.length_take]; omega
                have HL3 := hid hl3
                have HQ3 := hid hq3
                rw [hL3] at HOW
                unfold GivesPs at HOW
                rw [hq3] at HOW
                obtain ⟨S2, hS2⟩ : ∃ x, w16_983.heap.size = x := ⟨_, rfl⟩
                have HGS : Hid (∀ k, (Value.slice none 0 0).ownBlock = some k → k < S2) := hid (fun k hk => by rw [← hS2]; exact own_lt (show World.ownsRow _ V.heap.size 45 4 (.slice none 0 0) 0 (prcells []) from World.ownsRow_nil _ _ _ _) k hk)
                rw [hS2] at HOW
                have hVS2 : V.heap.size ≤ S2 := by rw [← hS2]; exact HB_80.out.size
                clear hL3 hq3 hl3
                go_wp2_with (refine wp_loadW rfl 25 (.tmp 9) rfl X9 _ rfl _ KX9_84.out _ Tryd.underlying25 rfl (by kernel_rfl) ?_; intro v hv; subst hv)
                refine (HOW.out).mono ?_
                rintro e w17_1008 ⟨a3, c3, rfl, hrow, hbn⟩
                have hbn : Below w16_983.heap.size w16_983 w17_1008 := by rw [hS2]; exact hbn
                have KX5_86 := hid (keep_laid KX5_78.out hbn)
                have HRP_87 := hid (own_grow HRP_79.out hbn)
                have HB_88 := hid (HB_80.out.trans (hbn.mono HB_80.out.size))
                have KX7_89 := hid (keep_laid KX7_81.out hbn)
                have HRW_90 := hid (own_grow HRW_82.out hbn)
                have KX8_91 := hid (keep_laid KX8_83.out hbn)
                have KX9_92 := hid (keep_laid KX9_84.out hbn)
                have KX10_93 := hid (keep_laid KX10_85.out hbn)
                clear KX5_78 HRP_79 HB_80 KX7_81 HRW_82 KX8_83 KX9_84 KX10_85 hbn hS2
                have HRN := hid hrow
                have hlr3 := (Leads.of_own1 hrow).len
                clear hrow
                obtain ⟨w18_1025, hw18_1025, hbn, hsn, hln⟩ := laid w17_1008 #[.int .i64 0, .int .i64 0, .int .i64 0, .int .i64 0, .int .i64 0, .int .i64 0, .int .i64 0, .int .i64 0, .int .i64 0, .int .i64 0, .int .i64 0, .int .i64 0, .int .i64 0, .int .i64 0, .int .i64 0, .int .i64 0, .slice none 0 0] 25
                obtain ⟨X16, hNMX16⟩ : ∃ X, w17_1008.heap.size = X := ⟨_, rfl⟩
                rw [hNMX16] at hln
                have nX5X16 : X5 < X16 := by have := lt_laid KX5_86.out; omega
                have nX7X16 : X7 < X16 := by have := lt_laid KX7_89.out; omega
                have nX8X16 : X8 < X16 := by have := lt_laid KX8_91.out; omega
                have nX9X16 : X9 < X16 := by have := lt_laid KX9_92.out; omega
                have nX10X16 : X10 < X16 := by have := lt_laid KX10_93.out; omega
                have hVX16 : V.heap.size ≤ X16 := by have := HB_88.out.size; omega
                have KX5_94 := hid (keep_laid KX5_86.out hbn)
                have HRP_95 := hid (own_grow HRP_87.out hbn)
                have HB_96 := hid (HB_88.out.trans (hbn.mono HB_88.out.size))
                have KX7_97 := hid (keep_laid KX7_89.out hbn)
                have HRW_98 := hid (own_grow HRW_90.out hbn)
                have KX8_99 := hid (keep_laid KX8_91.out hbn)
                have KX9_100 := hid (keep_laid KX9_92.out hbn)
                have KX10_101 := hid (keep_laid KX10_93.out hbn)
                have HRN_102 := hid (own_grow HRN.out hbn)
                clear KX5_86 HRP_87 HB_88 KX7_89 HRW_90 KX8_91 KX9_92 KX10_93 HRN hbn hsn
                have KX16_103 := hid (hln)
                clear hln
                go_upto_region 29 with (refine wp_storeW rfl 25 (.tmp 16) (.tmp 115) rfl X16 _ _ rfl rfl _ KX16_103.out (by kernel_rfl) (by rfl) (by simp [Value.oneCell']) ?_; intro u19_1046 a1 a2 a3 a4; have HA1 := hid a1; have HA2 := hid a2; have HA3 := hid a3; clear a1 a2 a3 a4)
                have KX5_104 := hid (HA2.out X5 _ (by omega) KX5_94.out)
                have HRP_105 := hid (own_keep HRP_95.out fun k o hk ho => HA2.out k o (fun e => own_neP HRP_95.out KX16_103.out (by decide) (by rw [← e]; exact hk)) ho)
                have HB_106 := hid (HA3.out _ _ (by omega) HB_96.out)
                have KX7_107 := hid (HA2.out X7 _ (by omega) KX7_97.out)
                have HRW_108 := hid (own_keep HRW_98.out fun k o hk ho => HA2.out k o (fun e => own_neP HRW_98.out KX16_103.out (by decide) (by rw [← e]; exact hk)) ho)
                have KX8_109 := hid (HA2.out X8 _ (by omega) KX8_99.out)
                have KX9_110 := hid (HA2.out X9 _ (by omega) KX9_100.out)
                have KX10_111 := hid (HA2.out X10 _ (by omega) KX10_101.out)
                have HRN_112 := hid (own_keep HRN_102.out fun k o hk ho => HA2.out k o (fun e => own_neP HRN_102.out KX16_103.out (by decide) (by rw [← e]; exact hk)) ho)
                have KX16_113 := hid (HA1.out)
                clear HA1 HA2 HA3 KX5_94 HRP_95 HB_96 KX7_97 HRW_98 KX8_99 KX9_100 KX10_101 HRN_102 KX16_103 hNMX16 hw18_1025
                have HSP := hid (Spoil_any 0 0 _ none zG [] u19_1046 (show World.ownsRow _ V.heap.size 45 4 (.slice none 0 0) 0 (prcells []) from World.ownsRow_nil _ _ _ _) rfl (by omega))
                go_wp2_with (refine wp_loadW rfl 25 (.tmp 9) rfl X9 _ rfl _ KX9_110.out _ Tryd.underlying25 rfl (by kernel_rfl) ?_; intro v hv; subst hv)
                refine HSP.out.mono ?_
                rintro e w20_1059 ⟨rfl, hgs⟩
                have KX5_114 := hid (keep_grown KX5_104.out hgs (own_neP (show World.ownsRow _ V.heap.size 45 4 (.slice none 0 0) 0 (prcells []) from World.ownsRow_nil _ _ _ _) KX5_104.out (by decide)))
                have HRP_115 := hid (own_keep HRP_105.out fun k o hk ho => keep_grown ho hgs (fun e => by have := LTHRP.out k hk; have := HGB1.out k e; omega))
                have HB_116 := hid (HB_106.out.grown hgs HB_106.out.size (fun k e => HGB.out k e))
                have KX7_117 := hid (keep_grown KX7_107.out hgs (own_neP (show World.ownsRow _ V.heap.size 45 4 (.slice none 0 0) 0 (prcells []) from World.ownsRow_nil _ _ _ _) KX7_107.out (by decide)))
                have HRW_118 := hid (own_keep HRW_108.out fun k o hk ho => keep_grown ho hgs (fun e => by have := LTHRW.out k hk; have := HGB1.out k e; omega))
                have KX8_119 := hid (keep_grown KX8_109.out hgs (own_neP (show World.ownsRow _ V.heap.size 45 4 (.slice none 0 0) 0 (prcells []) from World.ownsRow_nil _ _ _ _) KX8_109.out (by decide)))
                have KX9_120 := hid (keep_grown KX9_110.out hgs (own_neP (show World.ownsRow _ V.heap.size 45 4 (.slice none 0 0) 0 (prcells []) from World.ownsRow_nil _ _ _ _) KX9_110.out (by decide)))
                have KX10_121 := hid (keep_grown KX10_111.out hgs (own_neP (show World.ownsRow _ V.heap.size 45 4 (.slice none 0 0) 0 (prcells []) from World.ownsRow_nil _ _ _ _) KX10_111.out (by decide)))
                have HRN_122 := hid (own_keep HRN_112.out fun k o hk ho => keep_grown ho hgs (fun e => by have := HGS.out k e; have := (HRN_112.out.lt k hk).1; omega))
                have KX16_123 := hid (keep_grown KX16_113.out hgs (own_neP (show World.ownsRow _ V.heap.size 45 4 (.slice none 0 0) 0 (prcells []) from World.ownsRow_nil _ _ _ _) KX16_113.out (by decide)))
                clear hgs HSP KX5_104 HRP_105 HB_106 KX7_107 HRW_108 KX8_109 KX9_110 KX10_111 HRN_112 KX16_113
                have HSM := hid (rSame_any pm pc pm wc pa wa G G P P w20_1059 (Leads.of_own1 HRP_115.out) HPM.out (Leads.of_own1 HRW_118.out) HPM.out ⟨by omega, by omega⟩ HGO.out HGO.out HPB.out HPB.out)
                rw [same_self] at HSM
                go_wp2_with (first | (refine wp_loadW rfl 25 (.tmp 5) rfl X5 _ rfl _ KX5_114.out _ Tryd.underlying25 rfl (by kernel_rfl) ?_; intro v hv; subst hv) | (refine wp_loadW rfl 25 (.tmp 8) rfl X8 _ rfl _ KX8_119.out _ Tryd.underlying25 rfl (by kernel_rfl) ?_; intro v hv; subst hv))
                refine HSM.out.mono ?_
                rintro e w21_1077 ⟨rfl, hbn⟩
                have KX5_124 := hid (keep_laid KX5_114.out hbn)
                have HRP_125 := hid (own_grow HRP_115.out hbn)
                have HB_126 := hid (HB_116.out.trans (hbn.mono HB_116.out.size))
                have KX7_127 := hid (keep_laid KX7_117.out hbn)
                have HRW_128 := hid (own_grow HRW_118.out hbn)
                have KX8_129 := hid (keep_laid KX8_119.out hbn)
                have KX9_130 := hid (keep_laid KX9_120.out hbn)
                have KX10_131 := hid (keep_laid KX10_121.out hbn)
                have HRN_132 := hid (own_grow HRN_122.out hbn)
                have KX16_133 := hid (keep_laid KX16_123.out hbn)
                clear KX5_114 HRP_115 HB_116 KX7_117 HRW_118 KX8_119 KX9_120 KX10_121 HRN_122 KX16_123 hbn HSM
                go_wp2
                go_roundg (gk - 1)
                case measure => have := HJ.out; omega
                case rel => exact ⟨j + 1, G, P, pm, pa, pc, _, _, _, _, _, _, _, _, _, _, _, _, _, by have := HJ.out; omega, by omega, hpm, by go_num, rfl, rfl, rfl, rfl, rfl, rfl, rfl, rfl, rfl, rfl, rfl, rfl, rfl, HGO, HPB, HPM, KX5_124, HRP_125, HB_126⟩
            | true =>
              as_aux_lemma =>
                have HO := hid ((okP_iff G P).1 HOK.out)
                rw [okRes_ok HO.out] at HSP
                obtain ⟨R0, hR0⟩ : ∃ r, exitP G P p1 p2 = r := ⟨_, rfl⟩
                rw [hR0] at HSP
                have HR0 := hid hR0
                clear hR0
                cases R0 with
                | error e0 =>
                  have he0 := exit_code HR0.out
                  have te0 : (((e0 : Nat) : Int) == 0) = false := by simp; omega
                  clear he0 hS1
                  unfold Gives2 at HSP
                  dsimp only at HSP
                  go_wp2_with (refine wp_loadW rfl 25 (.tmp 5) rfl X5 _ rfl _ KX5_54.out _ Tryd.underlying25 rfl (by kernel_rfl) ?_; intro v hv; subst hv)
                  refine (HSP.out).mono ?_
                  rintro e w14_1108 ⟨hbn, rfl⟩
                  have KX5_62 := hid (keep_laid KX5_54.out hbn)
                  have HRP_63 := hid (own_grow HRP_55.out hbn)
                  have HB_64 := hid (HB_56.out.trans (hbn.mono HB_56.out.size))
                  have KX7_65 := hid (keep_laid KX7_57.out hbn)
                  have HRW_66 := hid (own_grow HRW_58.out hbn)
                  have KX8_67 := hid (keep_laid KX8_59.out hbn)
                  have KX9_68 := hid (keep_laid KX9_60.out hbn)
                  have KX10_69 := hid (keep_laid KX10_61.out hbn)
                  clear KX5_54 HRP_55 HB_56 KX7_57 HRW_58 KX8_59 KX9_60 KX10_61 hbn HSP
                  go_upto_region 25 with (refine wp_storeW rfl 25 (.tmp 9) (.tmp 87) rfl X9 _ _ rfl rfl _ KX9_68.out (by kernel_rfl) (by rfl) (by simp [Value.oneCell']) ?_; intro u15_1120 a1 a2 a3 a4; have HA1 := hid a1; have HA2 := hid a2; have HA3 := hid a3; clear a1 a2 a3 a4)
                  have KX5_70 := hid (HA2.out X5 _ (by omega) KX5_62.out)
                  have HRP_71 := hid (own_keep HRP_63.out fun k o hk ho => HA2.out k o (fun e => own_neP HRP_63.out KX9_68.out (by decide) (by rw [← e]; exact hk)) ho)
                  have HB_72 := hid (HA3.out _ _ (by omega) HB_64.out)
                  have KX7_73 := hid (HA2.out X7 _ (by omega) KX7_65.out)
                  have HRW_74 := hid (own_keep HRW_66.out fun k o hk ho => HA2.out k o (fun e => own_neP HRW_66.out KX9_68.out (by decide) (by rw [← e]; exact hk)) ho)
                  have KX8_75 := hid (HA2.out X8 _ (by omega) KX8_67.out)
                  have KX9_76 := hid (HA1.out)
                  have KX10_77 := hid (HA2.out X10 _ (by omega) KX10_69.out)
                  clear HA1 HA2 HA3 KX5_62 HRP_63 HB_64 KX7_65 HRW_66 KX8_67 KX9_68 KX10_69
                  clear f0 f1 f2
                  obtain ⟨D, hD⟩ : ∃ DX, World.drew u15_1120 = DX := ⟨_, rfl⟩
                  have hbD : Below u15_1120.heap.size u15_1120 D := by rw [← hD]; exact (Below.refl _ _).drew
                  have HD := hid hD
                  clear hD
                  have KX5_78 := hid (keep_laid KX5_70.out hbD)
                  have HRP_79 := hid (own_grow HRP_71.out hbD)
                  have HB_80 := hid (HB_72.out.trans (hbD.mono HB_72.out.size))
                  have KX7_81 := hid (keep_laid KX7_73.out hbD)
                  have HRW_82 := hid (own_grow HRW_74.out hbD)
                  have KX8_83 := hid (keep_laid KX8_75.out hbD)
                  have KX9_84 := hid (keep_laid KX9_76.out hbD)
                  have KX10_85 := hid (keep_laid KX10_77.out hbD)
                  clear KX5_70 HRP_71 HB_72 KX7_73 HRW_74 KX8_75 KX9_76 KX10_77 hbD
                  haveI : Nonempty (Two X5 X7 #[.int .i64 (G 0), .int .i64 (G 1), .int .i64 (G 2), .int .i64 (G 3), .int .i64 (G 4), .int .i64 (G 5), .int .i64 (G 6), .int .i64 (G 7), .int .i64 (G 8), .int .i64 (G 9), .int .i64 (G 10), .int .i64 (G 11), .int .i64 (G 12), .int .i64 (G 13), .int .i64 (G 14), .int .i64 (G 15), .slice pa pm pc] #[.int .i64 kd, .int .u64 ((p1 : Nat) : Int), .int .u64 ((p2 : Nat) : Int)] 25 31) := ⟨⟨D, KX5_78.out, KX7_81.out⟩⟩
                  have q1 : ∀ z : Two X5 X7 #[.int .i64 (G 0), .int .i64 (G 1), .int .i64 (G 2), .int .i64 (G 3), .int .i64 (G 4), .int .i64 (G 5), .int .i64 (G 6), .int .i64 (G 7), .int .i64 (G 8), .int .i64 (G 9), .int .i64 (G 10), .int .i64 (G 11), .int .i64 (G 12), .int .i64 (G 13), .int .i64 (G 14), .int .i64 (G 15), .slice pa pm pc] #[.int .i64 kd, .int .u64 ((p1 : Nat) : Int), .int .u64 ((p2 : Nat) : Int)] 25 31, z.w.cell? ⟨X7, 1, none⟩ = some (.int .u64 ((p1 : Nat) : Int)) := fun z => cell_laid z.by_ rfl
                  have q2 : ∀ z : Two X5 X7 #[.int .i64 (G 0), .int .i64 (G 1), .int .i64 (G 2), .int .i64 (G 3), .int .i64 (G 4), .int .i64 (G 5), .int .i64 (G 6), .int .i64 (G 7), .int .i64 (G 8), .int .i64 (G 9), .int .i64 (G 10), .int .i64 (G 11), .int .i64 (G 12), .int .i64 (G 13), .int .i64 (G 14), .int .i64 (G 15), .slice pa pm pc] #[.int .i64 kd, .int .u64 ((p1 : Nat) : Int), .int .u64 ((p2 : Nat) : Int)] 25 31, z.w.cell? ⟨X7, 2, none⟩ = some (.int .u64 ((p2 : Nat) : Int)) := fun z => cell_laid z.by_ rfl
                  refine wp_region_mix3 (fun W => ∃ z : Two X5 X7 #[.int .i64 (G 0), .int .i64 (G 1), .int .i64 (G 2), .int .i64 (G 3), .int .i64 (G 4), .int .i64 (G 5), .int .i64 (G 6), .int .i64 (G 7), .int .i64 (G 8), .int .i64 (G 9), .int .i64 (G 10), .int .i64 (G 11), .int .i64 (G 12), .int .i64 (G 13), .int .i64 (G 14), .int .i64 (G 15), .slice pa pm pc] #[.int .i64 kd, .int .u64 ((p1 : Nat) : Int), .int .u64 ((p2 : Nat) : Int)] 25 31, W = z.w) 12 (.q 0 (.q 2 (.q 3 (.q 4 (.q 5 (.h 1 (.h 6 (.q 7 (.q 8 (.q 9 (.h 10 (.q 11 .done)))))))))))) (by kernel_rfl) (by kernel_rfl) (by rw [HD.out]; exact ⟨⟨D, KX5_78.out, KX7_81.out⟩, rfl⟩) ?_
                  rw [HD.out]
                  refine wpMix3_q rfl rfl ?_
                  refine wpQuiet_loadW rfl 25 (.tmp 5) rfl X5 _ rfl _ (by rintro w ⟨z, rfl⟩; exact z.bx) _ Tryd.underlying25 rfl (by kernel_rfl) ?_
                  intro v hv
                  subst hv
                  refine wpQuiet_nil ?_
                  simp only [Act.put, List.setIfInBounds_toArray, List.set_cons_succ, List.set_cons_zero]
                  repeat (refine wpMix3_q rfl rfl ?_; go_big_quiet_step (fail); refine wpQuiet_nil ?_)
                  have HOW := hid (Own_any pm pc pa G P D (Leads.of_own1 HRP_79.out) HPM.out)
                  rw [HP20.out] at HOW
                  unfold GivesPs at HOW
                  rw [HPM.out] at HOW
                  refine wpMix3_h rfl fun R' hR' hO => ?_
                  go_wp2_with fail
                  refine HOW.out.mono ?_
                  rintro e w31 ⟨oa, oc, rfl, hrow, hbn⟩
                  have hlo := (Leads.of_own1 hrow).len
                  have HRO := hid hrow
                  clear hrow HOW
                  have KX5_86 := hid (keep_laid KX5_78.out hbn)
                  have HRP_87 := hid (own_grow HRP_79.out hbn)
                  have HB_88 := hid (HB_80.out.trans (hbn.mono HB_80.out.size))
                  have KX7_89 := hid (keep_laid KX7_81.out hbn)
                  have HRW_90 := hid (own_grow HRW_82.out hbn)
                  have KX8_91 := hid (keep_laid KX8_83.out hbn)
                  have KX9_92 := hid (keep_laid KX9_84.out hbn)
                  have KX10_93 := hid (keep_laid KX10_85.out hbn)
                  clear KX5_78 HRP_79 HB_80 KX7_81 HRW_82 KX8_83 KX9_84 KX10_85 hbn
                  go_wp2
                  refine hR' _ _ ⟨⟨w31, KX5_86.out, KX7_89.out⟩, rfl⟩ ?_
                  clear hR' hO R'
                  have HRF := hid ((fun W hW => rExit_any pm oc p1 p2 oa G P W hW HPM.out (by omega) HPB.out) w31 (Leads.of_own1 HRO.out))
                  rw [HR0.out] at HRF
                  unfold Gives2 at HRF
                  dsimp only at HRF
                  refine wpMix3_h rfl fun R' hR' hO => ?_
                  go_wp2_with fail
                  refine HRF.out.mono ?_
                  rintro e w32 ⟨hbn, rfl⟩
                  clear HRF HRO
                  have KX5_94 := hid (keep_laid KX5_86.out hbn)
                  have HRP_95 := hid (own_grow HRP_87.out hbn)
                  have HB_96 := hid (HB_88.out.trans (hbn.mono HB_88.out.size))
                  have KX7_97 := hid (keep_laid KX7_89.out hbn)
                  have HRW_98 := hid (own_grow HRW_90.out hbn)
                  have KX8_99 := hid (keep_laid KX8_91.out hbn)
                  have KX9_100 := hid (keep_laid KX9_92.out hbn)
                  have KX10_101 := hid (keep_laid KX10_93.out hbn)
                  clear KX5_86 HRP_87 HB_88 KX7_89 HRW_90 KX8_91 KX9_92 KX10_93 hbn
                  go_wp2
                  refine hR' _ _ ⟨⟨w32, KX5_94.out, KX7_97.out⟩, rfl⟩ ?_
                  clear hR' hO R'
                  repeat (refine wpMix3_q rfl rfl ?_; go_big_quiet_step (fail); refine wpQuiet_nil ?_)
                  refine wpMix3_h rfl fun R' hR' hO => ?_
                  go_wp2_with (refine wp_storeW rfl 25 (.tmp 10) (.tmp 98) rfl X10 _ _ rfl rfl _ KX10_101.out (by kernel_rfl) (by rfl) (by simp [Value.oneCell']) ?_; intro u33 a1 a2 a3 a4; have HA1 := hid a1; have HA2 := hid a2; have HA3 := hid a3; clear a1 a2 a3 a4)
                  have KX5_102 := hid (HA2.out X5 _ (by omega) KX5_94.out)
                  have HRP_103 := hid (own_keep HRP_95.out fun k o hk ho => HA2.out k o (fun e => own_neP HRP_95.out KX10_101.out (by decide) (by rw [← e]; exact hk)) ho)
                  have HB_104 := hid (HA3.out _ _ (by omega) HB_96.out)
                  have KX7_105 := hid (HA2.out X7 _ (by omega) KX7_97.out)
                  have HRW_106 := hid (own_keep HRW_98.out fun k o hk ho => HA2.out k o (fun e => own_neP HRW_98.out KX10_101.out (by decide) (by rw [← e]; exact hk)) ho)
                  have KX8_107 := hid (HA2.out X8 _ (by omega) KX8_99.out)
                  have KX9_108 := hid (HA2.out X9 _ (by omega) KX9_100.out)
                  have KX10_109 := hid (HA1.out)
                  clear HA1 HA2 HA3 KX5_94 HRP_95 HB_96 KX7_97 HRW_98 KX8_99 KX9_100 KX10_101
                  refine hR' _ _ ⟨⟨u33, KX5_102.out, KX7_105.out⟩, rfl⟩ ?_
                  clear hR' hO R'
                  repeat (refine wpMix3_q rfl rfl ?_; go_big_quiet_step (fail); refine wpQuiet_nil ?_)
                  refine wpMix3_done ?_
                  simp only [List.drop_succ_cons, List.drop_nil]
                  clear q1 q2
                  have HGB : Hid (∀ k, (Value.slice none 0 0).ownBlock = some k → V.heap.size ≤ k) := hid (fun k e => by cases e)
                  have HGB1 : Hid (∀ k, (Value.slice none 0 0).ownBlock = some k → S1 ≤ k) := hid (fun k e => by cases e)
                  have HSM := hid (rSame_any 0 0 0 0 none none zG zG [] [] u33 (Leads.of_own1 (show World.ownsRow _ V.heap.size 45 4 (.slice none 0 0) 0 (prcells []) from World.ownsRow_nil _ _ _ _)) rfl (Leads.of_own1 (show World.ownsRow _ V.heap.size 45 4 (.slice none 0 0) 0 (prcells []) from World.ownsRow_nil _ _ _ _)) rfl ⟨by omega, by omega⟩ zG_ok zG_ok (fun x hx => by cases hx) (fun x hx => by cases hx))
                  rw [same_self] at HSM
                  go_wp2_with (first | (refine wp_loadG rfl 25 (.tmp 9) rfl X9 _ rfl _ KX9_108.out _ Tryd.underlying25 rfl (by kernel_rfl) ?_; intro v hv; subst hv) | (refine wp_loadG rfl 25 (.tmp 10) rfl X10 _ rfl _ KX10_109.out _ Tryd.underlying25 rfl (by kernel_rfl) ?_; intro v hv; subst hv))
                  refine HSM.out.mono ?_
                  rintro e w16_1224 ⟨rfl, hbn⟩
                  have KX5_110 := hid (keep_laid KX5_102.out hbn)
                  have HRP_111 := hid (own_grow HRP_103.out hbn)
                  have HB_112 := hid (HB_104.out.trans (hbn.mono HB_104.out.size))
                  have KX7_113 := hid (keep_laid KX7_105.out hbn)
                  have HRW_114 := hid (own_grow HRW_106.out hbn)
                  have KX8_115 := hid (keep_laid KX8_107.out hbn)
                  have KX9_116 := hid (keep_laid KX9_108.out hbn)
                  have KX10_117 := hid (keep_laid KX10_109.out hbn)
                  clear KX5_102 HRP_103 HB_104 KX7_105 HRW_106 KX8_107 KX9_108 KX10_109 hbn HSM
                  have HOW := hid (Own_any 0 0 none zG [] w16_1224 (Leads.of_own1 (show World.ownsRow _ V.heap.size 45 4 (.slice none 0 0) 0 (prcells []) from World.ownsRow_nil _ _ _ _)) rfl)
                  obtain ⟨L3, hL3⟩ : ∃ l, List.take 20 [] = l := ⟨_, rfl⟩
                  obtain ⟨q3, hq3⟩ : ∃ q, L3.length = q := ⟨_, rfl⟩
                  have hl3 : PrsOk L3 := by rw [← hL3]; exact prs_take (fun x hx => by cases hx) 20
                  have hq3b : q3 ≤ 20 := by rw [← hq3, ← hL3, List.length_take]; omega
                  have HL3 := hid hl3
                  have HQ3 := hid hq3
                  rw [hL3] at HOW
                  unfold GivesPs at HOW
                  rw [hq3] at HOW
                  obtain ⟨S2, hS2⟩ : ∃ x, w16_1224.heap.size = x := ⟨_, rfl⟩
                  have HGS : Hid (∀ k, (Value.slice none 0 0).ownBlock = some k → k < S2) := hid (fun k hk => by rw [← hS2]; exact own_lt (show World.ownsRow _ V.heap.size 45 4 (.slice none 0 0) 0 (prcells []) from World.ownsRow_nil _ _ _ _) k hk)
                  rw [hS2] at HOW
                  have hVS2 : V.heap.size ≤ S2 := by rw [← hS2]; exact HB_112.out.size
                  clear hL3 hq3 hl3
                  go_wp2_with (refine wp_loadW rfl 25 (.tmp 9) rfl X9 _ rfl _ KX9_116.out _ Tryd.underlying25 rfl (by kernel_rfl) ?_; intro v hv; subst hv)
                  refine (HOW.out).mono ?_
                  rintro e w17_1249 ⟨a3, c3, rfl, hrow, hbn⟩
                  have hbn : Below w16_1224.heap.size w16_1224 w17_1249 := by rw [hS2]; exact hbn
                  have KX5_118 := hid (keep_laid KX5_110.out hbn)
                  have HRP_119 := hid (own_grow HRP_111.out hbn)
                  have HB_120 := hid (HB_112.out.trans (hbn.mono HB_112.out.size))
                  have KX7_121 := hid (keep_laid KX7_113.out hbn)
                  have HRW_122 := hid (own_grow HRW_114.out hbn)
                  have KX8_123 := hid (keep_laid KX8_115.out hbn)
                  have KX9_124 := hid (keep_laid KX9_116.out hbn)
                  have KX10_125 := hid (keep_laid KX10_117.out hbn)
                  clear KX5_110 HRP_111 HB_112 KX7_113 HRW_114 KX8_115 KX9_116 KX10_117 hbn hS2
                  have HRN := hid hrow
                  have hlr3 := (Leads.of_own1 hrow).len
                  clear hrow
                  obtain ⟨w18_1266, hw18_1266, hbn, hsn, hln⟩ := laid w17_1249 #[.int .i64 0, .int .i64 0, .int .i64 0, .int .i64 0, .int .i64 0, .int .i64 0, .int .i64 0, .int .i64 0, .int .i64 0, .int .i64 0, .int .i64 0, .int .i64 0, .int .i64 0, .int .i64 0, .int .i64 0, .int .i64 0, .slice none 0 0] 25
                  obtain ⟨X16, hNMX16⟩ : ∃ X, w17_1249.heap.size = X := ⟨_, rfl⟩
                  rw [hNMX16] at hln
                  have nX5X16 : X5 < X16 := by have := lt_laid KX5_118.out; omega
                  have nX7X16 : X7 < X16 := by have := lt_laid KX7_121.out; omega
                  have nX8X16 : X8 < X16 := by have := lt_laid KX8_123.out; omega
                  have nX9X16 : X9 < X16 := by have := lt_laid KX9_124.out; omega
                  have nX10X16 : X10 < X16 := by have := lt_laid KX10_125.out; omega
                  have hVX16 : V.heap.size ≤ X16 := by have := HB_120.out.size; omega
                  have KX5_126 := hid (keep_laid KX5_118.out hbn)
                  have HRP_127 := hid (own_grow HRP_119.out hbn)
                  have HB_128 := hid (HB_120.out.trans (hbn.mono HB_120.out.size))
                  have KX7_129 := hid (keep_laid KX7_121.out hbn)
                  have HRW_130 := hid (own_grow HRW_122.out hbn)
                  have KX8_131 := hid (keep_laid KX8_123.out hbn)
                  have KX9_132 := hid (keep_laid KX9_124.out hbn)
                  have KX10_133 := hid (keep_laid KX10_125.out hbn)
                  have HRN_134 := hid (own_grow HRN.out hbn)
                  clear KX5_118 HRP_119 HB_120 KX7_121 HRW_122 KX8_123 KX9_124 KX10_125 HRN hbn hsn
                  have KX16_135 := hid (hln)
                  clear hln
                  go_upto_region 29 with (refine wp_storeW rfl 25 (.tmp 16) (.tmp 115) rfl X16 _ _ rfl rfl _ KX16_135.out (by kernel_rfl) (by rfl) (by simp [Value.oneCell']) ?_; intro u19_1287 a1 a2 a3 a4; have HA1 := hid a1; have HA2 := hid a2; have HA3 := hid a3; clear a1 a2 a3 a4)
                  have KX5_136 := hid (HA2.out X5 _ (by omega) KX5_126.out)
                  have HRP_137 := hid (own_keep HRP_127.out fun k o hk ho => HA2.out k o (fun e => own_neP HRP_127.out KX16_135.out (by decide) (by rw [← e]; exact hk)) ho)
                  have HB_138 := hid (HA3.out _ _ (by omega) HB_128.out)
                  have KX7_139 := hid (HA2.out X7 _ (by omega) KX7_129.out)
                  have HRW_140 := hid (own_keep HRW_130.out fun k o hk ho => HA2.out k o (fun e => own_neP HRW_130.out KX16_135.out (by decide) (by rw [← e]; exact hk)) ho)
                  have KX8_141 := hid (HA2.out X8 _ (by omega) KX8_131.out)
                  have KX9_142 := hid (HA2.out X9 _ (by omega) KX9_132.out)
                  have KX10_143 := hid (HA2.out X10 _ (by omega) KX10_133.out)
                  have HRN_144 := hid (own_keep HRN_134.out fun k o hk ho => HA2.out k o (fun e => own_neP HRN_134.out KX16_135.out (by decide) (by rw [← e]; exact hk)) ho)
                  have KX16_145 := hid (HA1.out)
                  clear HA1 HA2 HA3 KX5_126 HRP_127 HB_128 KX7_129 HRW_130 KX8_131 KX9_132 KX10_133 HRN_134 KX16_135 hNMX16 hw18_1266
                  have HSP := hid (Spoil_any 0 0 _ none zG [] u19_1287 (show World.ownsRow _ V.heap.size 45 4 (.slice none 0 0) 0 (prcells []) from World.ownsRow_nil _ _ _ _) rfl (by omega))
                  go_wp2_with (refine wp_loadW rfl 25 (.tmp 9) rfl X9 _ rfl _ KX9_142.out _ Tryd.underlying25 rfl (by kernel_rfl) ?_; intro v hv; subst hv)
                  refine HSP.out.mono ?_
                  rintro e w20_1300 ⟨rfl, hgs⟩
                  have KX5_146 := hid (keep_grown KX5_136.out hgs (own_neP (show World.ownsRow _ V.heap.size 45 4 (.slice none 0 0) 0 (prcells []) from World.ownsRow_nil _ _ _ _) KX5_136.out (by decide)))
                  have HRP_147 := hid (own_keep HRP_137.out fun k o hk ho => keep_grown ho hgs (fun e => by have := LTHRP.out k hk; have := HGB1.out k e; omega))
                  have HB_148 := hid (HB_138.out.grown hgs HB_138.out.size (fun k e => HGB.out k e))
                  have KX7_149 := hid (keep_grown KX7_139.out hgs (own_neP (show World.ownsRow _ V.heap.size 45 4 (.slice none 0 0) 0 (prcells []) from World.ownsRow_nil _ _ _ _) KX7_139.out (by decide)))
                  have HRW_150 := hid (own_keep HRW_140.out fun k o hk ho => keep_grown ho hgs (fun e => by have := LTHRW.out k hk; have := HGB1.out k e; omega))
                  have KX8_151 := hid (keep_grown KX8_141.out hgs (own_neP (show World.ownsRow _ V.heap.size 45 4 (.slice none 0 0) 0 (prcells []) from World.ownsRow_nil _ _ _ _) KX8_141.out (by decide)))
                  have KX9_152 := hid (keep_grown KX9_142.out hgs (own_neP (show World.ownsRow _ V.heap.size 45 4 (.slice none 0 0) 0 (prcells []) from World.ownsRow_nil _ _ _ _) KX9_142.out (by decide)))
                  have KX10_153 := hid (keep_grown KX10_143.out hgs (own_neP (show World.ownsRow _ V.heap.size 45 4 (.slice none 0 0) 0 (prcells []) from World.ownsRow_nil _ _ _ _) KX10_143.out (by decide)))
                  have HRN_154 := hid (own_keep HRN_144.out fun k o hk ho => keep_grown ho hgs (fun e => by have := HGS.out k e; have := (HRN_144.out.lt k hk).1; omega))
                  have KX16_155 := hid (keep_grown KX16_145.out hgs (own_neP (show World.ownsRow _ V.heap.size 45 4 (.slice none 0 0) 0 (prcells []) from World.ownsRow_nil _ _ _ _) KX16_145.out (by decide)))
                  clear hgs HSP KX5_136 HRP_137 HB_138 KX7_139 HRW_140 KX8_141 KX9_142 KX10_143 HRN_144 KX16_145
                  have HSM := hid (rSame_any pm pc pm wc pa wa G G P P w20_1300 (Leads.of_own1 HRP_147.out) HPM.out (Leads.of_own1 HRW_150.out) HPM.out ⟨by omega, by omega⟩ HGO.out HGO.out HPB.out HPB.out)
                  rw [same_self] at HSM
                  go_wp2_with (first | (refine wp_loadW rfl 25 (.tmp 5) rfl X5 _ rfl _ KX5_146.out _ Tryd.underlying25 rfl (by kernel_rfl) ?_; intro v hv; subst hv) | (refine wp_loadW rfl 25 (.tmp 8) rfl X8 _ rfl _ KX8_151.out _ Tryd.underlying25 rfl (by kernel_rfl) ?_; intro v hv; subst hv))
                  refine HSM.out.mono ?_
                  rintro e w21_1318 ⟨rfl, hbn⟩
                  have KX5_156 := hid (keep_laid KX5_146.out hbn)
                  have HRP_157 := hid (own_grow HRP_147.out hbn)
                  have HB_158 := hid (HB_148.out.trans (hbn.mono HB_148.out.size))
                  have KX7_159 := hid (keep_laid KX7_149.out hbn)
                  have HRW_160 := hid (own_grow HRW_150.out hbn)
                  have KX8_161 := hid (keep_laid KX8_151.out hbn)
                  have KX9_162 := hid (keep_laid KX9_152.out hbn)
                  have KX10_163 := hid (keep_laid KX10_153.out hbn)
                  have HRN_164 := hid (own_grow HRN_154.out hbn)
                  have KX16_165 := hid (keep_laid KX16_155.out hbn)
                  clear KX5_146 HRP_147 HB_148 KX7_149 HRW_150 KX8_151 KX9_152 KX10_153 HRN_154 KX16_155 hbn HSM
                  go_wp2
                  go_roundg (gk - 1)
                  case measure => have := HJ.out; omega
                  case rel => exact ⟨j + 1, G, P, pm, pa, pc, _, _, _, _, _, _, _, _, _, _, _, _, _, by have := HJ.out; omega, by omega, hpm, by go_num, rfl, rfl, rfl, rfl, rfl, rfl, rfl, rfl, rfl, rfl, rfl, rfl, rfl, HGO, HPB, HPM, KX5_156, HRP_157, HB_158⟩
                | ok r0 =>
                  obtain ⟨G1, L1, n1⟩ := r0
                  obtain ⟨hG1, hL1, hl1⟩ := exitP_inv hp2 HGO.out HPB.out HO.out HR0.out
                  obtain ⟨m1, hm1⟩ : ∃ m, L1.length = m := ⟨_, rfl⟩
                  rw [hm1] at hl1
                  have HG1 := hid hG1
                  have HL1 := hid hL1
                  have HM1 := hid hm1
                  unfold Gives2 at HSP
                  dsimp only at HSP
                  rw [hm1, hS1] at HSP
                  clear hG1 hL1 hm1
                  go_wp2_with (refine wp_loadW rfl 25 (.tmp 5) rfl X5 _ rfl _ KX5_54.out _ Tryd.underlying25 rfl (by kernel_rfl) ?_; intro v hv; subst hv)
                  refine (HSP.out).mono ?_
                  rintro e w14_1346 ⟨hbn, a1, c1, rfl, hrow⟩
                  have hbn : Below w13_255.heap.size w13_255 w14_1346 := by rw [hS1]; exact hbn
                  have KX5_62 := hid (keep_laid KX5_54.out hbn)
                  have HRP_63 := hid (own_grow HRP_55.out hbn)
                  have HB_64 := hid (HB_56.out.trans (hbn.mono HB_56.out.size))
                  have KX7_65 := hid (keep_laid KX7_57.out hbn)
                  have HRW_66 := hid (own_grow HRW_58.out hbn)
                  have KX8_67 := hid (keep_laid KX8_59.out hbn)
                  have KX9_68 := hid (keep_laid KX9_60.out hbn)
                  have KX10_69 := hid (keep_laid KX10_61.out hbn)
                  clear KX5_54 HRP_55 HB_56 KX7_57 HRW_58 KX8_59 KX9_60 KX10_61 hbn hS1
                  have HRG := hid hrow
                  have hlr1 := (Leads.of_own1 hrow).len
                  have HGB1 : Hid (∀ k, (Value.slice a1 m1 c1).ownBlock = some k → S1 ≤ k) := hid (fun k hk => (hrow.lt k hk).1)
                  have HGB : Hid (∀ k, (Value.slice a1 m1 c1).ownBlock = some k → V.heap.size ≤ k) := hid (fun k hk => Nat.le_trans hVS1 (HGB1.out k hk))
                  clear hrow
                  go_upto_region 25 with (refine wp_storeW rfl 25 (.tmp 9) (.tmp 87) rfl X9 _ _ rfl rfl _ KX9_68.out (by kernel_rfl) (by rfl) (by simp [Value.oneCell']) ?_; intro u15_1364 a1 a2 a3 a4; have HA1 := hid a1; have HA2 := hid a2; have HA3 := hid a3; clear a1 a2 a3 a4)
                  have KX5_70 := hid (HA2.out X5 _ (by omega) KX5_62.out)
                  have HRP_71 := hid (own_keep HRP_63.out fun k o hk ho => HA2.out k o (fun e => own_neP HRP_63.out KX9_68.out (by decide) (by rw [← e]; exact hk)) ho)
                  have HB_72 := hid (HA3.out _ _ (by omega) HB_64.out)
                  have KX7_73 := hid (HA2.out X7 _ (by omega) KX7_65.out)
                  have HRW_74 := hid (own_keep HRW_66.out fun k o hk ho => HA2.out k o (fun e => own_neP HRW_66.out KX9_68.out (by decide) (by rw [← e]; exact hk)) ho)
                  have KX8_75 := hid (HA2.out X8 _ (by omega) KX8_67.out)
                  have KX9_76 := hid (HA1.out)
                  have KX10_77 := hid (HA2.out X10 _ (by omega) KX10_69.out)
                  have HRG_78 := hid (own_keep HRG.out fun k o hk ho => HA2.out k o (fun e => own_neP HRG.out KX9_68.out (by decide) (by rw [← e]; exact hk)) ho)
                  clear HA1 HA2 HA3 KX5_62 HRP_63 HB_64 KX7_65 HRW_66 KX8_67 KX9_68 KX10_69 HRG
                  clear f0 f1 f2
                  obtain ⟨D, hD⟩ : ∃ DX, World.drew u15_1364 = DX := ⟨_, rfl⟩
                  have hbD : Below u15_1364.heap.size u15_1364 D := by rw [← hD]; exact (Below.refl _ _).drew
                  have HD := hid hD
                  clear hD
                  have KX5_79 := hid (keep_laid KX5_70.out hbD)
                  have HRP_80 := hid (own_grow HRP_71.out hbD)
                  have HB_81 := hid (HB_72.out.trans (hbD.mono HB_72.out.size))
                  have KX7_82 := hid (keep_laid KX7_73.out hbD)
                  have HRW_83 := hid (own_grow HRW_74.out hbD)
                  have KX8_84 := hid (keep_laid KX8_75.out hbD)
                  have KX9_85 := hid (keep_laid KX9_76.out hbD)
                  have KX10_86 := hid (keep_laid KX10_77.out hbD)
                  have HRG_87 := hid (own_grow HRG_78.out hbD)
                  clear KX5_70 HRP_71 HB_72 KX7_73 HRW_74 KX8_75 KX9_76 KX10_77 HRG_78 hbD
                  haveI : Nonempty (Two X5 X7 #[.int .i64 (G 0), .int .i64 (G 1), .int .i64 (G 2), .int .i64 (G 3), .int .i64 (G 4), .int .i64 (G 5), .int .i64 (G 6), .int .i64 (G 7), .int .i64 (G 8), .int .i64 (G 9), .int .i64 (G 10), .int .i64 (G 11), .int .i64 (G 12), .int .i64 (G 13), .int .i64 (G 14), .int .i64 (G 15), .slice pa pm pc] #[.int .i64 kd, .int .u64 ((p1 : Nat) : Int), .int .u64 ((p2 : Nat) : Int)] 25 31) := ⟨⟨D, KX5_79.out, KX7_82.out⟩⟩
                  have q1 : ∀ z : Two X5 X7 #[.int .i64 (G 0), .int .i64 (G 1), .int .i64 (G 2), .int .i64 (G 3), .int .i64 (G 4), .int .i64 (G 5), .int .i64 (G 6), .int .i64 (G 7), .int .i64 (G 8), .int .i64 (G 9), .int .i64 (G 10), .int .i64 (G 11), .int .i64 (G 12), .int .i64 (G 13), .int .i64 (G 14), .int .i64 (G 15), .slice pa pm pc] #[.int .i64 kd, .int .u64 ((p1 : Nat) : Int), .int .u64 ((p2 : Nat) : Int)] 25 31, z.w.cell? ⟨X7, 1, none⟩ = some (.int .u64 ((p1 : Nat) : Int)) := fun z => cell_laid z.by_ rfl
                  have q2 : ∀ z : Two X5 X7 #[.int .i64 (G 0), .int .i64 (G 1), .int .i64 (G 2), .int .i64 (G 3), .int .i64 (G 4), .int .i64 (G 5), .int .i64 (G 6), .int .i64 (G 7), .int .i64 (G 8), .int .i64 (G 9), .int .i64 (G 10), .int .i64 (G 11), .int .i64 (G 12), .int .i64 (G 13), .int .i64 (G 14), .int .i64 (G 15), .slice pa pm pc] #[.int .i64 kd, .int .u64 ((p1 : Nat) : Int), .int .u64 ((p2 : Nat) : Int)] 25 31, z.w.cell? ⟨X7, 2, none⟩ = some (.int .u64 ((p2 : Nat) : Int)) := fun z => cell_laid z.by_ rfl
                  refine wp_region_mix3 (fun W => ∃ z : Two X5 X7 #[.int .i64 (G 0), .int .i64 (G 1), .int .i64 (G 2), .int .i64 (G 3), .int .i64 (G 4), .int .i64 (G 5), .int .i64 (G 6), .int .i64 (G 7), .int .i64 (G 8), .int .i64 (G 9), .int .i64 (G 10), .int .i64 (G 11), .int .i64 (G 12), .int .i64 (G 13), .int .i64 (G 14), .int .i64 (G 15), .slice pa pm pc] #[.int .i64 kd, .int .u64 ((p1 : Nat) : Int), .int .u64 ((p2 : Nat) : Int)] 25 31, W = z.w) 12 (.q 0 (.q 2 (.q 3 (.q 4 (.q 5 (.h 1 (.h 6 (.q 7 (.q 8 (.q 9 (.h 10 (.q 11 .done)))))))))))) (by kernel_rfl) (by kernel_rfl) (by rw [HD.out]; exact ⟨⟨D, KX5_79.out, KX7_82.out⟩, rfl⟩) ?_
                  rw [HD.out]
                  refine wpMix3_q rfl rfl ?_
                  refine wpQuiet_loadW rfl 25 (.tmp 5) rfl X5 _ rfl _ (by rintro w ⟨z, rfl⟩; exact z.bx) _ Tryd.underlying25 rfl (by kernel_rfl) ?_
                  intro v hv
                  subst hv
                  refine wpQuiet_nil ?_
                  simp only [Act.put, List.setIfInBounds_toArray, List.set_cons_succ, List.set_cons_zero]
                  repeat (refine wpMix3_q rfl rfl ?_; go_big_quiet_step (fail); refine wpQuiet_nil ?_)
                  have HOW := hid (Own_any pm pc pa G P D (Leads.of_own1 HRP_80.out) HPM.out)
                  rw [HP20.out] at HOW
                  unfold GivesPs at HOW
                  rw [HPM.out] at HOW
                  refine wpMix3_h rfl fun R' hR' hO => ?_
                  go_wp2_with fail
                  refine HOW.out.mono ?_
                  rintro e w31 ⟨oa, oc, rfl, hrow, hbn⟩
                  have hlo := (Leads.of_own1 hrow).len
                  have HRO := hid hrow
                  clear hrow HOW
                  have KX5_88 := hid (keep_laid KX5_79.out hbn)
                  have HRP_89 := hid (own_grow HRP_80.out hbn)
                  have HB_90 := hid (HB_81.out.trans (hbn.mono HB_81.out.size))
                  have KX7_91 := hid (keep_laid KX7_82.out hbn)
                  have HRW_92 := hid (own_grow HRW_83.out hbn)
                  have KX8_93 := hid (keep_laid KX8_84.out hbn)
                  have KX9_94 := hid (keep_laid KX9_85.out hbn)
                  have KX10_95 := hid (keep_laid KX10_86.out hbn)
                  have HRG_96 := hid (own_grow HRG_87.out hbn)
                  clear KX5_79 HRP_80 HB_81 KX7_82 HRW_83 KX8_84 KX9_85 KX10_86 HRG_87 hbn
                  go_wp2
                  refine hR' _ _ ⟨⟨w31, KX5_88.out, KX7_91.out⟩, rfl⟩ ?_
                  clear hR' hO R'
                  have HRF := hid ((fun W hW => rExit_any pm oc p1 p2 oa G P W hW HPM.out (by omega) HPB.out) w31 (Leads.of_own1 HRO.out))
                  rw [HR0.out] at HRF
                  unfold Gives2 at HRF
                  dsimp only at HRF
                  refine wpMix3_h rfl fun R' hR' hO => ?_
                  go_wp2_with fail
                  refine HRF.out.mono ?_
                  rintro e w32 ⟨hbn, a2, c2, rfl, hrow⟩
                  have hlr2 := (Leads.of_own1 hrow).len
                  have HRQ := hid hrow
                  rw [HM1.out] at HRQ hlr2 ⊢
                  clear hrow
                  clear HRF HRO
                  have KX5_97 := hid (keep_laid KX5_88.out hbn)
                  have HRP_98 := hid (own_grow HRP_89.out hbn)
                  have HB_99 := hid (HB_90.out.trans (hbn.mono HB_90.out.size))
                  have KX7_100 := hid (keep_laid KX7_91.out hbn)
                  have HRW_101 := hid (own_grow HRW_92.out hbn)
                  have KX8_102 := hid (keep_laid KX8_93.out hbn)
                  have KX9_103 := hid (keep_laid KX9_94.out hbn)
                  have KX10_104 := hid (keep_laid KX10_95.out hbn)
                  have HRG_105 := hid (own_grow HRG_96.out hbn)
                  clear KX5_88 HRP_89 HB_90 KX7_91 HRW_92 KX8_93 KX9_94 KX10_95 HRG_96 hbn
                  go_wp2
                  refine hR' _ _ ⟨⟨w32, KX5_97.out, KX7_100.out⟩, rfl⟩ ?_
                  clear hR' hO R'
                  repeat (refine wpMix3_q rfl rfl ?_; go_big_quiet_step (fail); refine wpQuiet_nil ?_)
                  refine wpMix3_h rfl fun R' hR' hO => ?_
                  go_wp2_with (refine wp_storeW rfl 25 (.tmp 10) (.tmp 98) rfl X10 _ _ rfl rfl _ KX10_104.out (by kernel_rfl) (by rfl) (by simp [Value.oneCell']) ?_; intro u33 a1 a2 a3 a4; have HA1 := hid a1; have HA2 := hid a2; have HA3 := hid a3; clear a1 a2 a3 a4)
                  have KX5_106 := hid (HA2.out X5 _ (by omega) KX5_97.out)
                  have HRP_107 := hid (own_keep HRP_98.out fun k o hk ho => HA2.out k o (fun e => own_neP HRP_98.out KX10_104.out (by decide) (by rw [← e]; exact hk)) ho)
                  have HB_108 := hid (HA3.out _ _ (by omega) HB_99.out)
                  have KX7_109 := hid (HA2.out X7 _ (by omega) KX7_100.out)
                  have HRW_110 := hid (own_keep HRW_101.out fun k o hk ho => HA2.out k o (fun e => own_neP HRW_101.out KX10_104.out (by decide) (by rw [← e]; exact hk)) ho)
                  have KX8_111 := hid (HA2.out X8 _ (by omega) KX8_102.out)
                  have KX9_112 := hid (HA2.out X9 _ (by omega) KX9_103.out)
                  have KX10_113 := hid (HA1.out)
                  have HRG_114 := hid (own_keep HRG_105.out fun k o hk ho => HA2.out k o (fun e => own_neP HRG_105.out KX10_104.out (by decide) (by rw [← e]; exact hk)) ho)
                  have HRQ_115 := hid (own_keep HRQ.out fun k o hk ho => HA2.out k o (fun e => own_neP HRQ.out KX10_104.out (by decide) (by rw [← e]; exact hk)) ho)
                  clear HA1 HA2 HA3 KX5_97 HRP_98 HB_99 KX7_100 HRW_101 KX8_102 KX9_103 KX10_104 HRG_105 HRQ
                  refine hR' _ _ ⟨⟨u33, KX5_106.out, KX7_109.out⟩, rfl⟩ ?_
                  clear hR' hO R'
                  repeat (refine wpMix3_q rfl rfl ?_; go_big_quiet_step (fail); refine wpQuiet_nil ?_)
                  refine wpMix3_done ?_
                  simp only [List.drop_succ_cons, List.drop_nil]
                  clear q1 q2
                  have HSM := hid (rSame_any m1 c1 m1 c2 a1 a2 G1 G1 L1 L1 u33 (Leads.of_own1 HRG_114.out) HM1.out (Leads.of_own1 HRQ_115.out) HM1.out ⟨by omega, by omega⟩ HG1.out HG1.out HL1.out HL1.out)
                  rw [same_self] at HSM
                  go_wp2_with (first | (refine wp_loadG rfl 25 (.tmp 9) rfl X9 _ rfl _ KX9_112.out _ Tryd.underlying25 rfl (by kernel_rfl) ?_; intro v hv; subst hv) | (refine wp_loadG rfl 25 (.tmp 10) rfl X10 _ rfl _ KX10_113.out _ Tryd.underlying25 rfl (by kernel_rfl) ?_; intro v hv; subst hv))
                  refine HSM.out.mono ?_
                  rintro e w16_1476 ⟨rfl, hbn⟩
                  have KX5_116 := hid (keep_laid KX5_106.out hbn)
                  have HRP_117 := hid (own_grow HRP_107.out hbn)
                  have HB_118 := hid (HB_108.out.trans (hbn.mono HB_108.out.size))
                  have KX7_119 := hid (keep_laid KX7_109.out hbn)
                  have HRW_120 := hid (own_grow HRW_110.out hbn)
                  have KX8_121 := hid (keep_laid KX8_111.out hbn)
                  have KX9_122 := hid (keep_laid KX9_112.out hbn)
                  have KX10_123 := hid (keep_laid KX10_113.out hbn)
                  have HRG_124 := hid (own_grow HRG_114.out hbn)
                  have HRQ_125 := hid (own_grow HRQ_115.out hbn)
                  clear KX5_106 HRP_107 HB_108 KX7_109 HRW_110 KX8_111 KX9_112 KX10_113 HRG_114 HRQ_115 hbn HSM
                  have HOW := hid (Own_any m1 c1 a1 G1 L1 w16_1476 (Leads.of_own1 HRG_124.out) HM1.out)
                  obtain ⟨L3, hL3⟩ : ∃ l, List.take 20 L1 = l := ⟨_, rfl⟩
                  obtain ⟨q3, hq3⟩ : ∃ q, L3.length = q := ⟨_, rfl⟩
                  have hl3 : PrsOk L3 := by rw [← hL3]; exact prs_take HL1.out 20
                  have hq3b : q3 ≤ 20 := by rw [← hq3, ← hL3, List.length_take]; omega
                  have HL3 := hid hl3
                  have HQ3 := hid hq3
                  rw [hL3] at HOW
                  unfold GivesPs at HOW
                  rw [hq3] at HOW
                  obtain ⟨S2, hS2⟩ : ∃ x, w16_1476.heap.size = x := ⟨_, rfl⟩
                  have HGS : Hid (∀ k, (Value.slice a1 m1 c1).ownBlock = some k → k < S2) := hid (fun k hk => by rw [← hS2]; exact own_lt HRG_124.out k hk)
                  rw [hS2] at HOW
                  have hVS2 : V.heap.size ≤ S2 := by rw [← hS2]; exact HB_118.out.size
                  clear hL3 hq3 hl3
                  go_wp2_with (refine wp_loadW rfl 25 (.tmp 9) rfl X9 _ rfl _ KX9_122.out _ Tryd.underlying25 rfl (by kernel_rfl) ?_; intro v hv; subst hv)
                  refine (HOW.out).mono ?_
                  rintro e w17_1503 ⟨a3, c3, rfl, hrow, hbn⟩
                  have hbn : Below w16_1476.heap.size w16_1476 w17_1503 := by rw [hS2]; exact hbn
                  have KX5_126 := hid (keep_laid KX5_116.out hbn)
                  have HRP_127 := hid (own_grow HRP_117.out hbn)
                  have HB_128 := hid (HB_118.out.trans (hbn.mono HB_118.out.size))
                  have KX7_129 := hid (keep_laid KX7_119.out hbn)
                  have HRW_130 := hid (own_grow HRW_120.out hbn)
                  have KX8_131 := hid (keep_laid KX8_121.out hbn)
                  have KX9_132 := hid (keep_laid KX9_122.out hbn)
                  have KX10_133 := hid (keep_laid KX10_123.out hbn)
                  have HRG_134 := hid (own_grow HRG_124.out hbn)
                  have HRQ_135 := hid (own_grow HRQ_125.out hbn)
                  clear KX5_116 HRP_117 HB_118 KX7_119 HRW_120 KX8_121 KX9_122 KX10_123 HRG_124 HRQ_125 hbn hS2
                  have HRN := hid hrow
                  have hlr3 := (Leads.of_own1 hrow).len
                  clear hrow
                  obtain ⟨w18_1522, hw18_1522, hbn, hsn, hln⟩ := laid w17_1503 #[.int .i64 0, .int .i64 0, .int .i64 0, .int .i64 0, .int .i64 0, .int .i64 0, .int .i64 0, .int .i64 0, .int .i64 0, .int .i64 0, .int .i64 0, .int .i64 0, .int .i64 0, .int .i64 0, .int .i64 0, .int .i64 0, .slice none 0 0] 25
                  obtain ⟨X16, hNMX16⟩ : ∃ X, w17_1503.heap.size = X := ⟨_, rfl⟩
                  rw [hNMX16] at hln
                  have nX5X16 : X5 < X16 := by have := lt_laid KX5_126.out; omega
                  have nX7X16 : X7 < X16 := by have := lt_laid KX7_129.out; omega
                  have nX8X16 : X8 < X16 := by have := lt_laid KX8_131.out; omega
                  have nX9X16 : X9 < X16 := by have := lt_laid KX9_132.out; omega
                  have nX10X16 : X10 < X16 := by have := lt_laid KX10_133.out; omega
                  have hVX16 : V.heap.size ≤ X16 := by have := HB_128.out.size; omega
                  have KX5_136 := hid (keep_laid KX5_126.out hbn)
                  have HRP_137 := hid (own_grow HRP_127.out hbn)
                  have HB_138 := hid (HB_128.out.trans (hbn.mono HB_128.out.size))
                  have KX7_139 := hid (keep_laid KX7_129.out hbn)
                  have HRW_140 := hid (own_grow HRW_130.out hbn)
                  have KX8_141 := hid (keep_laid KX8_131.out hbn)
                  have KX9_142 := hid (keep_laid KX9_132.out hbn)
                  have KX10_143 := hid (keep_laid KX10_133.out hbn)
                  have HRG_144 := hid (own_grow HRG_134.out hbn)
                  have HRQ_145 := hid (own_grow HRQ_135.out hbn)
                  have HRN_146 := hid (own_grow HRN.out hbn)
                  clear KX5_126 HRP_127 HB_128 KX7_129 HRW_130 KX8_131 KX9_132 KX10_133 HRG_134 HRQ_135 HRN hbn hsn
                  have KX16_147 := hid (hln)
                  clear hln
                  go_upto_region 29 with (refine wp_storeW rfl 25 (.tmp 16) (.tmp 115) rfl X16 _ _ rfl rfl _ KX16_147.out (by kernel_rfl) (by rfl) (by simp [Value.oneCell']) ?_; intro u19_1545 a1 a2 a3 a4; have HA1 := hid a1; have HA2 := hid a2; have HA3 := hid a3; clear a1 a2 a3 a4)
                  have KX5_148 := hid (HA2.out X5 _ (by omega) KX5_136.out)
                  have HRP_149 := hid (own_keep HRP_137.out fun k o hk ho => HA2.out k o (fun e => own_neP HRP_137.out KX16_147.out (by decide) (by rw [← e]; exact hk)) ho)
                  have HB_150 := hid (HA3.out _ _ (by omega) HB_138.out)
                  have KX7_151 := hid (HA2.out X7 _ (by omega) KX7_139.out)
                  have HRW_152 := hid (own_keep HRW_140.out fun k o hk ho => HA2.out k o (fun e => own_neP HRW_140.out KX16_147.out (by decide) (by rw [← e]; exact hk)) ho)
                  have KX8_153 := hid (HA2.out X8 _ (by omega) KX8_141.out)
                  have KX9_154 := hid (HA2.out X9 _ (by omega) KX9_142.out)
                  have KX10_155 := hid (HA2.out X10 _ (by omega) KX10_143.out)
                  have HRG_156 := hid (own_keep HRG_144.out fun k o hk ho => HA2.out k o (fun e => own_neP HRG_144.out KX16_147.out (by decide) (by rw [← e]; exact hk)) ho)
                  have HRQ_157 := hid (own_keep HRQ_145.out fun k o hk ho => HA2.out k o (fun e => own_neP HRQ_145.out KX16_147.out (by decide) (by rw [← e]; exact hk)) ho)
                  have HRN_158 := hid (own_keep HRN_146.out fun k o hk ho => HA2.out k o (fun e => own_neP HRN_146.out KX16_147.out (by decide) (by rw [← e]; exact hk)) ho)
                  have KX16_159 := hid (HA1.out)
                  clear HA1 HA2 HA3 KX5_136 HRP_137 HB_138 KX7_139 HRW_140 KX8_141 KX9_142 KX10_143 HRG_144 HRQ_145 HRN_146 KX16_147 hNMX16 hw18_1522
                  have HSP := hid (Spoil_any m1 c1 _ a1 G1 L1 u19_1545 HRG_156.out HM1.out (by omega))
                  go_wp2_with (refine wp_loadW rfl 25 (.tmp 9) rfl X9 _ rfl _ KX9_154.out _ Tryd.underlying25 rfl (by kernel_rfl) ?_; intro v hv; subst hv)
                  refine HSP.out.mono ?_
                  rintro e w20_1560 ⟨rfl, hgs⟩
                  have KX5_160 := hid (keep_grown KX5_148.out hgs (own_neP HRG_156.out KX5_148.out (by decide)))
                  have HRP_161 := hid (own_keep HRP_149.out fun k o hk ho => keep_grown ho hgs (fun e => by have := LTHRP.out k hk; have := HGB1.out k e; omega))
                  have HB_162 := hid (HB_150.out.grown hgs HB_150.out.size (fun k e => HGB.out k e))
                  have KX7_163 := hid (keep_grown KX7_151.out hgs (own_neP HRG_156.out KX7_151.out (by decide)))
                  have HRW_164 := hid (own_keep HRW_152.out fun k o hk ho => keep_grown ho hgs (fun e => by have := LTHRW.out k hk; have := HGB1.out k e; omega))
                  have KX8_165 := hid (keep_grown KX8_153.out hgs (own_neP HRG_156.out KX8_153.out (by decide)))
                  have KX9_166 := hid (keep_grown KX9_154.out hgs (own_neP HRG_156.out KX9_154.out (by decide)))
                  have KX10_167 := hid (keep_grown KX10_155.out hgs (own_neP HRG_156.out KX10_155.out (by decide)))
                  have HRN_168 := hid (own_keep HRN_158.out fun k o hk ho => keep_grown ho hgs (fun e => by have := HGS.out k e; have := (HRN_158.out.lt k hk).1; omega))
                  have KX16_169 := hid (keep_grown KX16_159.out hgs (own_neP HRG_156.out KX16_159.out (by decide)))
                  clear hgs HSP KX5_148 HRP_149 HB_150 KX7_151 HRW_152 KX8_153 KX9_154 KX10_155 HRG_156 HRQ_157 HRN_158 KX16_159
                  have HSM := hid (rSame_any pm pc pm wc pa wa G G P P w20_1560 (Leads.of_own1 HRP_161.out) HPM.out (Leads.of_own1 HRW_164.out) HPM.out ⟨by omega, by omega⟩ HGO.out HGO.out HPB.out HPB.out)
                  rw [same_self] at HSM
                  go_wp2_with (first | (refine wp_loadW rfl 25 (.tmp 5) rfl X5 _ rfl _ KX5_160.out _ Tryd.underlying25 rfl (by kernel_rfl) ?_; intro v hv; subst hv) | (refine wp_loadW rfl 25 (.tmp 8) rfl X8 _ rfl _ KX8_165.out _ Tryd.underlying25 rfl (by kernel_rfl) ?_; intro v hv; subst hv))
                  refine HSM.out.mono ?_
                  rintro e w21_1578 ⟨rfl, hbn⟩
                  have KX5_170 := hid (keep_laid KX5_160.out hbn)
                  have HRP_171 := hid (own_grow HRP_161.out hbn)
                  have HB_172 := hid (HB_162.out.trans (hbn.mono HB_162.out.size))
                  have KX7_173 := hid (keep_laid KX7_163.out hbn)
                  have HRW_174 := hid (own_grow HRW_164.out hbn)
                  have KX8_175 := hid (keep_laid KX8_165.out hbn)
                  have KX9_176 := hid (keep_laid KX9_166.out hbn)
                  have KX10_177 := hid (keep_laid KX10_167.out hbn)
                  have HRN_178 := hid (own_grow HRN_168.out hbn)
                  have KX16_179 := hid (keep_laid KX16_169.out hbn)
                  clear KX5_160 HRP_161 HB_162 KX7_163 HRW_164 KX8_165 KX9_166 KX10_167 HRN_168 KX16_169 hbn HSM
                  go_upto_region 33 with (fail)
                  go_wp2_with (first | (refine wp_loadW rfl 25 (.tmp 16) rfl X16 _ rfl _ KX16_179.out _ Tryd.underlying25 rfl (by kernel_rfl) ?_; intro v hv; subst hv) | (refine wp_storeW rfl 25 (.tmp 5) (.tmp 124) rfl X5 _ _ rfl rfl _ KX5_170.out (by kernel_rfl) (by rfl) (by simp [Value.oneCell']) ?_; intro u20 a1 a2 a3 a4; have HA1 := hid a1; have HA2 := hid a2; have HA3 := hid a3; clear a1 a2 a3 a4))
                  have KX5_180 := hid (HA1.out)
                  have HRP_181 := hid (own_keep HRP_171.out fun k o hk ho => HA2.out k o (fun e => own_neP HRP_171.out KX5_170.out (by decide) (by rw [← e]; exact hk)) ho)
                  have HB_182 := hid (HA3.out _ _ (by omega) HB_172.out)
                  have KX7_183 := hid (HA2.out X7 _ (by omega) KX7_173.out)
                  have HRW_184 := hid (own_keep HRW_174.out fun k o hk ho => HA2.out k o (fun e => own_neP HRW_174.out KX5_170.out (by decide) (by rw [← e]; exact hk)) ho)
                  have KX8_185 := hid (HA2.out X8 _ (by omega) KX8_175.out)
                  have KX9_186 := hid (HA2.out X9 _ (by omega) KX9_176.out)
                  have KX10_187 := hid (HA2.out X10 _ (by omega) KX10_177.out)
                  have HRN_188 := hid (own_keep HRN_178.out fun k o hk ho => HA2.out k o (fun e => own_neP HRN_178.out KX5_170.out (by decide) (by rw [← e]; exact hk)) ho)
                  have KX16_189 := hid (HA2.out X16 _ (by omega) KX16_179.out)
                  clear HA1 HA2 HA3 KX5_170 HRP_171 HB_172 KX7_173 HRW_174 KX8_175 KX9_176 KX10_177 HRN_178 KX16_179
                  go_roundg (gk - 1)
                  case measure => have := HJ.out; omega
                  case rel => exact ⟨j + 1, G1, L3, q3, a3, c3, _, _, _, _, _, _, _, _, _, _, _, _, _, by have := HJ.out; omega, by omega, hq3b, by go_num, rfl, rfl, rfl, rfl, rfl, rfl, rfl, rfl, rfl, rfl, rfl, rfl, rfl, hid HG1.out, HL3, HQ3, KX5_180, hid (own_base HRN_188.out hVS2), HB_182⟩
          · have tk1 : (kd == (1 : Int)) = false := by simpa using hk1
            clear hk1
            obtain ⟨S1, hS1⟩ : ∃ x, w13_255.heap.size = x := ⟨_, rfl⟩
            have LTHRP : Hid (∀ k, (Value.slice pa pm pc).ownBlock = some k → k < S1) := hid (fun k hk => by rw [← hS1]; exact own_lt HRP_55.out k hk)
            have LTHRW : Hid (∀ k, (Value.slice wa pm wc).ownBlock = some k → k < S1) := hid (fun k hk => by rw [← hS1]; exact own_lt HRW_58.out k hk)
            have hVS1 : V.heap.size ≤ S1 := by rw [← hS1]; exact HB_56.out.size
            have HSP := hid (Wait_any pm pc p1 p2 pa G P w13_255 (HGV.out.grow HB_56.out) (Leads.of_own1 HRP_55.out) HPM.out (by omega) HGO.out HPB.out hp1 hp2)
            cases OK with
            | false =>
              as_aux_lemma =>
                rw [okRes_err _ HOK.out] at HSP
                unfold Gives3 at HSP
                dsimp only at HSP
                clear hS1
                go_wp2_with (refine wp_loadW rfl 25 (.tmp 5) rfl X5 _ rfl _ KX5_54.out _ Tryd.underlying25 rfl (by kernel_rfl) ?_; intro v hv; subst hv)
                refine (HSP.out).mono ?_
                rintro e w14_1620 ⟨hbn, rfl⟩
                have KX5_62 := hid (keep_laid KX5_54.out hbn)
                have HRP_63 := hid (own_grow HRP_55.out hbn)
                have HB_64 := hid (HB_56.out.trans (hbn.mono HB_56.out.size))
                have KX7_65 := hid (keep_laid KX7_57.out hbn)
                have HRW_66 := hid (own_grow HRW_58.out hbn)
                have KX8_67 := hid (keep_laid KX8_59.out hbn)
                have KX9_68 := hid (keep_laid KX9_60.out hbn)
                have KX10_69 := hid (keep_laid KX10_61.out hbn)
                clear KX5_54 HRP_55 HB_56 KX7_57 HRW_58 KX8_59 KX9_60 KX10_61 hbn HSP
                go_upto_region 16 with (refine wp_storeW rfl 25 (.tmp 9) (.tmp 43) rfl X9 _ _ rfl rfl _ KX9_68.out (by kernel_rfl) (by rfl) (by simp [Value.oneCell']) ?_; intro u15_1632 a1 a2 a3 a4; have HA1 := hid a1; have HA2 := hid a2; have HA3 := hid a3; clear a1 a2 a3 a4)
                have KX5_70 := hid (HA2.out X5 _ (by omega) KX5_62.out)
                have HRP_71 := hid (own_keep HRP_63.out fun k o hk ho => HA2.out k o (fun e => own_neP HRP_63.out KX9_68.out (by decide) (by rw [← e]; exact hk)) ho)
                have HB_72 := hid (HA3.out _ _ (by omega) HB_64.out)
                have KX7_73 := hid (HA2.out X7 _ (by omega) KX7_65.out)
                have HRW_74 := hid (own_keep HRW_66.out fun k o hk ho => HA2.out k o (fun e => own_neP HRW_66.out KX9_68.out (by decide) (by rw [← e]; exact hk)) ho)
                have KX8_75 := hid (HA2.out X8 _ (by omega) KX8_67.out)
                have KX9_76 := hid (HA1.out)
                have KX10_77 := hid (HA2.out X10 _ (by omega) KX10_69.out)
                clear HA1 HA2 HA3 KX5_62 HRP_63 HB_64 KX7_65 HRW_66 KX8_67 KX9_68 KX10_69
                clear f0 f1 f2
                have HZ9 : Hid (u15_1632.ownsRow V.heap.size 45 4 (.slice none 0 0) 0 (prcells [])) := hid (World.ownsRow_nil _ _ _ _)
                have HGB : Hid (∀ k, (Value.slice none 0 0).ownBlock = some k → V.heap.size ≤ k) := hid (fun k e => by cases e)
                have HGB1 : Hid (∀ k, (Value.slice none 0 0).ownBlock = some k → S1 ≤ k) := hid (fun k e => by cases e)
                have HSM := hid (rSame_any 0 0 0 0 none none zG zG [] [] u15_1632 (Leads.of_own1 (show World.ownsRow _ V.heap.size 45 4 (.slice none 0 0) 0 (prcells []) from World.ownsRow_nil _ _ _ _)) rfl (Leads.of_own1 (show World.ownsRow _ V.heap.size 45 4 (.slice none 0 0) 0 (prcells []) from World.ownsRow_nil _ _ _ _)) rfl ⟨by omega, by omega⟩ zG_ok zG_ok (fun x hx => by cases hx) (fun x hx => by cases hx))
                rw [same_self] at HSM
                go_wp2_with (first | (refine wp_loadG rfl 25 (.tmp 9) rfl X9 _ rfl _ KX9_76.out _ Tryd.underlying25 rfl (by kernel_rfl) ?_; intro v hv; subst hv) | (refine wp_loadG rfl 25 (.tmp 10) rfl X10 _ rfl _ KX10_77.out _ Tryd.underlying25 rfl (by kernel_rfl) ?_; intro v hv; subst hv))
                refine HSM.out.mono ?_
                rintro e w16_1650 ⟨rfl, hbn⟩
                have KX5_78 := hid (keep_laid KX5_70.out hbn)
                have HRP_79 := hid (own_grow HRP_71.out hbn)
                have HB_80 := hid (HB_72.out.trans (hbn.mono HB_72.out.size))
                have KX7_81 := hid (keep_laid KX7_73.out hbn)
                have HRW_82 := hid (own_grow HRW_74.out hbn)
                have KX8_83 := hid (keep_laid KX8_75.out hbn)
                have KX9_84 := hid (keep_laid KX9_76.out hbn)
                have KX10_85 := hid (keep_laid KX10_77.out hbn)
                clear KX5_70 HRP_71 HB_72 KX7_73 HRW_74 KX8_75 KX9_76 KX10_77 hbn HSM
                have HOW := hid (Own_any 0 0 none zG [] w16_1650 (Leads.of_own1 (show World.ownsRow _ V.heap.size 45 4 (.slice none 0 0) 0 (prcells []) from World.ownsRow_nil _ _ _ _)) rfl)
                obtain ⟨L3, hL3⟩ : ∃ l, List.take 20 [] = l := ⟨_, rfl⟩
                obtain ⟨q3, hq3⟩ : ∃ q, L3.length = q := ⟨_, rfl⟩
                have hl3 : PrsOk L3 := by rw [← hL3]; exact prs_take (fun x hx => by cases hx) 20
                have hq3b : q3 ≤ 20 := by rw [← hq3, ← hL3, List.length_take]; omega
                have HL3 := hid hl3
                have HQ3 := hid hq3
                rw [hL3] at HOW
                unfold GivesPs at HOW
                rw [hq3] at HOW
                obtain ⟨S2, hS2⟩ : ∃ x, w16_1650.heap.size = x := ⟨_, rfl⟩
                have HGS : Hid (∀ k, (Value.slice none 0 0).ownBlock = some k → k < S2) := hid (fun k hk => by rw [← hS2]; exact own_lt (show World.ownsRow _ V.heap.size 45 4 (.slice none 0 0) 0 (prcells []) from World.ownsRow_nil _ _ _ _) k hk)
                rw [hS2] at HOW
                have hVS2 : V.heap.size ≤ S2 := by rw [← hS2]; exact HB_80.out.size
                clear hL3 hq3 hl3
                go_wp2_with (refine wp_loadW rfl 25 (.tmp 9) rfl X9 _ rfl _ KX9_84.out _ Tryd.underlying25 rfl (by kernel_rfl) ?_; intro v hv; subst hv)
                refine (HOW.out).mono ?_
                rintro e w17_1675 ⟨a3, c3, rfl, hrow, hbn⟩
                have hbn : Below w16_1650.heap.size w16_1650 w17_1675 := by rw [hS2]; exact hbn
                have KX5_86 := hid (keep_laid KX5_78.out hbn)
                have HRP_87 := hid (own_grow HRP_79.out hbn)
                have HB_88 := hid (HB_80.out.trans (hbn.mono HB_80.out.size))
                have KX7_89 := hid (keep_laid KX7_81.out hbn)
                have HRW_90 := hid (own_grow HRW_82.out hbn)
                have KX8_91 := hid (keep_laid KX8_83.out hbn)
                have KX9_92 := hid (keep_laid KX9_84.out hbn)
                have KX10_93 := hid (keep_laid KX10_85.out hbn)
                clear KX5_78 HRP_79 HB_80 KX7_81 HRW_82 KX8_83 KX9_84 KX10_85 hbn hS2
                have HRN := hid hrow
                have hlr3 := (Leads.of_own1 hrow).len
                clear hrow
                obtain ⟨w18_1692, hw18_1692, hbn, hsn, hln⟩ := laid w17_1675 #[.int .i64 0, .int .i64 0, .int .i64 0, .int .i64 0, .int .i64 0, .int .i64 0, .int .i64 0, .int .i64 0, .int .i64 0, .int .i64 0, .int .i64 0, .int .i64 0, .int .i64 0, .int .i64 0, .int .i64 0, .int .i64 0, .slice none 0 0] 25
                obtain ⟨X16, hNMX16⟩ : ∃ X, w17_1675.heap.size = X := ⟨_, rfl⟩
                rw [hNMX16] at hln
                have nX5X16 : X5 < X16 := by have := lt_laid KX5_86.out; omega
                have nX7X16 : X7 < X16 := by have := lt_laid KX7_89.out; omega
                have nX8X16 : X8 < X16 := by have := lt_laid KX8_91.out; omega
                have nX9X16 : X9 < X16 := by have := lt_laid KX9_92.out; omega
                have nX10X16 : X10 < X16 := by have := lt_laid KX10_93.out; omega
                have hVX16 : V.heap.size ≤ X16 := by have := HB_88.out.size; omega
                have KX5_94 := hid (keep_laid KX5_86.out hbn)
                have HRP_95 := hid (own_grow HRP_87.out hbn)
                have HB_96 := hid (HB_88.out.trans (hbn.mono HB_88.out.size))
                have KX7_97 := hid (keep_laid KX7_89.out hbn)
                have HRW_98 := hid (own_grow HRW_90.out hbn)
                have KX8_99 := hid (keep_laid KX8_91.out hbn)
                have KX9_100 := hid (keep_laid KX9_92.out hbn)
                have KX10_101 := hid (keep_laid KX10_93.out hbn)
                have HRN_102 := hid (own_grow HRN.out hbn)
                clear KX5_86 HRP_87 HB_88 KX7_89 HRW_90 KX8_91 KX9_92 KX10_93 HRN hbn hsn
                have KX16_103 := hid (hln)
                clear hln
                go_upto_region 29 with (refine wp_storeW rfl 25 (.tmp 16) (.tmp 115) rfl X16 _ _ rfl rfl _ KX16_103.out (by kernel_rfl) (by rfl) (by simp [Value.oneCell']) ?_; intro u19_1713 a1 a2 a3 a4; have HA1 := hid a1; have HA2 := hid a2; have HA3 := hid a3; clear a1 a2 a3 a4)
                have KX5_104 := hid (HA2.out X5 _ (by omega) KX5_94.out)
                have HRP_105 := hid (own_keep HRP_95.out fun k o hk ho => HA2.out k o (fun e => own_neP HRP_95.out KX16_103.out (by decide) (by rw [← e]; exact hk)) ho)
                have HB_106 := hid (HA3.out _ _ (by omega) HB_96.out)
                have KX7_107 := hid (HA2.out X7 _ (by omega) KX7_97.out)
                have HRW_108 := hid (own_keep HRW_98.out fun k o hk ho => HA2.out k o (fun e => own_neP HRW_98.out KX16_103.out (by decide) (by rw [← e]; exact hk)) ho)
                have KX8_109 := hid (HA2.out X8 _ (by omega) KX8_99.out)
                have KX9_110 := hid (HA2.out X9 _ (by omega) KX9_100.out)
                have KX10_111 := hid (HA2.out X10 _ (by omega) KX10_101.out)
                have HRN_112 := hid (own_keep HRN_102.out fun k o hk ho => HA2.out k o (fun e => own_neP HRN_102.out KX16_103.out (by decide) (by rw [← e]; exact hk)) ho)
                have KX16_113 := hid (HA1.out)
                clear HA1 HA2 HA3 KX5_94 HRP_95 HB_96 KX7_97 HRW_98 KX8_99 KX9_100 KX10_101 HRN_102 KX16_103 hNMX16 hw18_1692
                have HSP := hid (Spoil_any 0 0 _ none zG [] u19_1713 (show World.ownsRow _ V.heap.size 45 4 (.slice none 0 0) 0 (prcells []) from World.ownsRow_nil _ _ _ _) rfl (by omega))
                go_wp2_with (refine wp_loadW rfl 25 (.tmp 9) rfl X9 _ rfl _ KX9_110.out _ Tryd.underlying25 rfl (by kernel_rfl) ?_; intro v hv; subst hv)
                refine HSP.out.mono ?_
                rintro e w20_1726 ⟨rfl, hgs⟩
                have KX5_114 := hid (keep_grown KX5_104.out hgs (own_neP (show World.ownsRow _ V.heap.size 45 4 (.slice none 0 0) 0 (prcells []) from World.ownsRow_nil _ _ _ _) KX5_104.out (by decide)))
                have HRP_115 := hid (own_keep HRP_105.out fun k o hk ho => keep_grown ho hgs (fun e => by have := LTHRP.out k hk; have := HGB1.out k e; omega))
                have HB_116 := hid (HB_106.out.grown hgs HB_106.out.size (fun k e => HGB.out k e))
                have KX7_117 := hid (keep_grown KX7_107.out hgs (own_neP (show World.ownsRow _ V.heap.size 45 4 (.slice none 0 0) 0 (prcells []) from World.ownsRow_nil _ _ _ _) KX7_107.out (by decide)))
                have HRW_118 := hid (own_keep HRW_108.out fun k o hk ho => keep_grown ho hgs (fun e => by have := LTHRW.out k hk; have := HGB1.out k e; omega))
                have KX8_119 := hid (keep_grown KX8_109.out hgs (own_neP (show World.ownsRow _ V.heap.size 45 4 (.slice none 0 0) 0 (prcells []) from World.ownsRow_nil _ _ _ _) KX8_109.out (by decide)))
                have KX9_120 := hid (keep_grown KX9_110.out hgs (own_neP (show World.ownsRow _ V.heap.size 45 4 (.slice none 0 0) 0 (prcells []) from World.ownsRow_nil _ _ _ _) KX9_110.out (by decide)))
                have KX10_121 := hid (keep_grown KX10_111.out hgs (own_neP (show World.ownsRow _ V.heap.size 45 4 (.slice none 0 0) 0 (prcells []) from World.ownsRow_nil _ _ _ _) KX10_111.out (by decide)))
                have HRN_122 := hid (own_keep HRN_112.out fun k o hk ho => keep_grown ho hgs (fun e => by have := HGS.out k e; have := (HRN_112.out.lt k hk).1; omega))
                have KX16_123 := hid (keep_grown KX16_113.out hgs (own_neP (show World.ownsRow _ V.heap.size 45 4 (.slice none 0 0) 0 (prcells []) from World.ownsRow_nil _ _ _ _) KX16_113.out (by decide)))
                clear hgs HSP KX5_104 HRP_105 HB_106 KX7_107 HRW_108 KX8_109 KX9_110 KX10_111 HRN_112 KX16_113
                have HSM := hid (rSame_any pm pc pm wc pa wa G G P P w20_1726 (Leads.of_own1 HRP_115.out) HPM.out (Leads.of_own1 HRW_118.out) HPM.out ⟨by omega, by omega⟩ HGO.out HGO.out HPB.out HPB.out)
                rw [same_self] at HSM
                go_wp2_with (first | (refine wp_loadW rfl 25 (.tmp 5) rfl X5 _ rfl _ KX5_114.out _ Tryd.underlying25 rfl (by kernel_rfl) ?_; intro v hv; subst hv) | (refine wp_loadW rfl 25 (.tmp 8) rfl X8 _ rfl _ KX8_119.out _ Tryd.underlying25 rfl (by kernel_rfl) ?_; intro v hv; subst hv))
                refine HSM.out.mono ?_
                rintro e w21_1744 ⟨rfl, hbn⟩
                have KX5_124 := hid (keep_laid KX5_114.out hbn)
                have HRP_125 := hid (own_grow HRP_115.out hbn)
                have HB_126 := hid (HB_116.out.trans (hbn.mono HB_116.out.size))
                have KX7_127 := hid (keep_laid KX7_117.out hbn)
                have HRW_128 := hid (own_grow HRW_118.out hbn)
                have KX8_129 := hid (keep_laid KX8_119.out hbn)
                have KX9_130 := hid (keep_laid KX9_120.out hbn)
                have KX10_131 := hid (keep_laid KX10_121.out hbn)
                have HRN_132 := hid (own_grow HRN_122.out hbn)
                have KX16_133 := hid (keep_laid KX16_123.out hbn)
                clear KX5_114 HRP_115 HB_116 KX7_117 HRW_118 KX8_119 KX9_120 KX10_121 HRN_122 KX16_123 hbn HSM
                go_wp2
                go_roundg (gk - 1)
                case measure => have := HJ.out; omega
                case rel => exact ⟨j + 1, G, P, pm, pa, pc, _, _, _, _, _, _, _, _, _, _, _, _, _, by have := HJ.out; omega, by omega, hpm, by go_num, rfl, rfl, rfl, rfl, rfl, rfl, rfl, rfl, rfl, rfl, rfl, rfl, rfl, HGO, HPB, HPM, KX5_124, HRP_125, HB_126⟩
            | true =>
              as_aux_lemma =>
                have HO := hid ((okP_iff G P).1 HOK.out)
                rw [okRes_ok HO.out] at HSP
                obtain ⟨R0, hR0⟩ : ∃ r, waitP G P p1 p2 = r := ⟨_, rfl⟩
                rw [hR0] at HSP
                have HR0 := hid hR0
                clear hR0
                cases R0 with
                | error e0 =>
                  have he0 := wait_code HR0.out
                  have te0 : (((e0 : Nat) : Int) == 0) = false := by simp; omega
                  clear he0 hS1
                  unfold Gives3 at HSP
                  dsimp only at HSP
                  go_wp2_with (refine wp_loadW rfl 25 (.tmp 5) rfl X5 _ rfl _ KX5_54.out _ Tryd.underlying25 rfl (by kernel_rfl) ?_; intro v hv; subst hv)
                  refine (HSP.out).mono ?_
                  rintro e w14_1775 ⟨hbn, rfl⟩
                  have KX5_62 := hid (keep_laid KX5_54.out hbn)
                  have HRP_63 := hid (own_grow HRP_55.out hbn)
                  have HB_64 := hid (HB_56.out.trans (hbn.mono HB_56.out.size))
                  have KX7_65 := hid (keep_laid KX7_57.out hbn)
                  have HRW_66 := hid (own_grow HRW_58.out hbn)
                  have KX8_67 := hid (keep_laid KX8_59.out hbn)
                  have KX9_68 := hid (keep_laid KX9_60.out hbn)
                  have KX10_69 := hid (keep_laid KX10_61.out hbn)
                  clear KX5_54 HRP_55 HB_56 KX7_57 HRW_58 KX8_59 KX9_60 KX10_61 hbn HSP
                  go_upto_region 17 with (refine wp_storeW rfl 25 (.tmp 9) (.tmp 43) rfl X9 _ _ rfl rfl _ KX9_68.out (by kernel_rfl) (by rfl) (by simp [Value.oneCell']) ?_; intro u15_1787 a1 a2 a3 a4; have HA1 := hid a1; have HA2 := hid a2; have HA3 := hid a3; clear a1 a2 a3 a4)
                  have KX5_70 := hid (HA2.out X5 _ (by omega) KX5_62.out)
                  have HRP_71 := hid (own_keep HRP_63.out fun k o hk ho => HA2.out k o (fun e => own_neP HRP_63.out KX9_68.out (by decide) (by rw [← e]; exact hk)) ho)
                  have HB_72 := hid (HA3.out _ _ (by omega) HB_64.out)
                  have KX7_73 := hid (HA2.out X7 _ (by omega) KX7_65.out)
                  have HRW_74 := hid (own_keep HRW_66.out fun k o hk ho => HA2.out k o (fun e => own_neP HRW_66.out KX9_68.out (by decide) (by rw [← e]; exact hk)) ho)
                  have KX8_75 := hid (HA2.out X8 _ (by omega) KX8_67.out)
                  have KX9_76 := hid (HA1.out)
                  have KX10_77 := hid (HA2.out X10 _ (by omega) KX10_69.out)
                  clear HA1 HA2 HA3 KX5_62 HRP_63 HB_64 KX7_65 HRW_66 KX8_67 KX9_68 KX10_69
                  clear f0 f1 f2
                  obtain ⟨D, hD⟩ : ∃ DX, World.drew u15_1787 = DX := ⟨_, rfl⟩
                  have hbD : Below u15_1787.heap.size u15_1787 D := by rw [← hD]; exact (Below.refl _ _).drew
                  have HD := hid hD
                  clear hD
                  have KX5_78 := hid (keep_laid KX5_70.out hbD)
                  have HRP_79 := hid (own_grow HRP_71.out hbD)
                  have HB_80 := hid (HB_72.out.trans (hbD.mono HB_72.out.size))
                  have KX7_81 := hid (keep_laid KX7_73.out hbD)
                  have HRW_82 := hid (own_grow HRW_74.out hbD)
                  have KX8_83 := hid (keep_laid KX8_75.out hbD)
                  have KX9_84 := hid (keep_laid KX9_76.out hbD)
                  have KX10_85 := hid (keep_laid KX10_77.out hbD)
                  clear KX5_70 HRP_71 HB_72 KX7_73 HRW_74 KX8_75 KX9_76 KX10_77 hbD
                  haveI : Nonempty (Two X5 X7 #[.int .i64 (G 0), .int .i64 (G 1), .int .i64 (G 2), .int .i64 (G 3), .int .i64 (G 4), .int .i64 (G 5), .int .i64 (G 6), .int .i64 (G 7), .int .i64 (G 8), .int .i64 (G 9), .int .i64 (G 10), .int .i64 (G 11), .int .i64 (G 12), .int .i64 (G 13), .int .i64 (G 14), .int .i64 (G 15), .slice pa pm pc] #[.int .i64 kd, .int .u64 ((p1 : Nat) : Int), .int .u64 ((p2 : Nat) : Int)] 25 31) := ⟨⟨D, KX5_78.out, KX7_81.out⟩⟩
                  have q1 : ∀ z : Two X5 X7 #[.int .i64 (G 0), .int .i64 (G 1), .int .i64 (G 2), .int .i64 (G 3), .int .i64 (G 4), .int .i64 (G 5), .int .i64 (G 6), .int .i64 (G 7), .int .i64 (G 8), .int .i64 (G 9), .int .i64 (G 10), .int .i64 (G 11), .int .i64 (G 12), .int .i64 (G 13), .int .i64 (G 14), .int .i64 (G 15), .slice pa pm pc] #[.int .i64 kd, .int .u64 ((p1 : Nat) : Int), .int .u64 ((p2 : Nat) : Int)] 25 31, z.w.cell? ⟨X7, 1, none⟩ = some (.int .u64 ((p1 : Nat) : Int)) := fun z => cell_laid z.by_ rfl
                  have q2 : ∀ z : Two X5 X7 #[.int .i64 (G 0), .int .i64 (G 1), .int .i64 (G 2), .int .i64 (G 3), .int .i64 (G 4), .int .i64 (G 5), .int .i64 (G 6), .int .i64 (G 7), .int .i64 (G 8), .int .i64 (G 9), .int .i64 (G 10), .int .i64 (G 11), .int .i64 (G 12), .int .i64 (G 13), .int .i64 (G 14), .int .i64 (G 15), .slice pa pm pc] #[.int .i64 kd, .int .u64 ((p1 : Nat) : Int), .int .u64 ((p2 : Nat) : Int)] 25 31, z.w.cell? ⟨X7, 2, none⟩ = some (.int .u64 ((p2 : Nat) : Int)) := fun z => cell_laid z.by_ rfl
                  refine wp_region_mix3 (fun W => ∃ z : Two X5 X7 #[.int .i64 (G 0), .int .i64 (G 1), .int .i64 (G 2), .int .i64 (G 3), .int .i64 (G 4), .int .i64 (G 5), .int .i64 (G 6), .int .i64 (G 7), .int .i64 (G 8), .int .i64 (G 9), .int .i64 (G 10), .int .i64 (G 11), .int .i64 (G 12), .int .i64 (G 13), .int .i64 (G 14), .int .i64 (G 15), .slice pa pm pc] #[.int .i64 kd, .int .u64 ((p1 : Nat) : Int), .int .u64 ((p2 : Nat) : Int)] 25 31, W = z.w) 14 (.q 0 (.q 2 (.q 3 (.q 4 (.q 5 (.h 1 (.h 6 (.q 7 (.q 8 (.q 9 (.q 10 (.h 11 (.q 12 (.q 13 .done)))))))))))))) (by kernel_rfl) (by kernel_rfl) (by rw [HD.out]; exact ⟨⟨D, KX5_78.out, KX7_81.out⟩, rfl⟩) ?_
                  rw [HD.out]
                  refine wpMix3_q rfl rfl ?_
                  refine wpQuiet_loadW rfl 25 (.tmp 5) rfl X5 _ rfl _ (by rintro w ⟨z, rfl⟩; exact z.bx) _ Tryd.underlying25 rfl (by kernel_rfl) ?_
                  intro v hv
                  subst hv
                  refine wpQuiet_nil ?_
                  simp only [Act.put, List.setIfInBounds_toArray, List.set_cons_succ, List.set_cons_zero]
                  repeat (refine wpMix3_q rfl rfl ?_; go_big_quiet_step (fail); refine wpQuiet_nil ?_)
                  have HOW := hid (Own_any pm pc pa G P D (Leads.of_own1 HRP_79.out) HPM.out)
                  rw [HP20.out] at HOW
                  unfold GivesPs at HOW
                  rw [HPM.out] at HOW
                  refine wpMix3_h rfl fun R' hR' hO => ?_
                  go_wp2_with fail
                  refine HOW.out.mono ?_
                  rintro e w31 ⟨oa, oc, rfl, hrow, hbn⟩
                  have hlo := (Leads.of_own1 hrow).len
                  have HRO := hid hrow
                  clear hrow HOW
                  have KX5_86 := hid (keep_laid KX5_78.out hbn)
                  have HRP_87 := hid (own_grow HRP_79.out hbn)
                  have HB_88 := hid (HB_80.out.trans (hbn.mono HB_80.out.size))
                  have KX7_89 := hid (keep_laid KX7_81.out hbn)
                  have HRW_90 := hid (own_grow HRW_82.out hbn)
                  have KX8_91 := hid (keep_laid KX8_83.out hbn)
                  have KX9_92 := hid (keep_laid KX9_84.out hbn)
                  have KX10_93 := hid (keep_laid KX10_85.out hbn)
                  clear KX5_78 HRP_79 HB_80 KX7_81 HRW_82 KX8_83 KX9_84 KX10_85 hbn
                  go_wp2
                  refine hR' _ _ ⟨⟨w31, KX5_86.out, KX7_89.out⟩, rfl⟩ ?_
                  clear hR' hO R'
                  have HRF := hid ((fun W hW => rWait_any pm oc p1 p2 oa G P W hW HPM.out (by omega) HPB.out) w31 (Leads.of_own1 HRO.out))
                  rw [HR0.out] at HRF
                  unfold Gives3 at HRF
                  dsimp only at HRF
                  refine wpMix3_h rfl fun R' hR' hO => ?_
                  go_wp2_with fail
                  refine HRF.out.mono ?_
                  rintro e w32 ⟨hbn, rfl⟩
                  clear HRF HRO
                  have KX5_94 := hid (keep_laid KX5_86.out hbn)
                  have HRP_95 := hid (own_grow HRP_87.out hbn)
                  have HB_96 := hid (HB_88.out.trans (hbn.mono HB_88.out.size))
                  have KX7_97 := hid (keep_laid KX7_89.out hbn)
                  have HRW_98 := hid (own_grow HRW_90.out hbn)
                  have KX8_99 := hid (keep_laid KX8_91.out hbn)
                  have KX9_100 := hid (keep_laid KX9_92.out hbn)
                  have KX10_101 := hid (keep_laid KX10_93.out hbn)
                  clear KX5_86 HRP_87 HB_88 KX7_89 HRW_90 KX8_91 KX9_92 KX10_93 hbn
                  go_wp2
                  refine hR' _ _ ⟨⟨w32, KX5_94.out, KX7_97.out⟩, rfl⟩ ?_
                  clear hR' hO R'
                  repeat (refine wpMix3_q rfl rfl ?_; go_big_quiet_step (fail); refine wpQuiet_nil ?_)
                  refine wpMix3_h rfl fun R' hR' hO => ?_
                  go_wp2_with (refine wp_storeW rfl 25 (.tmp 10) (.tmp 55) rfl X10 _ _ rfl rfl _ KX10_101.out (by kernel_rfl) (by rfl) (by simp [Value.oneCell']) ?_; intro u33 a1 a2 a3 a4; have HA1 := hid a1; have HA2 := hid a2; have HA3 := hid a3; clear a1 a2 a3 a4)
                  have KX5_102 := hid (HA2.out X5 _ (by omega) KX5_94.out)
                  have HRP_103 := hid (own_keep HRP_95.out fun k o hk ho => HA2.out k o (fun e => own_neP HRP_95.out KX10_101.out (by decide) (by rw [← e]; exact hk)) ho)
                  have HB_104 := hid (HA3.out _ _ (by omega) HB_96.out)
                  have KX7_105 := hid (HA2.out X7 _ (by omega) KX7_97.out)
                  have HRW_106 := hid (own_keep HRW_98.out fun k o hk ho => HA2.out k o (fun e => own_neP HRW_98.out KX10_101.out (by decide) (by rw [← e]; exact hk)) ho)
                  have KX8_107 := hid (HA2.out X8 _ (by omega) KX8_99.out)
                  have KX9_108 := hid (HA2.out X9 _ (by omega) KX9_100.out)
                  have KX10_109 := hid (HA1.out)
                  clear HA1 HA2 HA3 KX5_94 HRP_95 HB_96 KX7_97 HRW_98 KX8_99 KX9_100 KX10_101
                  refine hR' _ _ ⟨⟨u33, KX5_102.out, KX7_105.out⟩, rfl⟩ ?_
                  clear hR' hO R'
                  repeat (refine wpMix3_q rfl rfl ?_; go_big_quiet_step (fail); refine wpQuiet_nil ?_)
                  refine wpMix3_done ?_
                  simp only [List.drop_succ_cons, List.drop_nil]
                  clear q1 q2
                  have HGB : Hid (∀ k, (Value.slice none 0 0).ownBlock = some k → V.heap.size ≤ k) := hid (fun k e => by cases e)
                  have HGB1 : Hid (∀ k, (Value.slice none 0 0).ownBlock = some k → S1 ≤ k) := hid (fun k e => by cases e)
                  have HSM := hid (rSame_any 0 0 0 0 none none zG zG [] [] u33 (Leads.of_own1 (show World.ownsRow _ V.heap.size 45 4 (.slice none 0 0) 0 (prcells []) from World.ownsRow_nil _ _ _ _)) rfl (Leads.of_own1 (show World.ownsRow _ V.heap.size 45 4 (.slice none 0 0) 0 (prcells []) from World.ownsRow_nil _ _ _ _)) rfl ⟨by omega, by omega⟩ zG_ok zG_ok (fun x hx => by cases hx) (fun x hx => by cases hx))
                  rw [same_self] at HSM
                  go_wp2_with (first | (refine wp_loadG rfl 25 (.tmp 9) rfl X9 _ rfl _ KX9_108.out _ Tryd.underlying25 rfl (by kernel_rfl) ?_; intro v hv; subst hv) | (refine wp_loadG rfl 25 (.tmp 10) rfl X10 _ rfl _ KX10_109.out _ Tryd.underlying25 rfl (by kernel_rfl) ?_; intro v hv; subst hv))
                  refine HSM.out.mono ?_
                  rintro e w16_1891 ⟨rfl, hbn⟩
                  have KX5_110 := hid (keep_laid KX5_102.out hbn)
                  have HRP_111 := hid (own_grow HRP_103.out hbn)
                  have HB_112 := hid (HB_104.out.trans (hbn.mono HB_104.out.size))
                  have KX7_113 := hid (keep_laid KX7_105.out hbn)
                  have HRW_114 := hid (own_grow HRW_106.out hbn)
                  have KX8_115 := hid (keep_laid KX8_107.out hbn)
                  have KX9_116 := hid (keep_laid KX9_108.out hbn)
                  have KX10_117 := hid (keep_laid KX10_109.out hbn)
                  clear KX5_102 HRP_103 HB_104 KX7_105 HRW_106 KX8_107 KX9_108 KX10_109 hbn HSM
                  have HOW := hid (Own_any 0 0 none zG [] w16_1891 (Leads.of_own1 (show World.ownsRow _ V.heap.size 45 4 (.slice none 0 0) 0 (prcells []) from World.ownsRow_nil _ _ _ _)) rfl)
                  obtain ⟨L3, hL3⟩ : ∃ l, List.take 20 [] = l := ⟨_, rfl⟩
                  obtain ⟨q3, hq3⟩ : ∃ q, L3.length = q := ⟨_, rfl⟩
                  have hl3 : PrsOk L3 := by rw [← hL3]; exact prs_take (fun x hx => by cases hx) 20
                  have hq3b : q3 ≤ 20 := by rw [← hq3, ← hL3, List.length_take]; omega
                  have HL3 := hid hl3
                  have HQ3 := hid hq3
                  rw [hL3] at HOW
                  unfold GivesPs at HOW
                  rw [hq3] at HOW
                  obtain ⟨S2, hS2⟩ : ∃ x, w16_1891.heap.size = x := ⟨_, rfl⟩
                  have HGS : Hid (∀ k, (Value.slice none 0 0).ownBlock = some k → k < S2) := hid (fun k hk => by rw [← hS2]; exact own_lt (show World.ownsRow _ V.heap.size 45 4 (.slice none 0 0) 0 (prcells []) from World.ownsRow_nil _ _ _ _) k hk)
                  rw [hS2] at HOW
                  have hVS2 : V.heap.size ≤ S2 := by rw [← hS2]; exact HB_112.out.size
                  clear hL3 hq3 hl3
                  go_wp2_with (refine wp_loadW rfl 25 (.tmp 9) rfl X9 _ rfl _ KX9_116.out _ Tryd.underlying25 rfl (by kernel_rfl) ?_; intro v hv; subst hv)
                  refine (HOW.out).mono ?_
                  rintro e w17_1916 ⟨a3, c3, rfl, hrow, hbn⟩
                  have hbn : Below w16_1891.heap.size w16_1891 w17_1916 := by rw [hS2]; exact hbn
                  have KX5_118 := hid (keep_laid KX5_110.out hbn)
                  have HRP_119 := hid (own_grow HRP_111.out hbn)
                  have HB_120 := hid (HB_112.out.trans (hbn.mono HB_112.out.size))
                  have KX7_121 := hid (keep_laid KX7_113.out hbn)
                  have HRW_122 := hid (own_grow HRW_114.out hbn)
                  have KX8_123 := hid (keep_laid KX8_115.out hbn)
                  have KX9_124 := hid (keep_laid KX9_116.out hbn)
                  have KX10_125 := hid (keep_laid KX10_117.out hbn)
                  clear KX5_110 HRP_111 HB_112 KX7_113 HRW_114 KX8_115 KX9_116 KX10_117 hbn hS2
                  have HRN := hid hrow
                  have hlr3 := (Leads.of_own1 hrow).len
                  clear hrow
                  obtain ⟨w18_1933, hw18_1933, hbn, hsn, hln⟩ := laid w17_1916 #[.int .i64 0, .int .i64 0, .int .i64 0, .int .i64 0, .int .i64 0, .int .i64 0, .int .i64 0, .int .i64 0, .int .i64 0, .int .i64 0, .int .i64 0, .int .i64 0, .int .i64 0, .int .i64 0, .int .i64 0, .int .i64 0, .slice none 0 0] 25
                  obtain ⟨X16, hNMX16⟩ : ∃ X, w17_1916.heap.size = X := ⟨_, rfl⟩
                  rw [hNMX16] at hln
                  have nX5X16 : X5 < X16 := by have := lt_laid KX5_118.out; omega
                  have nX7X16 : X7 < X16 := by have := lt_laid KX7_121.out; omega
                  have nX8X16 : X8 < X16 := by have := lt_laid KX8_123.out; omega
                  have nX9X16 : X9 < X16 := by have := lt_laid KX9_124.out; omega
                  have nX10X16 : X10 < X16 := by have := lt_laid KX10_125.out; omega
                  have hVX16 : V.heap.size ≤ X16 := by have := HB_120.out.size; omega
                  have KX5_126 := hid (keep_laid KX5_118.out hbn)
                  have HRP_127 := hid (own_grow HRP_119.out hbn)
                  have HB_128 := hid (HB_120.out.trans (hbn.mono HB_120.out.size))
                  have KX7_129 := hid (keep_laid KX7_121.out hbn)
                  have HRW_130 := hid (own_grow HRW_122.out hbn)
                  have KX8_131 := hid (keep_laid KX8_123.out hbn)
                  have KX9_132 := hid (keep_laid KX9_124.out hbn)
                  have KX10_133 := hid (keep_laid KX10_125.out hbn)
                  have HRN_134 := hid (own_grow HRN.out hbn)
                  clear KX5_118 HRP_119 HB_120 KX7_121 HRW_122 KX8_123 KX9_124 KX10_125 HRN hbn hsn
                  have KX16_135 := hid (hln)
                  clear hln
                  go_upto_region 29 with (refine wp_storeW rfl 25 (.tmp 16) (.tmp 115) rfl X16 _ _ rfl rfl _ KX16_135.out (by kernel_rfl) (by rfl) (by simp [Value.oneCell']) ?_; intro u19_1954 a1 a2 a3 a4; have HA1 := hid a1; have HA2 := hid a2; have HA3 := hid a3; clear a1 a2 a3 a4)
                  have KX5_136 := hid (HA2.out X5 _ (by omega) KX5_126.out)
                  have HRP_137 := hid (own_keep HRP_127.out fun k o hk ho => HA2.out k o (fun e => own_neP HRP_127.out KX16_135.out (by decide) (by rw [← e]; exact hk)) ho)
                  have HB_138 := hid (HA3.out _ _ (by omega) HB_128.out)
                  have KX7_139 := hid (HA2.out X7 _ (by omega) KX7_129.out)
                  have HRW_140 := hid (own_keep HRW_130.out fun k o hk ho => HA2.out k o (fun e => own_neP HRW_130.out KX16_135.out (by decide) (by rw [← e]; exact hk)) ho)
                  have KX8_141 := hid (HA2.out X8 _ (by omega) KX8_131.out)
                  have KX9_142 := hid (HA2.out X9 _ (by omega) KX9_132.out)
                  have KX10_143 := hid (HA2.out X10 _ (by omega) KX10_133.out)
                  have HRN_144 := hid (own_keep HRN_134.out fun k o hk ho => HA2.out k o (fun e => own_neP HRN_134.out KX16_135.out (by decide) (by rw [← e]; exact hk)) ho)
                  have KX16_145 := hid (HA1.out)
                  clear HA1 HA2 HA3 KX5_126 HRP_127 HB_128 KX7_129 HRW_130 KX8_131 KX9_132 KX10_133 HRN_134 KX16_135 hNMX16 hw18_1933
                  have HSP := hid (Spoil_any 0 0 _ none zG [] u19_1954 (show World.ownsRow _ V.heap.size 45 4 (.slice none 0 0) 0 (prcells []) from World.ownsRow_nil _ _ _ _) rfl (by omega))
                  go_wp2_with (refine wp_loadW rfl 25 (.tmp 9) rfl X9 _ rfl _ KX9_142.out _ Tryd.underlying25 rfl (by kernel_rfl) ?_; intro v hv; subst hv)
                  refine HSP.out.mono ?_
                  rintro e w20_1967 ⟨rfl, hgs⟩
                  have KX5_146 := hid (keep_grown KX5_136.out hgs (own_neP (show World.ownsRow _ V.heap.size 45 4 (.slice none 0 0) 0 (prcells []) from World.ownsRow_nil _ _ _ _) KX5_136.out (by decide)))
                  have HRP_147 := hid (own_keep HRP_137.out fun k o hk ho => keep_grown ho hgs (fun e => by have := LTHRP.out k hk; have := HGB1.out k e; omega))
                  have HB_148 := hid (HB_138.out.grown hgs HB_138.out.size (fun k e => HGB.out k e))
                  have KX7_149 := hid (keep_grown KX7_139.out hgs (own_neP (show World.ownsRow _ V.heap.size 45 4 (.slice none 0 0) 0 (prcells []) from World.ownsRow_nil _ _ _ _) KX7_139.out (by decide)))
                  have HRW_150 := hid (own_keep HRW_140.out fun k o hk ho => keep_grown ho hgs (fun e => by have := LTHRW.out k hk; have := HGB1.out k e; omega))
                  have KX8_151 := hid (keep_grown KX8_141.out hgs (own_neP (show World.ownsRow _ V.heap.size 45 4 (.slice none 0 0) 0 (prcells []) from World.ownsRow_nil _ _ _ _) KX8_141.out (by decide)))
                  have KX9_152 := hid (keep_grown KX9_142.out hgs (own_neP (show World.ownsRow _ V.heap.size 45 4 (.slice none 0 0) 0 (prcells []) from World.ownsRow_nil _ _ _ _) KX9_142.out (by decide)))
                  have KX10_153 := hid (keep_grown KX10_143.out hgs (own_neP (show World.ownsRow _ V.heap.size 45 4 (.slice none 0 0) 0 (prcells []) from World.ownsRow_nil _ _ _ _) KX10_143.out (by decide)))
                  have HRN_154 := hid (own_keep HRN_144.out fun k o hk ho => keep_grown ho hgs (fun e => by have := HGS.out k e; have := (HRN_144.out.lt k hk).1; omega))
                  have KX16_155 := hid (keep_grown KX16_145.out hgs (own_neP (show World.ownsRow _ V.heap.size 45 4 (.slice none 0 0) 0 (prcells []) from World.ownsRow_nil _ _ _ _) KX16_145.out (by decide)))
                  clear hgs HSP KX5_136 HRP_137 HB_138 KX7_139 HRW_140 KX8_141 KX9_142 KX10_143 HRN_144 KX16_145
                  have HSM := hid (rSame_any pm pc pm wc pa wa G G P P w20_1967 (Leads.of_own1 HRP_147.out) HPM.out (Leads.of_own1 HRW_150.out) HPM.out ⟨by omega, by omega⟩ HGO.out HGO.out HPB.out HPB.out)
                  rw [same_self] at HSM
                  go_wp2_with (first | (refine wp_loadW rfl 25 (.tmp 5) rfl X5 _ rfl _ KX5_146.out _ Tryd.underlying25 rfl (by kernel_rfl) ?_; intro v hv; subst hv) | (refine wp_loadW rfl 25 (.tmp 8) rfl X8 _ rfl _ KX8_151.out _ Tryd.underlying25 rfl (by kernel_rfl) ?_; intro v hv; subst hv))
                  refine HSM.out.mono ?_
                  rintro e w21_1985 ⟨rfl, hbn⟩
                  have KX5_156 := hid (keep_laid KX5_146.out hbn)
                  have HRP_157 := hid (own_grow HRP_147.out hbn)
                  have HB_158 := hid (HB_148.out.trans (hbn.mono HB_148.out.size))
                  have KX7_159 := hid (keep_laid KX7_149.out hbn)
                  have HRW_160 := hid (own_grow HRW_150.out hbn)
                  have KX8_161 := hid (keep_laid KX8_151.out hbn)
                  have KX9_162 := hid (keep_laid KX9_152.out hbn)
                  have KX10_163 := hid (keep_laid KX10_153.out hbn)
                  have HRN_164 := hid (own_grow HRN_154.out hbn)
                  have KX16_165 := hid (keep_laid KX16_155.out hbn)
                  clear KX5_146 HRP_147 HB_148 KX7_149 HRW_150 KX8_151 KX9_152 KX10_153 HRN_154 KX16_155 hbn HSM
                  go_wp2
                  go_roundg (gk - 1)
                  case measure => have := HJ.out; omega
                  case rel => exact ⟨j + 1, G, P, pm, pa, pc, _, _, _, _, _, _, _, _, _, _, _, _, _, by have := HJ.out; omega, by omega, hpm, by go_num, rfl, rfl, rfl, rfl, rfl, rfl, rfl, rfl, rfl, rfl, rfl, rfl, rfl, HGO, HPB, HPM, KX5_156, HRP_157, HB_158⟩
                | ok r0 =>
                  obtain ⟨G1, L1, n1⟩ := r0
                  obtain ⟨hG1, hL1, hl1⟩ := waitP_inv HGO.out HPB.out HO.out HR0.out
                  obtain ⟨m1, hm1⟩ : ∃ m, L1.length = m := ⟨_, rfl⟩
                  rw [hm1] at hl1
                  have HG1 := hid hG1
                  have HL1 := hid hL1
                  have HM1 := hid hm1
                  unfold Gives3 at HSP
                  dsimp only at HSP
                  rw [hm1, hS1] at HSP
                  clear hG1 hL1 hm1
                  go_wp2_with (refine wp_loadW rfl 25 (.tmp 5) rfl X5 _ rfl _ KX5_54.out _ Tryd.underlying25 rfl (by kernel_rfl) ?_; intro v hv; subst hv)
                  refine (HSP.out).mono ?_
                  rintro e w14_2013 ⟨hbn, a1, c1, rfl, hrow⟩
                  have hbn : Below w13_255.heap.size w13_255 w14_2013 := by rw [hS1]; exact hbn
                  have KX5_62 := hid (keep_laid KX5_54.out hbn)
                  have HRP_63 := hid (own_grow HRP_55.out hbn)
                  have HB_64 := hid (HB_56.out.trans (hbn.mono HB_56.out.size))
                  have KX7_65 := hid (keep_laid KX7_57.out hbn)
                  have HRW_66 := hid (own_grow HRW_58.out hbn)
                  have KX8_67 := hid (keep_laid KX8_59.out hbn)
                  have KX9_68 := hid (keep_laid KX9_60.out hbn)
                  have KX10_69 := hid (keep_laid KX10_61.out hbn)
                  clear KX5_54 HRP_55 HB_56 KX7_57 HRW_58 KX8_59 KX9_60 KX10_61 hbn hS1
                  have HRG := hid hrow
                  have hlr1 := (Leads.of_own1 hrow).len
                  have HGB1 : Hid (∀ k, (Value.slice a1 m1 c1).ownBlock = some k → S1 ≤ k) := hid (fun k hk => (hrow.lt k hk).1)
                  have HGB : Hid (∀ k, (Value.slice a1 m1 c1).ownBlock = some k → V.heap.size ≤ k) := hid (fun k hk => Nat.le_trans hVS1 (HGB1.out k hk))
                  clear hrow
                  go_upto_region 17 with (refine wp_storeW rfl 25 (.tmp 9) (.tmp 43) rfl X9 _ _ rfl rfl _ KX9_68.out (by kernel_rfl) (by rfl) (by simp [Value.oneCell']) ?_; intro u15_2031 a1 a2 a3 a4; have HA1 := hid a1; have HA2 := hid a2; have HA3 := hid a3; clear a1 a2 a3 a4)
                  have KX5_70 := hid (HA2.out X5 _ (by omega) KX5_62.out)
                  have HRP_71 := hid (own_keep HRP_63.out fun k o hk ho => HA2.out k o (fun e => own_neP HRP_63.out KX9_68.out (by decide) (by rw [← e]; exact hk)) ho)
                  have HB_72 := hid (HA3.out _ _ (by omega) HB_64.out)
                  have KX7_73 := hid (HA2.out X7 _ (by omega) KX7_65.out)
                  have HRW_74 := hid (own_keep HRW_66.out fun k o hk ho => HA2.out k o (fun e => own_neP HRW_66.out KX9_68.out (by decide) (by rw [← e]; exact hk)) ho)
                  have KX8_75 := hid (HA2.out X8 _ (by omega) KX8_67.out)
                  have KX9_76 := hid (HA1.out)
                  have KX10_77 := hid (HA2.out X10 _ (by omega) KX10_69.out)
                  have HRG_78 := hid (own_keep HRG.out fun k o hk ho => HA2.out k o (fun e => own_neP HRG.out KX9_68.out (by decide) (by rw [← e]; exact hk)) ho)
                  clear HA1 HA2 HA3 KX5_62 HRP_63 HB_64 KX7_65 HRW_66 KX8_67 KX9_68 KX10_69 HRG
                  clear f0 f1 f2
                  obtain ⟨D, hD⟩ : ∃ DX, World.drew u15_2031 = DX := ⟨_, rfl⟩
                  have hbD : Below u15_2031.heap.size u15_2031 D := by rw [← hD]; exact (Below.refl _ _).drew
                  have HD := hid hD
                  clear hD
                  have KX5_79 := hid (keep_laid KX5_70.out hbD)
                  have HRP_80 := hid (own_grow HRP_71.out hbD)
                  have HB_81 := hid (HB_72.out.trans (hbD.mono HB_72.out.size))
                  have KX7_82 := hid (keep_laid KX7_73.out hbD)
                  have HRW_83 := hid (own_grow HRW_74.out hbD)
                  have KX8_84 := hid (keep_laid KX8_75.out hbD)
                  have KX9_85 := hid (keep_laid KX9_76.out hbD)
                  have KX10_86 := hid (keep_laid KX10_77.out hbD)
                  have HRG_87 := hid (own_grow HRG_78.out hbD)
                  clear KX5_70 HRP_71 HB_72 KX7_73 HRW_74 KX8_75 KX9_76 KX10_77 HRG_78 hbD
                  haveI : Nonempty (Two X5 X7 #[.int .i64 (G 0), .int .i64 (G 1), .int .i64 (G 2), .int .i64 (G 3), .int .i64 (G 4), .int .i64 (G 5), .int .i64 (G 6), .int .i64 (G 7), .int .i64 (G 8), .int .i64 (G 9), .int .i64 (G 10), .int .i64 (G 11), .int .i64 (G 12), .int .i64 (G 13), .int .i64 (G 14), .int .i64 (G 15), .slice pa pm pc] #[.int .i64 kd, .int .u64 ((p1 : Nat) : Int), .int .u64 ((p2 : Nat) : Int)] 25 31) := ⟨⟨D, KX5_79.out, KX7_82.out⟩⟩
                  have q1 : ∀ z : Two X5 X7 #[.int .i64 (G 0), .int .i64 (G 1), .int .i64 (G 2), .int .i64 (G 3), .int .i64 (G 4), .int .i64 (G 5), .int .i64 (G 6), .int .i64 (G 7), .int .i64 (G 8), .int .i64 (G 9), .int .i64 (G 10), .int .i64 (G 11), .int .i64 (G 12), .int .i64 (G 13), .int .i64 (G 14), .int .i64 (G 15), .slice pa pm pc] #[.int .i64 kd, .int .u64 ((p1 : Nat) : Int), .int .u64 ((p2 : Nat) : Int)] 25 31, z.w.cell? ⟨X7, 1, none⟩ = some (.int .u64 ((p1 : Nat) : Int)) := fun z => cell_laid z.by_ rfl
                  have q2 : ∀ z : Two X5 X7 #[.int .i64 (G 0), .int .i64 (G 1), .int .i64 (G 2), .int .i64 (G 3), .int .i64 (G 4), .int .i64 (G 5), .int .i64 (G 6), .int .i64 (G 7), .int .i64 (G 8), .int .i64 (G 9), .int .i64 (G 10), .int .i64 (G 11), .int .i64 (G 12), .int .i64 (G 13), .int .i64 (G 14), .int .i64 (G 15), .slice pa pm pc] #[.int .i64 kd, .int .u64 ((p1 : Nat) : Int), .int .u64 ((p2 : Nat) : Int)] 25 31, z.w.cell? ⟨X7, 2, none⟩ = some (.int .u64 ((p2 : Nat) : Int)) := fun z => cell_laid z.by_ rfl
                  refine wp_region_mix3 (fun W => ∃ z : Two X5 X7 #[.int .i64 (G 0), .int .i64 (G 1), .int .i64 (G 2), .int .i64 (G 3), .int .i64 (G 4), .int .i64 (G 5), .int .i64 (G 6), .int .i64 (G 7), .int .i64 (G 8), .int .i64 (G 9), .int .i64 (G 10), .int .i64 (G 11), .int .i64 (G 12), .int .i64 (G 13), .int .i64 (G 14), .int .i64 (G 15), .slice pa pm pc] #[.int .i64 kd, .int .u64 ((p1 : Nat) : Int), .int .u64 ((p2 : Nat) : Int)] 25 31, W = z.w) 14 (.q 0 (.q 2 (.q 3 (.q 4 (.q 5 (.h 1 (.h 6 (.q 7 (.q 8 (.q 9 (.q 10 (.h 11 (.q 12 (.q 13 .done)))))))))))))) (by kernel_rfl) (by kernel_rfl) (by rw [HD.out]; exact ⟨⟨D, KX5_79.out, KX7_82.out⟩, rfl⟩) ?_
                  rw [HD.out]
                  refine wpMix3_q rfl rfl ?_
                  refine wpQuiet_loadW rfl 25 (.tmp 5) rfl X5 _ rfl _ (by rintro w ⟨z, rfl⟩; exact z.bx) _ Tryd.underlying25 rfl (by kernel_rfl) ?_
                  intro v hv
                  subst hv
                  refine wpQuiet_nil ?_
                  simp only [Act.put, List.setIfInBounds_toArray, List.set_cons_succ, List.set_cons_zero]
                  repeat (refine wpMix3_q rfl rfl ?_; go_big_quiet_step (fail); refine wpQuiet_nil ?_)
                  have HOW := hid (Own_any pm pc pa G P D (Leads.of_own1 HRP_80.out) HPM.out)
                  rw [HP20.out] at HOW
                  unfold GivesPs at HOW
                  rw [HPM.out] at HOW
                  refine wpMix3_h rfl fun R' hR' hO => ?_
                  go_wp2_with fail
                  refine HOW.out.mono ?_
                  rintro e w31 ⟨oa, oc, rfl, hrow, hbn⟩
                  have hlo := (Leads.of_own1 hrow).len
                  have HRO := hid hrow
                  clear hrow HOW
                  have KX5_88 := hid (keep_laid KX5_79.out hbn)
                  have HRP_89 := hid (own_grow HRP_80.out hbn)
                  have HB_90 := hid (HB_81.out.trans (hbn.mono HB_81.out.size))
                  have KX7_91 := hid (keep_laid KX7_82.out hbn)
                  have HRW_92 := hid (own_grow HRW_83.out hbn)
                  have KX8_93 := hid (keep_laid KX8_84.out hbn)
                  have KX9_94 := hid (keep_laid KX9_85.out hbn)
                  have KX10_95 := hid (keep_laid KX10_86.out hbn)
                  have HRG_96 := hid (own_grow HRG_87.out hbn)
                  clear KX5_79 HRP_80 HB_81 KX7_82 HRW_83 KX8_84 KX9_85 KX10_86 HRG_87 hbn
                  go_wp2
                  refine hR' _ _ ⟨⟨w31, KX5_88.out, KX7_91.out⟩, rfl⟩ ?_
                  clear hR' hO R'
                  have HRF := hid ((fun W hW => rWait_any pm oc p1 p2 oa G P W hW HPM.out (by omega) HPB.out) w31 (Leads.of_own1 HRO.out))
                  rw [HR0.out] at HRF
                  unfold Gives3 at HRF
                  dsimp only at HRF
                  refine wpMix3_h rfl fun R' hR' hO => ?_
                  go_wp2_with fail
                  refine HRF.out.mono ?_
                  rintro e w32 ⟨hbn, a2, c2, rfl, hrow⟩
                  have hlr2 := (Leads.of_own1 hrow).len
                  have HRQ := hid hrow
                  rw [HM1.out] at HRQ hlr2 ⊢
                  clear hrow
                  clear HRF HRO
                  have KX5_97 := hid (keep_laid KX5_88.out hbn)
                  have HRP_98 := hid (own_grow HRP_89.out hbn)
                  have HB_99 := hid (HB_90.out.trans (hbn.mono HB_90.out.size))
                  have KX7_100 := hid (keep_laid KX7_91.out hbn)
                  have HRW_101 := hid (own_grow HRW_92.out hbn)
                  have KX8_102 := hid (keep_laid KX8_93.out hbn)
                  have KX9_103 := hid (keep_laid KX9_94.out hbn)
                  have KX10_104 := hid (keep_laid KX10_95.out hbn)
                  have HRG_105 := hid (own_grow HRG_96.out hbn)
                  clear KX5_88 HRP_89 HB_90 KX7_91 HRW_92 KX8_93 KX9_94 KX10_95 HRG_96 hbn
                  go_wp2
                  refine hR' _ _ ⟨⟨w32, KX5_97.out, KX7_100.out⟩, rfl⟩ ?_
                  clear hR' hO R'
                  repeat (refine wpMix3_q rfl rfl ?_; go_big_quiet_step (fail); refine wpQuiet_nil ?_)
                  refine wpMix3_h rfl fun R' hR' hO => ?_
                  go_wp2_with (refine wp_storeW rfl 25 (.tmp 10) (.tmp 55) rfl X10 _ _ rfl rfl _ KX10_104.out (by kernel_rfl) (by rfl) (by simp [Value.oneCell']) ?_; intro u33 a1 a2 a3 a4; have HA1 := hid a1; have HA2 := hid a2; have HA3 := hid a3; clear a1 a2 a3 a4)
                  have KX5_106 := hid (HA2.out X5 _ (by omega) KX5_97.out)
                  have HRP_107 := hid (own_keep HRP_98.out fun k o hk ho => HA2.out k o (fun e => own_neP HRP_98.out KX10_104.out (by decide) (by rw [← e]; exact hk)) ho)
                  have HB_108 := hid (HA3.out _ _ (by omega) HB_99.out)
                  have KX7_109 := hid (HA2.out X7 _ (by omega) KX7_100.out)
                  have HRW_110 := hid (own_keep HRW_101.out fun k o hk ho => HA2.out k o (fun e => own_neP HRW_101.out KX10_104.out (by decide) (by rw [← e]; exact hk)) ho)
                  have KX8_111 := hid (HA2.out X8 _ (by omega) KX8_102.out)
                  have KX9_112 := hid (HA2.out X9 _ (by omega) KX9_103.out)
                  have KX10_113 := hid (HA1.out)
                  have HRG_114 := hid (own_keep HRG_105.out fun k o hk ho => HA2.out k o (fun e => own_neP HRG_105.out KX10_104.out (by decide) (by rw [← e]; exact hk)) ho)
                  have HRQ_115 := hid (own_keep HRQ.out fun k o hk ho => HA2.out k o (fun e => own_neP HRQ.out KX10_104.out (by decide) (by rw [← e]; exact hk)) ho)
                  clear HA1 HA2 HA3 KX5_97 HRP_98 HB_99 KX7_100 HRW_101 KX8_102 KX9_103 KX10_104 HRG_105 HRQ
                  refine hR' _ _ ⟨⟨u33, KX5_106.out, KX7_109.out⟩, rfl⟩ ?_
                  clear hR' hO R'
                  repeat (refine wpMix3_q rfl rfl ?_; go_big_quiet_step (fail); refine wpQuiet_nil ?_)
                  refine wpMix3_done ?_
                  simp only [List.drop_succ_cons, List.drop_nil]
                  clear q1 q2
                  have HSM := hid (rSame_any m1 c1 m1 c2 a1 a2 G1 G1 L1 L1 u33 (Leads.of_own1 HRG_114.out) HM1.out (Leads.of_own1 HRQ_115.out) HM1.out ⟨by omega, by omega⟩ HG1.out HG1.out HL1.out HL1.out)
                  rw [same_self] at HSM
                  go_wp2_with (first | (refine wp_loadG rfl 25 (.tmp 9) rfl X9 _ rfl _ KX9_112.out _ Tryd.underlying25 rfl (by kernel_rfl) ?_; intro v hv; subst hv) | (refine wp_loadG rfl 25 (.tmp 10) rfl X10 _ rfl _ KX10_113.out _ Tryd.underlying25 rfl (by kernel_rfl) ?_; intro v hv; subst hv))
                  refine HSM.out.mono ?_
                  rintro e w16_2143 ⟨rfl, hbn⟩
                  have KX5_116 := hid (keep_laid KX5_106.out hbn)
                  have HRP_117 := hid (own_grow HRP_107.out hbn)
                  have HB_118 := hid (HB_108.out.trans (hbn.mono HB_108.out.size))
                  have KX7_119 := hid (keep_laid KX7_109.out hbn)
                  have HRW_120 := hid (own_grow HRW_110.out hbn)
                  have KX8_121 := hid (keep_laid KX8_111.out hbn)
                  have KX9_122 := hid (keep_laid KX9_112.out hbn)
                  have KX10_123 := hid (keep_laid KX10_113.out hbn)
                  have HRG_124 := hid (own_grow HRG_114.out hbn)
                  have HRQ_125 := hid (own_grow HRQ_115.out hbn)
                  clear KX5_106 HRP_107 HB_108 KX7_109 HRW_110 KX8_111 KX9_112 KX10_113 HRG_114 HRQ_115 hbn HSM
                  have HOW := hid (Own_any m1 c1 a1 G1 L1 w16_2143 (Leads.of_own1 HRG_124.out) HM1.out)
                  obtain ⟨L3, hL3⟩ : ∃ l, List.take 20 L1 = l := ⟨_, rfl⟩
                  obtain ⟨q3, hq3⟩ : ∃ q, L3.length = q := ⟨_, rfl⟩
                  have hl3 : PrsOk L3 := by rw [← hL3]; exact prs_take HL1.out 20
                  have hq3b : q3 ≤ 20 := by rw [← hq3, ← hL3, List.length_take]; omega
                  have HL3 := hid hl3
                  have HQ3 := hid hq3
                  rw [hL3] at HOW
                  unfold GivesPs at HOW
                  rw [hq3] at HOW
                  obtain ⟨S2, hS2⟩ : ∃ x, w16_2143.heap.size = x := ⟨_, rfl⟩
                  have HGS : Hid (∀ k, (Value.slice a1 m1 c1).ownBlock = some k → k < S2) := hid (fun k hk => by rw [← hS2]; exact own_lt HRG_124.out k hk)
                  rw [hS2] at HOW
                  have hVS2 : V.heap.size ≤ S2 := by rw [← hS2]; exact HB_118.out.size
                  clear hL3 hq3 hl3
                  go_wp2_with (refine wp_loadW rfl 25 (.tmp 9) rfl X9 _ rfl _ KX9_122.out _ Tryd.underlying25 rfl (by kernel_rfl) ?_; intro v hv; subst hv)
                  refine (HOW.out).mono ?_
                  rintro e w17_2170 ⟨a3, c3, rfl, hrow, hbn⟩
                  have hbn : Below w16_2143.heap.size w16_2143 w17_2170 := by rw [hS2]; exact hbn
                  have KX5_126 := hid (keep_laid KX5_116.out hbn)
                  have HRP_127 := hid (own_grow HRP_117.out hbn)
                  have HB_128 := hid (HB_118.out.trans (hbn.mono HB_118.out.size))
                  have KX7_129 := hid (keep_laid KX7_119.out hbn)
                  have HRW_130 := hid (own_grow HRW_120.out hbn)
                  have KX8_131 := hid (keep_laid KX8_121.out hbn)
                  have KX9_132 := hid (keep_laid KX9_122.out hbn)
                  have KX10_133 := hid (keep_laid KX10_123.out hbn)
                  have HRG_134 := hid (own_grow HRG_124.out hbn)
                  have HRQ_135 := hid (own_grow HRQ_125.out hbn)
                  clear KX5_116 HRP_117 HB_118 KX7_119 HRW_120 KX8_121 KX9_122 KX10_123 HRG_124 HRQ_125 hbn hS2
                  have HRN := hid hrow
                  have hlr3 := (Leads.of_own1 hrow).len
                  clear hrow
                  obtain ⟨w18_2189, hw18_2189, hbn, hsn, hln⟩ := laid w17_2170 #[.int .i64 0, .int .i64 0, .int .i64 0, .int .i64 0, .int .i64 0, .int .i64 0, .int .i64 0, .int .i64 0, .int .i64 0, .int .i64 0, .int .i64 0, .int .i64 0, .int .i64 0, .int .i64 0, .int .i64 0, .int .i64 0, .slice none 0 0] 25
                  obtain ⟨X16, hNMX16⟩ : ∃ X, w17_2170.heap.size = X := ⟨_, rfl⟩
                  rw [hNMX16] at hln
                  have nX5X16 : X5 < X16 := by have := lt_laid KX5_126.out; omega
                  have nX7X16 : X7 < X16 := by have := lt_laid KX7_129.out; omega
                  have nX8X16 : X8 < X16 := by have := lt_laid KX8_131.out; omega
                  have nX9X16 : X9 < X16 := by have := lt_laid KX9_132.out; omega
                  have nX10X16 : X10 < X16 := by have := lt_laid KX10_133.out; omega
                  have hVX16 : V.heap.size ≤ X16 := by have := HB_128.out.size; omega
                  have KX5_136 := hid (keep_laid KX5_126.out hbn)
                  have HRP_137 := hid (own_grow HRP_127.out hbn)
                  have HB_138 := hid (HB_128.out.trans (hbn.mono HB_128.out.size))
                  have KX7_139 := hid (keep_laid KX7_129.out hbn)
                  have HRW_140 := hid (own_grow HRW_130.out hbn)
                  have KX8_141 := hid (keep_laid KX8_131.out hbn)
                  have KX9_142 := hid (keep_laid KX9_132.out hbn)
                  have KX10_143 := hid (keep_laid KX10_133.out hbn)
                  have HRG_144 := hid (own_grow HRG_134.out hbn)
                  have HRQ_145 := hid (own_grow HRQ_135.out hbn)
                  have HRN_146 := hid (own_grow HRN.out hbn)
                  clear KX5_126 HRP_127 HB_128 KX7_129 HRW_130 KX8_131 KX9_132 KX10_133 HRG_134 HRQ_135 HRN hbn hsn
                  have KX16_147 := hid (hln)
                  clear hln
                  go_upto_region 29 with (refine wp_storeW rfl 25 (.tmp 16) (.tmp 115) rfl X16 _ _ rfl rfl _ KX16_147.out (by kernel_rfl) (by rfl) (by simp [Value.oneCell']) ?_; intro u19_2212 a1 a2 a3 a4; have HA1 := hid a1; have HA2 := hid a2; have HA3 := hid a3; clear a1 a2 a3 a4)
                  have KX5_148 := hid (HA2.out X5 _ (by omega) KX5_136.out)
                  have HRP_149 := hid (own_keep HRP_137.out fun k o hk ho => HA2.out k o (fun e => own_neP HRP_137.out KX16_147.out (by decide) (by rw [← e]; exact hk)) ho)
                  have HB_150 := hid (HA3.out _ _ (by omega) HB_138.out)
                  have KX7_151 := hid (HA2.out X7 _ (by omega) KX7_139.out)
                  have HRW_152 := hid (own_keep HRW_140.out fun k o hk ho => HA2.out k o (fun e => own_neP HRW_140.out KX16_147.out (by decide) (by rw [← e]; exact hk)) ho)
                  have KX8_153 := hid (HA2.out X8 _ (by omega) KX8_141.out)
                  have KX9_154 := hid (HA2.out X9 _ (by omega) KX9_142.out)
                  have KX10_155 := hid (HA2.out X10 _ (by omega) KX10_143.out)
                  have HRG_156 := hid (own_keep HRG_144.out fun k o hk ho => HA2.out k o (fun e => own_neP HRG_144.out KX16_147.out (by decide) (by rw [← e]; exact hk)) ho)
                  have HRQ_157 := hid (own_keep HRQ_145.out fun k o hk ho => HA2.out k o (fun e => own_neP HRQ_145.out KX16_147.out (by decide) (by rw [← e]; exact hk)) ho)
                  have HRN_158 := hid (own_keep HRN_146.out fun k o hk ho => HA2.out k o (fun e => own_neP HRN_146.out KX16_147.out (by decide) (by rw [← e]; exact hk)) ho)
                  have KX16_159 := hid (HA1.out)
                  clear HA1 HA2 HA3 KX5_136 HRP_137 HB_138 KX7_139 HRW_140 KX8_141 KX9_142 KX10_143 HRG_144 HRQ_145 HRN_146 KX16_147 hNMX16 hw18_2189
                  have HSP := hid (Spoil_any m1 c1 _ a1 G1 L1 u19_2212 HRG_156.out HM1.out (by omega))
                  go_wp2_with (refine wp_loadW rfl 25 (.tmp 9) rfl X9 _ rfl _ KX9_154.out _ Tryd.underlying25 rfl (by kernel_rfl) ?_; intro v hv; subst hv)
                  refine HSP.out.mono ?_
                  rintro e w20_2227 ⟨rfl, hgs⟩
                  have KX5_160 := hid (keep_grown KX5_148.out hgs (own_neP HRG_156.out KX5_148.out (by decide)))
                  have HRP_161 := hid (own_keep HRP_149.out fun k o hk ho => keep_grown ho hgs (fun e => by have := LTHRP.out k hk; have := HGB1.out k e; omega))
                  have HB_162 := hid (HB_150.out.grown hgs HB_150.out.size (fun k e => HGB.out k e))
                  have KX7_163 := hid (keep_grown KX7_151.out hgs (own_neP HRG_156.out KX7_151.out (by decide)))
                  have HRW_164 := hid (own_keep HRW_152.out fun k o hk ho => keep_grown ho hgs (fun e => by have := LTHRW.out k hk; have := HGB1.out k e; omega))
                  have KX8_165 := hid (keep_grown KX8_153.out hgs (own_neP HRG_156.out KX8_153.out (by decide)))
                  have KX9_166 := hid (keep_grown KX9_154.out hgs (own_neP HRG_156.out KX9_154.out (by decide)))
                  have KX10_167 := hid (keep_grown KX10_155.out hgs (own_neP HRG_156.out KX10_155.out (by decide)))
                  have HRN_168 := hid (own_keep HRN_158.out fun k o hk ho => keep_grown ho hgs (fun e => by have := HGS.out k e; have := (HRN_158.out.lt k hk).1; omega))
                  have KX16_169 := hid (keep_grown KX16_159.out hgs (own_neP HRG_156.out KX16_159.out (by decide)))
                  clear hgs HSP KX5_148 HRP_149 HB_150 KX7_151 HRW_152 KX8_153 KX9_154 KX10_155 HRG_156 HRQ_157 HRN_158 KX16_159
                  have HSM := hid (rSame_any pm pc pm wc pa wa G G P P w20_2227 (Leads.of_own1 HRP_161.out) HPM.out (Leads.of_own1 HRW_164.out) HPM.out ⟨by omega, by omega⟩ HGO.out HGO.out HPB.out HPB.out)
                  rw [same_self] at HSM
                  go_wp2_with (first | (refine wp_loadW rfl 25 (.tmp 5) rfl X5 _ rfl _ KX5_160.out _ Tryd.underlying25 rfl (by kernel_rfl) ?_; intro v hv; subst hv) | (refine wp_loadW rfl 25 (.tmp 8) rfl X8 _ rfl _ KX8_165.out _ Tryd.underlying25 rfl (by kernel_rfl) ?_; intro v hv; subst hv))
                  refine HSM.out.mono ?_
                  rintro e w21_2245 ⟨rfl, hbn⟩
                  have KX5_170 := hid (keep_laid KX5_160.out hbn)
                  have HRP_171 := hid (own_grow HRP_161.out hbn)
                  have HB_172 := hid (HB_162.out.trans (hbn.mono HB_162.out.size))
                  have KX7_173 := hid (keep_laid KX7_163.out hbn)
                  have HRW_174 := hid (own_grow HRW_164.out hbn)
                  have KX8_175 := hid (keep_laid KX8_165.out hbn)
                  have KX9_176 := hid (keep_laid KX9_166.out hbn)
                  have KX10_177 := hid (keep_laid KX10_167.out hbn)
                  have HRN_178 := hid (own_grow HRN_168.out hbn)
                  have KX16_179 := hid (keep_laid KX16_169.out hbn)
                  clear KX5_160 HRP_161 HB_162 KX7_163 HRW_164 KX8_165 KX9_166 KX10_167 HRN_168 KX16_169 hbn HSM
                  go_upto_region 33 with (fail)
                  go_wp2_with (first | (refine wp_loadW rfl 25 (.tmp 16) rfl X16 _ rfl _ KX16_179.out _ Tryd.underlying25 rfl (by kernel_rfl) ?_; intro v hv; subst hv) | (refine wp_storeW rfl 25 (.tmp 5) (.tmp 124) rfl X5 _ _ rfl rfl _ KX5_170.out (by kernel_rfl) (by rfl) (by simp [Value.oneCell']) ?_; intro u20 a1 a2 a3 a4; have HA1 := hid a1; have HA2 := hid a2; have HA3 := hid a3; clear a1 a2 a3 a4))
                  have KX5_180 := hid (HA1.out)
                  have HRP_181 := hid (own_keep HRP_171.out fun k o hk ho => HA2.out k o (fun e => own_neP HRP_171.out KX5_170.out (by decide) (by rw [← e]; exact hk)) ho)
                  have HB_182 := hid (HA3.out _ _ (by omega) HB_172.out)
                  have KX7_183 := hid (HA2.out X7 _ (by omega) KX7_173.out)
                  have HRW_184 := hid (own_keep HRW_174.out fun k o hk ho => HA2.out k o (fun e => own_neP HRW_174.out KX5_170.out (by decide) (by rw [← e]; exact hk)) ho)
                  have KX8_185 := hid (HA2.out X8 _ (by omega) KX8_175.out)
                  have KX9_186 := hid (HA2.out X9 _ (by omega) KX9_176.out)
                  have KX10_187 := hid (HA2.out X10 _ (by omega) KX10_177.out)
                  have HRN_188 := hid (own_keep HRN_178.out fun k o hk ho => HA2.out k o (fun e => own_neP HRN_178.out KX5_170.out (by decide) (by rw [← e]; exact hk)) ho)
                  have KX16_189 := hid (HA2.out X16 _ (by omega) KX16_179.out)
                  clear HA1 HA2 HA3 KX5_170 HRP_171 HB_172 KX7_173 HRW_174 KX8_175 KX9_176 KX10_177 HRN_178 KX16_179
                  go_roundg (gk - 1)
                  case measure => have := HJ.out; omega
                  case rel => exact ⟨j + 1, G1, L3, q3, a3, c3, _, _, _, _, _, _, _, _, _, _, _, _, _, by have := HJ.out; omega, by omega, hq3b, by go_num, rfl, rfl, rfl, rfl, rfl, rfl, rfl, rfl, rfl, rfl, rfl, rfl, rfl, hid HG1.out, HL3, HQ3, KX5_180, hid (own_base HRN_188.out hVS2), HB_182⟩
    · go_wp2
      go_ret
      exact ⟨rfl, HB.out⟩
end Go.Proofs.YtmnbkhmphhgdiaaDoor
