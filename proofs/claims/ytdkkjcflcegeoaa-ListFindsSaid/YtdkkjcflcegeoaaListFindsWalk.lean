/- Lists: ListFinds, the walk (printed by gen_lsfinds.py). -/
import Derived.Test.YtdkkjcflcegeoaaLsWakes
import Derived.Test.YtdkkjcflcegeoaaLsRef6
import Derived.Test.YtdkkjcflcegeoaaLsPlain2
import Derived.Test.YtdkkjcflcegeoaaMemLaw15
import Derived.Test.YtdkkjcflcegeoaaMemRef
namespace Go.Proofs.Ytdkkjcflcegeoaa
open Go.RowKit
open Go.Proofs
set_option linter.unusedVariables false
attribute [local go_sem] Oper.semAt_some
theorem take64_wok {M : Mem} (h : ∀ x ∈ M.W, x < 18446744073709551616) : ∀ x ∈ (take64 M).W, x < 18446744073709551616 := fun x hx => h x (List.mem_of_mem_take hx)
theorem sameM_self (M : Mem) : sameM M M = true := by unfold sameM; simp
theorem nodesP_le (M : Mem) (head : Nat) : (nodesP M head).1.length ≤ 1100 := by
  cases hok : okM M with
  | false => rw [nodesP_bad hok]; exact Nat.zero_le _
  | true =>
    cases hn : nodesR M head with
    | none => rw [nodesP_none hok hn]; exact Nat.zero_le _
    | some xs => rw [nodesP_some hok hn]; have := nodesW_len hok (nodesR_some hn).1; show xs.length ≤ _; omega
theorem nodesP_nds {M : Mem} (hW : ∀ x ∈ M.W, x < 18446744073709551616) (head : Nat) : NdsOk (nodesP M head).1 := by
  cases hok : okM M with
  | false => rw [nodesP_bad hok]; intro t ht; cases ht
  | true =>
    cases hn : nodesR M head with
    | none => rw [nodesP_none hok hn]; intro t ht; cases ht
    | some xs =>
      have h0 : (nodesP M head).2 = 0 := by rw [nodesP_some hok hn]
      exact fun t ht => (nodesP_nodes hW h0 t ht).2
theorem putM4 {V : World} {Y : Nat} {z0 z1 z2 z3 : Value} {T : TypeId} (h : V.heap[Y]? = some (.cells #[z0, z1, z2, z3] T (0, 0))) (v0 v1 v2 v3 : Value) :
    ∃ V', V' = ((((V.setCell ⟨Y, 0, none⟩ v0).setCell ⟨Y, 1, none⟩ v1).setCell ⟨Y, 2, none⟩ v2).setCell ⟨Y, 3, none⟩ v3) ∧ V'.heap[Y]? = some (.cells #[v0, v1, v2, v3] T (0, 0)) ∧ (∀ (k : Nat) (o : Obj), k ≠ Y → V.heap[k]? = some o → V'.heap[k]? = some o) ∧ (∀ (B : Nat) (w : World), B ≤ Y → Below B w V → Below B w V') ∧
      (∀ (base : Nat) (wa : Option Addr) (wc : Nat) (la : Option Addr) (lc : Nat) (M : Mem), 26 ≠ T → 4 ≠ T → MemO base wa wc la lc M V → MemO base wa wc la lc M V') ∧ Tch (fun k => k = Y) V V' := by
  obtain ⟨V0, hV0⟩ : ∃ W, V.setCell ⟨Y, 0, none⟩ v0 = W := ⟨_, rfl⟩
  have h0 : V0.heap[Y]? = some (.cells #[v0, z1, z2, z3] T (0, 0)) := by rw [← hV0]; exact set_laid (i := 0) h v0
  obtain ⟨V1, hV1⟩ : ∃ W, V0.setCell ⟨Y, 1, none⟩ v1 = W := ⟨_, rfl⟩
  have h1 : V1.heap[Y]? = some (.cells #[v0, v1, z2, z3] T (0, 0)) := by rw [← hV1]; exact set_laid (i := 1) h0 v1
  obtain ⟨V2, hV2⟩ : ∃ W, V1.setCell ⟨Y, 2, none⟩ v2 = W := ⟨_, rfl⟩
  have h2 : V2.heap[Y]? = some (.cells #[v0, v1, v2, z3] T (0, 0)) := by rw [← hV2]; exact set_laid (i := 2) h1 v2
  obtain ⟨V3, hV3⟩ : ∃ W, V2.setCell ⟨Y, 3, none⟩ v3 = W := ⟨_, rfl⟩
  have h3 : V3.heap[Y]? = some (.cells #[v0, v1, v2, v3] T (0, 0)) := by rw [← hV3]; exact set_laid (i := 3) h2 v3
  refine ⟨V3, by rw [hV0, hV1, hV2, hV3], h3, fun k o hk ho => ?_, fun B w hB hb => ?_, fun base wa wc la lc M h1' h2' hm => ?_, ?_⟩
  · rw [← hV3, ← hV2, ← hV1, ← hV0]; exact (other_laid (other_laid (other_laid (other_laid ho hk _) hk _) hk _) hk _)
  · rw [← hV3, ← hV2, ← hV1, ← hV0]; exact ((((hb.setCell hB _).setCell hB _).setCell hB _).setCell hB _)
  · have m0 := hm.set h h1' h2' (i := 0) v0
    rw [hV0] at m0
    have m1 := m0.set h0 h1' h2' (i := 1) v1
    rw [hV1] at m1
    have m2 := m1.set h1 h1' h2' (i := 2) v2
    rw [hV2] at m2
    have m3 := m2.set h2 h1' h2' (i := 3) v3
    rw [hV3] at m3
    exact m3
  · rw [← hV3, ← hV2, ← hV1, ← hV0]; exact ((((Tch.set (P := fun k => k = Y) rfl _).trans (Tch.set (P := fun k => k = Y) rfl _)).trans (Tch.set (P := fun k => k = Y) rfl _)).trans (Tch.set (P := fun k => k = Y) rfl _))
theorem findP_ok {M : Mem} {head hash key : Nat} (hW : ∀ x ∈ M.W, x < 18446744073709551616) (hh : head < 18446744073709551616) (hha : hash < 18446744073709551616) (hke : key < 18446744073709551616) : (findP M head hash key).1.Ok := by
  unfold findP
  split
  · exact ⟨by show -9223372036854775808 ≤ (0 : Int) ∧ (0 : Int) ≤ _; decide, by show 0 < _; decide, by show 0 < _; decide, by show 0 < _; decide, by show 0 < _; decide, by show 0 < _; decide⟩
  · rename_i h0
    have h0' : (nodesP M head).2 = 0 := by omega
    exact findS_ok hha hke head _ hh (fun x hx => by have := nodesP_nodes hW h0' x hx; exact ⟨by omega, this.2.2.2.1⟩)
set_option maxRecDepth 100000 in
set_option maxHeartbeats 16000000 in
theorem finds_walk (M : Mem) (head : Nat) (ls : List Nd) (wa la : Option Addr) (wc0M lc : Nat) (a : Option Addr) (n cap : Nat) (V : World) (h : MemL V wa wc0M la lc M) (hW : ∀ x ∈ M.W, x < 18446744073709551616) (hh : head < 18446744073709551616) (hl : ls.length = n) (hle : Leads V a n cap (ndcells ls)) (hsb : ∀ t ∈ ls, t.Ok) :
    Calls Try.prog 3 #[memV wa wc0M la lc M, .int .u64 ((head : Nat) : Int), .slice a n cap] V (Ret (.bool true) V) := by
  obtain ⟨V1, hV1, hbV1, hsV1, hlV1⟩ := laid V #[.slice wa M.W.length wc0M, .slice la M.L.length lc, .bool M.F] 25
  obtain ⟨X, hX⟩ : ∃ X, V.heap.size = X := ⟨_, rfl⟩
  rw [hX] at hlV1
  have KX := hid hlV1
  have HB := hid hbV1
  have hVX : V.heap.size ≤ X := by omega
  clear hbV1 hsV1 hlV1
  have HWK := hid (take64_wok hW)
  have HSB := hid hsb
  have HLN := hid hl
  have HLE := hid hle
  have hwl := h.w.len
  have hll := h.l.len
  have hnl := hle.len
  have HOWN : Hid (∀ W : World, Below V.heap.size V W → Calls Try.prog 9 #[.agg #[.slice wa M.W.length wc0M, .slice la M.L.length lc, .bool M.F]] W (GivesM (take64 M) W)) := hid (fun W hb => lawown_any M wa la wc0M lc W (h.grow hb))
  obtain ⟨Mk, hMk⟩ : ∃ Mk, take64 M = Mk := ⟨_, rfl⟩
  rw [hMk] at HOWN HWK
  unfold memV
  clear h hW hsb hl hle hMk
  go_enter Try.func3, Try.ntmps3
  go_wp2_with fail
  refine (wakes_any V1).mono ?_
  rintro e w1_49 ⟨rfl, hbn⟩
  have KX_1 := hid (keep_laid KX.out hbn)
  have HB_2 := hid (HB.out.trans (hbn.mono HB.out.size))
  clear KX HB hbn
  clear hX
  obtain ⟨x0, x1, x2⟩ := cells3 KX_1.out
  go_wp2_with fail
  refine (HOWN.out w1_49 HB_2.out).mono ?_
  rintro e w2_57 ⟨wa0, wc0, la0, lc0, rfl, hO, hbn⟩
  have KX_3 := hid (keep_laid KX_1.out hbn)
  have HB_4 := hid (HB_2.out.trans (hbn.mono HB_2.out.size))
  clear KX_1 HB_2 hbn x0 x1 x2
  have HM := hid hO
  clear hO
  obtain ⟨w3_65, hw3_65, hbn, hsn, hln⟩ := laid w2_57 #[.slice none 0 0, .slice none 0 0, .bool false] 25
  obtain ⟨Mb, hNMMb⟩ : ∃ X, w2_57.heap.size = X := ⟨_, rfl⟩
  rw [hNMMb] at hln
  have nXMb : X < Mb := by have := lt_laid KX_3.out; omega
  have hVMb : V.heap.size ≤ Mb := by have := HB_4.out.size; omega
  have KX_5 := hid (keep_laid KX_3.out hbn)
  have HB_6 := hid (HB_4.out.trans (hbn.mono HB_4.out.size))
  have HM_7 := hid (HM.out.grow hbn)
  clear KX_3 HB_4 HM hbn hsn
  have KMb_8 := hid (hln)
  clear hln
  rw [show memV wa0 wc0 la0 lc0 Mk = .agg #[.slice wa0 Mk.W.length wc0, .slice la0 Mk.L.length lc0, .bool Mk.F] from rfl]
  obtain ⟨u4_77, hu4_77, a1, a2, a3, a4⟩ := put_mem KMb_8.out (.slice wa0 Mk.W.length wc0) (.slice la0 Mk.L.length lc0) (.bool Mk.F)
  obtain ⟨z0, zf0, z1, zf1, z2, zf2⟩ := fcl3 KMb_8.out
  have E5_77 := hid hu4_77
  have KX_9 := hid (a2 X _ (by omega) KX_5.out)
  have HB_10 := hid (a3 _ _ (by omega) HB_6.out)
  have HM_11 := hid (a4 _ _ _ _ _ _ HM_7.out)
  have KMb_12 := hid (a1)
  clear KX_5 HB_6 HM_7 KMb_8 hu4_77 a1 a2 a3 a4
  go_upto_region 4 with (fail)
  rw [← E5_77.out]
  clear z0 z1 z2 zf0 zf1 zf2 hNMMb
  have hwlk := HM_11.out.memL.w.len
  have hllk := HM_11.out.memL.l.len
  have HNO := hid (Nodes_any Mk wa0 la0 wc0 lc0 head u4_77 HM_11.out.memL hh HWK.out)
  have HLE2 := hid (nodesP_le Mk head)
  have HND := hid (nodesP_nds HWK.out head)
  obtain ⟨⟨xs, code⟩, hN⟩ : ∃ r, nodesP Mk head = r := ⟨_, rfl⟩
  rw [hN] at HNO HLE2 HND
  have HN := hid hN
  obtain ⟨q, hq⟩ : ∃ q, xs.length = q := ⟨_, rfl⟩
  have HQ := hid hq
  have hq5 : q ≤ 1100 := by have := HLE2.out; dsimp only at this; omega
  unfold memV GivesNd at HNO
  dsimp only at HNO
  rw [hq] at HNO
  obtain ⟨m0, m1, m2⟩ := cells3 KMb_12.out
  clear hN hq HLE2
  go_wp2_with fail
  refine HNO.out.mono ?_
  rintro e w4 ⟨v, rfl, hrow, hbn⟩
  obtain ⟨va, vc, rfl, hlv⟩ := Leads.of_own hrow
  have hvl := hlv.len
  have HLV := hid hlv
  have KX_13 := hid (keep_laid KX_9.out hbn)
  have HB_14 := hid (HB_10.out.trans (hbn.mono HB_10.out.size))
  have HM_15 := hid (HM_11.out.grow hbn)
  have KMb_16 := hid (keep_laid KMb_12.out hbn)
  clear KX_9 HB_10 HM_11 KMb_12 hbn m0 m1 m2 HNO hrow hlv
  have HRI := hid (RefRight_any Mk wa0 la0 wc0 lc0 w4 HM_15.out.memL)
  unfold memV at HRI
  obtain ⟨m0, m1, m2⟩ := cells3 KMb_16.out
  obtain ⟨bm, hbm⟩ : ∃ b, MemO b wa0 wc0 la0 lc0 Mk w4 := ⟨_, HM_15.out⟩
  have HMw := hid hbm
  clear hbm
  go_wp2_with fail
  refine HRI.out.mono ?_
  rintro e w5 ⟨rfl, hbn⟩
  have KX_17 := hid (keep_laid KX_13.out hbn)
  have HB_18 := hid (HB_14.out.trans (hbn.mono HB_14.out.size))
  have KMb_19 := hid (keep_laid KMb_16.out hbn)
  have HLV_20 := hid (HLV.out.grow hbn)
  have HMw_21 := hid (HMw.out.grow hbn)
  clear KX_13 HB_14 KMb_16 HLV HMw hbn m0 m1 m2 HRI
  go_upto_if 31 with (fail)
  go_cut [10, 11] (fun t10 t11 W => ∃ vx vy, t11 = .int .i64 ((code : Nat) : Int) ∧ t10 = .slice vx q vy ∧ Hid (Leads W vx q vy (ndcells xs) ∧ Leads W va q vc (ndcells xs) ∧ W.heap[X]? = some (.cells #[.slice wa M.W.length wc0M, .slice la M.L.length lc, .bool M.F] 25 (0, 0)) ∧ W.heap[Mb]? = some (.cells #[.slice wa0 Mk.W.length wc0, .slice la0 Mk.L.length lc0, .bool Mk.F] 25 (0, 0)) ∧ Below V.heap.size V W ∧ MemO bm wa0 wc0 la0 lc0 Mk W))
  case first =>
    cases hok : okM Mk with
    | false =>
      obtain ⟨rfl, rfl⟩ : xs = [] ∧ code = 120 := by
        have := HN.out
        rw [nodesP_bad hok] at this
        simp only [Prod.mk.injEq] at this
        exact ⟨this.1.symm, this.2.symm⟩
      obtain rfl : q = 0 := HQ.out.symm
      clear hok
      go_wp2
      go_meet
      exact ⟨none, 0, rfl, rfl, hid ⟨⟨Nat.le_refl _, Nat.zero_le _, .inl ⟨rfl, rfl⟩⟩, HLV_20.out, KX_17.out, KMb_19.out, HB_18.out, HMw_21.out⟩⟩
    | true =>
      have HRN := hid (rNodes_any Mk wa0 la0 wc0 lc0 head w5 HMw_21.out.memL hok hh HWK.out)
      unfold memV GivesRN at HRN
      obtain ⟨m0, m1, m2⟩ := cells3 KMb_19.out
      have HOK := hid hok
      clear hok
      go_wp2_with fail
      refine HRN.out.mono ?_
      rintro e w6 ⟨vw, bw, rfl, hbn, hno, hso⟩
      have KX_22 := hid (keep_laid KX_17.out hbn)
      have HB_23 := hid (HB_18.out.trans (hbn.mono HB_18.out.size))
      have KMb_24 := hid (keep_laid KMb_19.out hbn)
      have HLV_25 := hid (HLV_20.out.grow hbn)
      have HMw_26 := hid (HMw_21.out.grow hbn)
      clear KX_17 HB_18 KMb_19 HLV_20 HMw_21 hbn m0 m1 m2 HRN
      cases hnn : nodesR Mk head with
      | none =>
        obtain ⟨rfl, rfl⟩ := hno hnn
        obtain ⟨rfl, rfl⟩ : xs = [] ∧ code = 250 := by
          have := HN.out
          rw [nodesP_none HOK.out hnn] at this
          simp only [Prod.mk.injEq] at this
          exact ⟨this.1.symm, this.2.symm⟩
        obtain rfl : q = 0 := HQ.out.symm
        clear hno hso hnn
        go_wp2
        go_meet
        exact ⟨none, 0, rfl, rfl, hid ⟨⟨Nat.le_refl _, Nat.zero_le _, .inl ⟨rfl, rfl⟩⟩, HLV_25.out, KX_22.out, KMb_24.out, HB_23.out, HMw_26.out⟩⟩
      | some xs' =>
        obtain ⟨rfl, rfl⟩ : xs = xs' ∧ code = 0 := by
          have := HN.out
          rw [nodesP_some HOK.out hnn] at this
          simp only [Prod.mk.injEq] at this
          exact ⟨this.1.symm, this.2.symm⟩
        obtain ⟨rfl, hro⟩ := hso xs hnn
        obtain ⟨vx, vy, rfl, hlx⟩ := Leads.of_own hro
        rw [HQ.out] at hlx ⊢
        have hxl := hlx.len
        have HLX := hid hlx
        clear hno hso hnn hro hlx
        go_wp2
        go_meet
        exact ⟨vx, vy, rfl, rfl, hid ⟨HLX.out, HLV_25.out, KX_22.out, KMb_24.out, HB_23.out, HMw_26.out⟩⟩
  case rest =>
    clear KX_17 HB_18 KMb_19 HLV_20 HMw_21
    obtain ⟨vx, vy, rfl, rfl, hcc⟩ := hcut
    obtain ⟨W0, hW0⟩ : ∃ W, W = wc := ⟨_, rfl⟩
    subst hW0
    have HX := hid hcc.out.2.2.1
    have HMB := hid hcc.out.2.2.2.1
    have HB := hid hcc.out.2.2.2.2.1
    have HM := hid hcc.out.2.2.2.2.2
    have hxl := hcc.out.1.len
    have hvl2 := hcc.out.2.1.len
    have HEQ := hid (rSame_any xs xs va vx q q vc vy W0 HQ.out HQ.out HND.out HND.out hcc.out.2.1 hcc.out.1)
    rw [decide_eq_true rfl] at HEQ
    have tq : (((code : Nat) : Int) != ((code : Nat) : Int)) = false := by simp
    clear hcc
    go_wp2_with fail
    refine HEQ.out.mono ?_
    rintro e W1 ⟨rfl, hbn⟩
    have HX_22 := hid (keep_laid HX.out hbn)
    have HMB_23 := hid (keep_laid HMB.out hbn)
    have HB_24 := hid (HB.out.trans (hbn.mono HB.out.size))
    have HM_25 := hid (HM.out.grow hbn)
    clear HX HMB HB HM hbn HEQ tq
    have HLE := hid (HLE.out.grow HB_24.out)
    go_wp2
    obtain ⟨WB, hWB⟩ : ∃ W, W = W1 := ⟨_, rfl⟩
    go_loopg [50] n (fun g t50 wr => ∃ k : Nat, g + k = n ∧ t50 = .int .i64 ((k : Nat) : Int) ∧ Hid (Below W1.heap.size W1 wr))
    case atStart => exact ⟨0, rfl, rfl, hid (Below.refl _ _)⟩
    case round =>
      clear hWB
      obtain ⟨k, hk, rfl, hBw⟩ := hrel
      have HK := hid hk
      clear hk
      by_cases hlt : k < n
      · skip
        have hbw := hBw.out
        have HX_26 := hid (keep_laid HX_22.out hbw)
        have HMB_27 := hid (keep_laid HMB_23.out hbw)
        have HB_28 := hid (HB_24.out.trans (hbw.mono HB_24.out.size))
        have HM_29 := hid (HM_25.out.grow hbw)
        clear HX_22 HMB_23 HB_24 HM_25 hbw
        have HWW := hid hBw.out
        obtain ⟨⟨p0, p1, p2, p3⟩, hp⟩ : ∃ x, ls[k]? = some x := ⟨_, List.getElem?_eq_getElem (by rw [HLN.out]; exact hlt)⟩
        have HPO := hid (HSB.out _ (List.mem_of_getElem? hp))
        obtain ⟨b1, o1, rfl, -, hc1⟩ := HLE.out.nd hlt hp
        obtain ⟨c0, c1, c2, c3⟩ := hc1 wr hBw.out
        clear hp hc1
        obtain ⟨w6_235, hw6_235, hbn, hsn, hln⟩ := laid wr #[.int .u64 0, .int .u64 0, .int .u64 0, .int .u64 0] 38
        obtain ⟨B, hNMB⟩ : ∃ X, wr.heap.size = X := ⟨_, rfl⟩
        rw [hNMB] at hln
        have nXB : X < B := by have := lt_laid HX_26.out; omega
        have nMbB : Mb < B := by have := lt_laid HMB_27.out; omega
        have hVB : V.heap.size ≤ B := by have := HB_28.out.size; omega
        have HX_30 := hid (keep_laid HX_26.out hbn)
        have HMB_31 := hid (keep_laid HMB_27.out hbn)
        have HB_32 := hid (HB_28.out.trans (hbn.mono HB_28.out.size))
        have HM_33 := hid (HM_29.out.grow hbn)
        have HWW_34 := hid (HWW.out.trans (hbn.mono HWW.out.size))
        clear HX_26 HMB_27 HB_28 HM_29 HWW hbn hsn
        have KB_35 := hid (hln)
        clear hln
        have hW1B : W1.heap.size ≤ B := by have := hBw.out.size; omega
        obtain ⟨u7_250, hu7_250, a1, a2, a3, a4, a5⟩ := putM4 KB_35.out (.int .u64 ((p0 : Nat) : Int)) (.int .u64 ((p1 : Nat) : Int)) (.int .u64 ((p2 : Nat) : Int)) (.int .u64 ((p3 : Nat) : Int))
        obtain ⟨z0, zf0, z1, zf1, z2, zf2, z3, zf3⟩ := fcl4 KB_35.out
        have E8_250 := hid hu7_250
        have HX_36 := hid (a2 X _ (by omega) HX_30.out)
        have HMB_37 := hid (a2 Mb _ (by omega) HMB_31.out)
        have HB_38 := hid (a3 _ _ (by omega) HB_32.out)
        have HM_39 := hid (a4 _ _ _ _ _ _ (by decide) (by decide) HM_33.out)
        have HWW_40 := hid (a3 _ _ (by omega) HWW_34.out)
        have KB_41 := hid (a1)
        clear HX_30 HMB_31 HB_32 HM_33 HWW_34 KB_35 hu7_250 a1 a2 a3 a4 a5
        go_upto_region 18 with (fail)
        rw [← E8_250.out]
        clear z0 z1 z2 z3 zf0 zf1 zf2 zf3 hNMB c0 c1 c2 c3 hBw
        by_cases h8 : k = 8
        · have t8 : (((k : Nat) : Int) == 8) = true := by simp; omega
          clear h8
          go_upto_region 26 with (fail)
          obtain ⟨D9_266, hD⟩ : ∃ DX, (u7_250).drew = DX := ⟨_, rfl⟩
          have hbD : Below u7_250.heap.size u7_250 D9_266 := by rw [← hD]; exact (Below.refl _ _).drew
          have HD := hid hD
          clear hD
          have HX_42 := hid (keep_laid HX_36.out hbD)
          have HMB_43 := hid (keep_laid HMB_37.out hbD)
          have HB_44 := hid (HB_38.out.trans (hbD.mono HB_38.out.size))
          have HM_45 := hid (HM_39.out.grow hbD)
          have HWW_46 := hid (HWW_40.out.trans (hbD.mono HWW_40.out.size))
          have KB_47 := hid (keep_laid KB_41.out hbD)
          clear HX_36 HMB_37 HB_38 HM_39 HWW_40 KB_41 hbD
          have r0 : ∀ z : Ext D9_266, z.v.cell? ⟨Mb, 0, none⟩ = some (.slice wa0 Mk.W.length wc0) := fun z => cell_laid (keep_laid HMB_43.out z.b) rfl
          have r1 : ∀ z : Ext D9_266, z.v.cell? ⟨Mb, 1, none⟩ = some (.slice la0 Mk.L.length lc0) := fun z => cell_laid (keep_laid HMB_43.out z.b) rfl
          have r2 : ∀ z : Ext D9_266, z.v.cell? ⟨Mb, 2, none⟩ = some (.bool Mk.F) := fun z => cell_laid (keep_laid HMB_43.out z.b) rfl
          have p0 : ∀ z : Ext D9_266, z.v.cell? ⟨X, 0, none⟩ = some (.slice wa M.W.length wc0M) := fun z => cell_laid (keep_laid HX_42.out z.b) rfl
          have p1 : ∀ z : Ext D9_266, z.v.cell? ⟨X, 1, none⟩ = some (.slice la M.L.length lc) := fun z => cell_laid (keep_laid HX_42.out z.b) rfl
          have p2 : ∀ z : Ext D9_266, z.v.cell? ⟨X, 2, none⟩ = some (.bool M.F) := fun z => cell_laid (keep_laid HX_42.out z.b) rfl
          refine wp_region_mix2 (fun W => ∃ z : Ext D9_266, W = z.v) 5 (.q 0 (.q 1 (.h 2 (.h 3 (.q 4 .done))))) (by kernel_rfl) (by kernel_rfl) (by rw [HD.out]; exact ⟨⟨D9_266, Below.refl _ _⟩, rfl⟩) ?_
          rw [HD.out]
          repeat (refine wpMix2_q rfl rfl ?_; go_big_quiet_step (fail); refine wpQuiet_nil ?_)
          refine wpMix2_h rfl fun R' hR' hO => ?_
          go_wp2_with fail
          refine (HOWN.out D9_266 HB_44.out).mono ?_
          rintro e v1 ⟨wao, wco, lao, lco, rfl, hoo, hbo⟩
          have hsm := RefSame_any Mk Mk wa0 la0 wao lao wc0 lc0 wco lco v1 (HM_45.out.memL.grow hbo) hoo.memL
          rw [sameM_self] at hsm
          have HSM := hid hsm
          unfold memV at HSM
          have HBO := hid hbo
          clear hoo hbo hsm
          unfold memV
          go_wp2
          refine hR' _ _ ⟨⟨v1, HBO.out⟩, rfl⟩ ?_
          clear hR' hO R'
          refine wpMix2_h rfl fun R' hR' hO => ?_
          go_wp2_with fail
          refine HSM.out.mono ?_
          rintro e v2 ⟨rfl, hb2⟩
          have HB2 := hid (step HBO.out hb2)
          clear hb2
          go_wp2
          refine hR' _ _ ⟨⟨v2, HB2.out⟩, rfl⟩ ?_
          clear hR' hO R'
          repeat (refine wpMix2_q rfl rfl ?_; go_big_quiet_step (fail); refine wpQuiet_nil ?_)
          refine wpMix2_done ?_
          simp only [List.drop_succ_cons, List.drop_nil]
          go_wp2
          go_ret
          exact ⟨rfl, HB_44.out.trans (HB2.out.mono HB_44.out.size)⟩
        · have t8 : (((k : Nat) : Int) == 8) = false := by simp; omega
          clear h8
          obtain ⟨m0, m1, m2⟩ := cells3 HMB_37.out
          obtain ⟨b0, b1, b2, b3⟩ := ncl4 KB_41.out
          obtain ⟨⟨so, sn, sc⟩, hF⟩ : ∃ r, findP Mk head p3 p1 = r := ⟨_, rfl⟩
          have HFI := hid (fun (W : World) (hm : MemL W wa0 wc0 la0 lc0 Mk) => Find_any Mk wa0 la0 wc0 lc0 head p3 p1 W hm HWK.out hh HPO.out.2.2.2 HPO.out.2.1)
          rw [hF] at HFI
          have HFF := hid hF
          have HSO : Hid (so.Ok) := hid (by have := findP_ok HWK.out hh HPO.out.2.2.2 HPO.out.2.1 (M := Mk); rw [hF] at this; exact this)
          clear hF
          unfold memV skV at HFI
          obtain ⟨sph, shash, skey, slink, snode, sval, sfound⟩ := so
          dsimp only at HFI
          go_wp2_with fail
          refine (HFI.out u7_250 HM_39.out.memL).mono ?_
          rintro e w9_329 ⟨rfl, hbn⟩
          have HX_42 := hid (keep_laid HX_36.out hbn)
          have HMB_43 := hid (keep_laid HMB_37.out hbn)
          have HB_44 := hid (HB_38.out.trans (hbn.mono HB_38.out.size))
          have HM_45 := hid (HM_39.out.grow hbn)
          have HWW_46 := hid (HWW_40.out.trans (hbn.mono HWW_40.out.size))
          have KB_47 := hid (keep_laid KB_41.out hbn)
          clear HX_36 HMB_37 HB_38 HM_39 HWW_40 KB_41 hbn m0 m1 m2 HFI b0 b1 b2 b3
          obtain ⟨w10_339, hw10_339, hbn, hsn, hln⟩ := laid w9_329 #[.int .i64 0, .int .u64 0, .int .u64 0, .int .u64 0, .int .u64 0, .int .u64 0, .bool false] 40
          obtain ⟨S1, hNMS1⟩ : ∃ X, w9_329.heap.size = X := ⟨_, rfl⟩
          rw [hNMS1] at hln
          have nXS1 : X < S1 := by have := lt_laid HX_42.out; omega
          have nMbS1 : Mb < S1 := by have := lt_laid HMB_43.out; omega
          have nBS1 : B < S1 := by have := lt_laid KB_47.out; omega
          have hVS1 : V.heap.size ≤ S1 := by have := HB_44.out.size; omega
          have HX_48 := hid (keep_laid HX_42.out hbn)
          have HMB_49 := hid (keep_laid HMB_43.out hbn)
          have HB_50 := hid (HB_44.out.trans (hbn.mono HB_44.out.size))
          have HM_51 := hid (HM_45.out.grow hbn)
          have HWW_52 := hid (HWW_46.out.trans (hbn.mono HWW_46.out.size))
          have KB_53 := hid (keep_laid KB_47.out hbn)
          clear HX_42 HMB_43 HB_44 HM_45 HWW_46 KB_47 hbn hsn
          have KS1_54 := hid (hln)
          clear hln
          have hW1S1 : W1.heap.size ≤ S1 := by omega
          obtain ⟨u11_356, hu11_356, a1, a2, a3, a4, a5⟩ := putM7 KS1_54.out (.int .i64 sph) (.int .u64 ((shash : Nat) : Int)) (.int .u64 ((skey : Nat) : Int)) (.int .u64 ((slink : Nat) : Int)) (.int .u64 ((snode : Nat) : Int)) (.int .u64 ((sval : Nat) : Int)) (.bool sfound)
          obtain ⟨z0, zf0, z1, zf1, z2, zf2, z3, zf3, z4, zf4, z5, zf5, z6, zf6⟩ := fcl7 KS1_54.out
          have E12_356 := hid hu11_356
          have HX_55 := hid (a2 X _ (by omega) HX_48.out)
          have HMB_56 := hid (a2 Mb _ (by omega) HMB_49.out)
          have HB_57 := hid (a3 _ _ (by omega) HB_50.out)
          have HM_58 := hid (a4 _ _ _ _ _ _ (by decide) (by decide) HM_51.out)
          have HWW_59 := hid (a3 _ _ (by omega) HWW_52.out)
          have KB_60 := hid (a2 B _ (by omega) KB_53.out)
          have KS1_61 := hid (a1)
          clear HX_48 HMB_49 HB_50 HM_51 HWW_52 KB_53 KS1_54 hu11_356 a1 a2 a3 a4 a5
          go_upto_region 20 with (fail)
          rw [← E12_356.out]
          clear z0 z1 z2 z3 z4 z5 z6 zf0 zf1 zf2 zf3 zf4 zf5 zf6 hNMS1
          obtain ⟨w13_370, hw13_370, hbn, hsn, hln⟩ := laid u11_356 #[.int .i64 0, .int .u64 0, .int .u64 0, .int .u64 0, .int .u64 0, .int .u64 0, .bool false] 40
          obtain ⟨S2, hNMS2⟩ : ∃ X, u11_356.heap.size = X := ⟨_, rfl⟩
          rw [hNMS2] at hln
          have nXS2 : X < S2 := by have := lt_laid HX_55.out; omega
          have nMbS2 : Mb < S2 := by have := lt_laid HMB_56.out; omega
          have nBS2 : B < S2 := by have := lt_laid KB_60.out; omega
          have nS1S2 : S1 < S2 := by have := lt_laid KS1_61.out; omega
          have hVS2 : V.heap.size ≤ S2 := by have := HB_57.out.size; omega
          have HX_62 := hid (keep_laid HX_55.out hbn)
          have HMB_63 := hid (keep_laid HMB_56.out hbn)
          have HB_64 := hid (HB_57.out.trans (hbn.mono HB_57.out.size))
          have HM_65 := hid (HM_58.out.grow hbn)
          have HWW_66 := hid (HWW_59.out.trans (hbn.mono HWW_59.out.size))
          have KB_67 := hid (keep_laid KB_60.out hbn)
          have KS1_68 := hid (keep_laid KS1_61.out hbn)
          clear HX_55 HMB_56 HB_57 HM_58 HWW_59 KB_60 KS1_61 hbn hsn
          have KS2_69 := hid (hln)
          clear hln
          have hW1S2 : W1.heap.size ≤ S2 := by omega
          obtain ⟨u14_389, hu14_389, a1, a2, a3, a4, a5⟩ := putM7 KS2_69.out (.int .i64 0) (.int .u64 0) (.int .u64 0) (.int .u64 0) (.int .u64 0) (.int .u64 0) (.bool false)
          obtain ⟨z0, zf0, z1, zf1, z2, zf2, z3, zf3, z4, zf4, z5, zf5, z6, zf6⟩ := fcl7 KS2_69.out
          have E15_389 := hid hu14_389
          have HX_70 := hid (a2 X _ (by omega) HX_62.out)
          have HMB_71 := hid (a2 Mb _ (by omega) HMB_63.out)
          have HB_72 := hid (a3 _ _ (by omega) HB_64.out)
          have HM_73 := hid (a4 _ _ _ _ _ _ (by decide) (by decide) HM_65.out)
          have HWW_74 := hid (a3 _ _ (by omega) HWW_66.out)
          have KB_75 := hid (a2 B _ (by omega) KB_67.out)
          have KS1_76 := hid (a2 S1 _ (by omega) KS1_68.out)
          have KS2_77 := hid (a1)
          clear HX_62 HMB_63 HB_64 HM_65 HWW_66 KB_67 KS1_68 KS2_69 hu14_389 a1 a2 a3 a4 a5
          go_upto_region 21 with (fail)
          rw [← E15_389.out]
          clear z0 z1 z2 z3 z4 z5 z6 zf0 zf1 zf2 zf3 zf4 zf5 zf6 hNMS2
          obtain ⟨UA, hUA⟩ : ∃ W, W = u14_389 := ⟨_, rfl⟩
          go_upto_if 70 with (fail)
          go_cut [19] (fun t19 W => t19 = .int .i64 ((sn : Nat) : Int) ∧ Hid (W.heap[X]? = some (.cells #[.slice wa M.W.length wc0M, .slice la M.L.length lc, .bool M.F] 25 (0, 0)) ∧ W.heap[Mb]? = some (.cells #[.slice wa0 Mk.W.length wc0, .slice la0 Mk.L.length lc0, .bool Mk.F] 25 (0, 0)) ∧ Below V.heap.size V W ∧ MemO bm wa0 wc0 la0 lc0 Mk W ∧ Below W1.heap.size W1 W ∧ W.heap[S1]? = some (.cells #[.int .i64 sph, .int .u64 ((shash : Nat) : Int), .int .u64 ((skey : Nat) : Int), .int .u64 ((slink : Nat) : Int), .int .u64 ((snode : Nat) : Int), .int .u64 ((sval : Nat) : Int), .bool sfound] 40 (0, 0)) ∧ W.heap[S2]? = some (.cells #[.int .i64 sph, .int .u64 ((shash : Nat) : Int), .int .u64 ((skey : Nat) : Int), .int .u64 ((slink : Nat) : Int), .int .u64 ((snode : Nat) : Int), .int .u64 ((sval : Nat) : Int), .bool sfound] 40 (0, 0))))
          case first =>
            by_cases hc0 : code = 0
            · subst hc0
              obtain ⟨hok, hns⟩ := nodesP_ok (M := Mk) (head := head) (by rw [HN.out])
              rw [HN.out] at hns
              dsimp only at hns
              obtain ⟨-, hfx⟩ := find_run hok hns p3 p1
              obtain ⟨hfs, rfl⟩ : findS p3 p1 head xs = (⟨sph, shash, skey, slink, snode, sval, sfound⟩, sn) ∧ sc = 0 := by
                have := HFF.out
                unfold findP at this
                rw [HN.out] at this
                simp only [ne_eq, not_true_eq_false, if_false, Prod.mk.injEq] at this
                exact ⟨Prod.ext this.1 this.2.1, this.2.2.symm⟩
              rw [hfs] at hfx
              have hp4 : (4 : Int) ≤ (⟨sph, shash, skey, slink, snode, sval, sfound⟩ : Sk).ph := by have := findS_ph p3 p1 head xs; rw [hfs] at this; rw [this]; decide
              have HRF := hid (rFind_any Mk wa0 la0 wc0 lc0 head p3 p1 _ sn u14_389 HM_73.out.memL hok HWK.out hh HPO.out.2.2.2 HPO.out.2.1 hfx hp4)
              unfold memV skV at HRF
              dsimp only at HRF
              obtain ⟨m0, m1, m2⟩ := cells3 HMB_71.out
              obtain ⟨b0, b1, b2, b3⟩ := ncl4 KB_75.out
              clear hok hns hfx hfs hp4
              go_wp2_with fail
              refine (HRF.out).mono ?_
              rintro e w16_428 ⟨rfl, hbn⟩
              have HX_78 := hid (keep_laid HX_70.out hbn)
              have HMB_79 := hid (keep_laid HMB_71.out hbn)
              have HB_80 := hid (HB_72.out.trans (hbn.mono HB_72.out.size))
              have HM_81 := hid (HM_73.out.grow hbn)
              have HWW_82 := hid (HWW_74.out.trans (hbn.mono HWW_74.out.size))
              have KB_83 := hid (keep_laid KB_75.out hbn)
              have KS1_84 := hid (keep_laid KS1_76.out hbn)
              have KS2_85 := hid (keep_laid KS2_77.out hbn)
              clear HX_70 HMB_71 HB_72 HM_73 HWW_74 KB_75 KS1_76 KS2_77 hbn m0 m1 m2 HRF b0 b1 b2 b3
              obtain ⟨u17_440, hu17_440, a1, a2, a3, a4, a5⟩ := putM7 KS2_85.out (.int .i64 sph) (.int .u64 ((shash : Nat) : Int)) (.int .u64 ((skey : Nat) : Int)) (.int .u64 ((slink : Nat) : Int)) (.int .u64 ((snode : Nat) : Int)) (.int .u64 ((sval : Nat) : Int)) (.bool sfound)
              obtain ⟨z0, zf0, z1, zf1, z2, zf2, z3, zf3, z4, zf4, z5, zf5, z6, zf6⟩ := fcl7 KS2_85.out
              have E18_440 := hid hu17_440
              have HX_86 := hid (a2 X _ (by omega) HX_78.out)
              have HMB_87 := hid (a2 Mb _ (by omega) HMB_79.out)
              have HB_88 := hid (a3 _ _ (by omega) HB_80.out)
              have HM_89 := hid (a4 _ _ _ _ _ _ (by decide) (by decide) HM_81.out)
              have HWW_90 := hid (a3 _ _ (by omega) HWW_82.out)
              have KB_91 := hid (a2 B _ (by omega) KB_83.out)
              have KS1_92 := hid (a2 S1 _ (by omega) KS1_84.out)
              have KS2_93 := hid (a1)
              clear HX_78 HMB_79 HB_80 HM_81 HWW_82 KB_83 KS1_84 KS2_85 hu17_440 a1 a2 a3 a4 a5
              go_wp2
              rw [← E18_440.out]
              go_meet
              exact ⟨rfl, hid ⟨HX_86.out, HMB_87.out, HB_88.out, HM_89.out, HWW_90.out, KS1_92.out, KS2_93.out⟩⟩
            · have tc : (((code : Nat) : Int) == 0) = false := by simp; omega
              obtain ⟨hs0, rfl, rfl⟩ : (⟨sph, shash, skey, slink, snode, sval, sfound⟩ : Sk) = zeroSk ∧ sn = 0 ∧ sc = code := by
                have := HFF.out
                unfold findP at this
                rw [HN.out] at this
                rw [if_pos hc0] at this
                simp only [Prod.mk.injEq] at this
                exact ⟨this.1.symm, this.2.1.symm, this.2.2.symm⟩
              unfold zeroSk at hs0
              simp only [Sk.mk.injEq] at hs0
              obtain ⟨rfl, rfl, rfl, rfl, rfl, rfl, rfl⟩ := hs0
              clear hc0
              go_wp2
              go_meet
              exact ⟨rfl, hid ⟨HX_70.out, HMB_71.out, HB_72.out, HM_73.out, HWW_74.out, KS1_76.out, KS2_77.out⟩⟩
          case rest =>
            clear HX_70 HMB_71 HB_72 HM_73 HWW_74 KB_75 KS1_76 KS2_77
            clear hUA
            obtain ⟨rfl, hcc⟩ := hcut
            obtain ⟨WZ, hWZ⟩ : ∃ W, W = wc := ⟨_, rfl⟩
            subst hWZ
            obtain rfl : sc = code := by
              have := HFF.out
              unfold findP at this
              rw [HN.out] at this
              split at this
              · simp only [Prod.mk.injEq] at this; exact this.2.2.symm
              · rename_i hc; simp only [Prod.mk.injEq] at this; dsimp only at hc; omega
            obtain ⟨s0, s1, s2, s3, s4, s5, s6⟩ := ncl7 hcc.out.2.2.2.2.2.1
            obtain ⟨g0, g1, g2, g3, g4, g5, g6⟩ := ncl7 hcc.out.2.2.2.2.2.2
            have heq := sk_eq ⟨sph, shash, skey, slink, snode, sval, sfound⟩ ⟨sph, shash, skey, slink, snode, sval, sfound⟩ HSO.out HSO.out
            rw [decide_eq_true rfl] at heq
            dsimp only at heq
            have HFIN := hid hcc.out.2.2.2.2.1
            clear hcc
            have tq : (((sc : Nat) : Int) != ((sc : Nat) : Int)) = false := by simp
            have tn : (((sn : Nat) : Int) != ((sn : Nat) : Int)) = false := by simp
            go_wp2
            go_roundg (gk - 1)
            case measure => have := HK.out; omega
            case rel => exact ⟨k + 1, by have := HK.out; omega, by go_num, HFIN⟩
      · skip
        have hbw := hBw.out
        have HX_26 := hid (keep_laid HX_22.out hbw)
        have HMB_27 := hid (keep_laid HMB_23.out hbw)
        have HB_28 := hid (HB_24.out.trans (hbw.mono HB_24.out.size))
        have HM_29 := hid (HM_25.out.grow hbw)
        clear HX_22 HMB_23 HB_24 HM_25 hbw
        go_upto_region 26 with (fail)
        obtain ⟨D6_504, hD⟩ : ∃ DX, (wr).drew = DX := ⟨_, rfl⟩
        have hbD : Below wr.heap.size wr D6_504 := by rw [← hD]; exact (Below.refl _ _).drew
        have HD := hid hD
        clear hD
        have HX_30 := hid (keep_laid HX_26.out hbD)
        have HMB_31 := hid (keep_laid HMB_27.out hbD)
        have HB_32 := hid (HB_28.out.trans (hbD.mono HB_28.out.size))
        have HM_33 := hid (HM_29.out.grow hbD)
        clear HX_26 HMB_27 HB_28 HM_29 hbD
        have r0 : ∀ z : Ext D6_504, z.v.cell? ⟨Mb, 0, none⟩ = some (.slice wa0 Mk.W.length wc0) := fun z => cell_laid (keep_laid HMB_31.out z.b) rfl
        have r1 : ∀ z : Ext D6_504, z.v.cell? ⟨Mb, 1, none⟩ = some (.slice la0 Mk.L.length lc0) := fun z => cell_laid (keep_laid HMB_31.out z.b) rfl
        have r2 : ∀ z : Ext D6_504, z.v.cell? ⟨Mb, 2, none⟩ = some (.bool Mk.F) := fun z => cell_laid (keep_laid HMB_31.out z.b) rfl
        have p0 : ∀ z : Ext D6_504, z.v.cell? ⟨X, 0, none⟩ = some (.slice wa M.W.length wc0M) := fun z => cell_laid (keep_laid HX_30.out z.b) rfl
        have p1 : ∀ z : Ext D6_504, z.v.cell? ⟨X, 1, none⟩ = some (.slice la M.L.length lc) := fun z => cell_laid (keep_laid HX_30.out z.b) rfl
        have p2 : ∀ z : Ext D6_504, z.v.cell? ⟨X, 2, none⟩ = some (.bool M.F) := fun z => cell_laid (keep_laid HX_30.out z.b) rfl
        refine wp_region_mix2 (fun W => ∃ z : Ext D6_504, W = z.v) 5 (.q 0 (.q 1 (.h 2 (.h 3 (.q 4 .done))))) (by kernel_rfl) (by kernel_rfl) (by rw [HD.out]; exact ⟨⟨D6_504, Below.refl _ _⟩, rfl⟩) ?_
        rw [HD.out]
        repeat (refine wpMix2_q rfl rfl ?_; go_big_quiet_step (fail); refine wpQuiet_nil ?_)
        refine wpMix2_h rfl fun R' hR' hO => ?_
        go_wp2_with fail
        refine (HOWN.out D6_504 HB_32.out).mono ?_
        rintro e v1 ⟨wao, wco, lao, lco, rfl, hoo, hbo⟩
        have hsm := RefSame_any Mk Mk wa0 la0 wao lao wc0 lc0 wco lco v1 (HM_33.out.memL.grow hbo) hoo.memL
        rw [sameM_self] at hsm
        have HSM := hid hsm
        unfold memV at HSM
        have HBO := hid hbo
        clear hoo hbo hsm
        unfold memV
        go_wp2
        refine hR' _ _ ⟨⟨v1, HBO.out⟩, rfl⟩ ?_
        clear hR' hO R'
        refine wpMix2_h rfl fun R' hR' hO => ?_
        go_wp2_with fail
        refine HSM.out.mono ?_
        rintro e v2 ⟨rfl, hb2⟩
        have HB2 := hid (step HBO.out hb2)
        clear hb2
        go_wp2
        refine hR' _ _ ⟨⟨v2, HB2.out⟩, rfl⟩ ?_
        clear hR' hO R'
        repeat (refine wpMix2_q rfl rfl ?_; go_big_quiet_step (fail); refine wpQuiet_nil ?_)
        refine wpMix2_done ?_
        simp only [List.drop_succ_cons, List.drop_nil]
        go_wp2
        go_ret
        exact ⟨rfl, HB_32.out.trans (HB2.out.mono HB_32.out.size)⟩
end Go.Proofs.Ytdkkjcflcegeoaa
