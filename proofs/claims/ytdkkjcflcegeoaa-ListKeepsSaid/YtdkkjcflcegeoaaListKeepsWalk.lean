/- Lists: ListKeeps, the walk (printed by gen_lskeeps.py). -/
import Derived.Test.YtdkkjcflcegeoaaLsWakes
import Derived.Test.YtdkkjcflcegeoaaLsPlain6
import Derived.Test.YtdkkjcflcegeoaaLsDel
import Derived.Test.YtdkkjcflcegeoaaMemLaw15
namespace Go.Proofs.Ytdkkjcflcegeoaa
open Go.RowKit
open Go.Proofs
set_option linter.unusedVariables false
attribute [local go_sem] Oper.semAt_some
theorem take64_wok {M : Mem} (h : ∀ x ∈ M.W, x < 18446744073709551616) : ∀ x ∈ (take64 M).W, x < 18446744073709551616 := fun x hx => h x (List.mem_of_mem_take hx)
theorem own_ne2 {W : World} {X : Nat} {v : Value} {e e' : TypeId} {size base n : Nat} {xs : List Value} {cur : Array Value} (h : W.ownsRow base e size v n xs) (hX : W.heap[X]? = some (.cells cur e' (0, 0))) (hne : e ≠ e') : v.ownBlock ≠ some X := by
  intro hk
  obtain ⟨c, hc⟩ := own_type h X hk
  exact type_ne hc hX hne rfl
theorem nodesP_code (M : Mem) (head : Nat) : ((nodesP M head).2 = 0 ∧ okM M = true ∧ nodesR M head = some (nodesP M head).1) ∨ (nodesP M head).2 = 120 ∨ (nodesP M head).2 = 250 := by
  cases hok : okM M with
  | false => exact .inr (.inl (by rw [nodesP_bad hok]))
  | true =>
    cases hn : nodesR M head with
    | none => exact .inr (.inr (by rw [nodesP_none hok hn]))
    | some xs => rw [nodesP_some hok hn]; exact .inl ⟨rfl, rfl, rfl⟩
theorem nodesR_facts {M : Mem} {head : Nat} {xs : List Nd} (hW : ∀ x ∈ M.W, x < 18446744073709551616) (hok : okM M = true) (h : nodesR M head = some xs) : xs.length ≤ 1100 ∧ NdsOk xs := by
  refine ⟨by have := nodesW_len hok (nodesR_some h).1; omega, fun t ht => ?_⟩
  exact (nodesP_nodes hW (show (nodesP M head).2 = 0 by rw [nodesP_some hok h]) t (by rw [nodesP_some hok h]; exact ht)).2
/-- Between two rounds. -/
structure Kpq (V : World) (Mb : Nat) (wak : Option Addr) (wck : Nat) (lak : Option Addr) (lck : Nat) (Mk : Mem) (W : World) : Prop where
  bm : W.heap[Mb]? = some (.cells #[.slice wak Mk.W.length wck, .slice lak Mk.L.length lck, .bool Mk.F] 25 (0, 0))
  mem : MemO V.heap.size wak wck lak lck Mk W
  below : Below V.heap.size V W
  wok : ∀ x ∈ Mk.W, x < 18446744073709551616
theorem MemO.below2 {base : Nat} {wa la : Option Addr} {wc lc : Nat} {M : Mem} {V : World} (h : MemO base wa wc la lc M V) : ∀ k, (.slice wa M.W.length wc : Value).ownBlock = some k ∨ (.slice la M.L.length lc : Value).ownBlock = some k → k < V.heap.size := by
  rintro k (e | e)
  · exact (h.w.lt k e).2
  · exact (h.l.lt k e).2
theorem MemO.far2 {base : Nat} {wa la : Option Addr} {wc lc : Nat} {M : Mem} {V V' : World} {g : Nat} (h : MemO base wa wc la lc M V) (hg : ∀ k, (.slice wa M.W.length wc : Value).ownBlock = some k ∨ (.slice la M.L.length lc : Value).ownBlock = some k → k < g) (hk : ∀ (k : Nat) (o : Obj), k ≠ g → V.heap[k]? = some o → V'.heap[k]? = some o) : MemO base wa wc la lc M V' :=
  ⟨own_keep h.w fun k o e ho => hk k o (by have := hg k (.inl e); omega) ho, own_keep h.l fun k o e ho => hk k o (by have := hg k (.inr e); omega) ho⟩
theorem putM4 {V : World} {Y : Nat} {z0 z1 z2 z3 : Value} {T : TypeId} (h : V.heap[Y]? = some (.cells #[z0, z1, z2, z3] T (0, 0))) (v0 v1 v2 v3 : Value) :
    ∃ V', V' = ((((V.setCell ⟨Y, 0, none⟩ v0).setCell ⟨Y, 1, none⟩ v1).setCell ⟨Y, 2, none⟩ v2).setCell ⟨Y, 3, none⟩ v3) ∧ V'.heap[Y]? = some (.cells #[v0, v1, v2, v3] T (0, 0)) ∧ (∀ (k : Nat) (o : Obj), k ≠ Y → V.heap[k]? = some o → V'.heap[k]? = some o) ∧ (∀ (B : Nat) (w : World), B ≤ Y → Below B w V → Below B w V') ∧
      (∀ (base : Nat) (wa : Option Addr) (wc : Nat) (la : Option Addr) (lc : Nat) (M : Mem), 26 ≠ T → 4 ≠ T → MemO base wa wc la lc M V → MemO base wa wc la lc M V') ∧ Tch (fun k => k = Y) V V' := by
  obtain ⟨V0, hV0⟩ : ∃ W, V.setCell ⟨Y, 0, none⟩ v0 = W := ⟨_, rfl⟩
  have h0 : V0.heap[Y]? = some (.cells #[v0, z1, z2, z3] T (0, 0)) := by rw [← hV0]; exact set_laid (i := 0) h v0
  obtain ⟨V1, hV1⟩ : ∃ W, V0.setCell ⟨Y, 1, none⟩ v1 = W := ⟨_, rfl⟩
  have h1 : V1.heap[Y]? = some (.cells #[v0, v1, z2, z3] T (0, 0)) := by rw [← hV1]; exact set_laid (i := 1) h0 v1
  obtain ⟨V2, hV2⟩ : ∃ W, V1.setCell ⟨Y, 2, none⟩ v2 = W := ⟨_, rfl⟩
  have h2 : V2.heap[Y]? = some (.cells #[v0, v1, v2, z3] T (0, 0)) := by rw [← hV2]; exact set_laid (i := 2) h1 v2
  obtain ⟨V3, hV3⟩ : ∃ W, V2.setCell ⟨Y, 3, none⟩ v3 = W := ⟨_, rfl⟩
  have h3 : V3.heap[Y]? = some (.cells #[v0, v1, v2, v3] T (0, 0)) := by rw [← hV3]; exact set_laid (i := 3) h2 v3
  refine ⟨V3, by rw [hV0, hV1, hV2, hV3], h3, fun k o hk ho => ?_, fun B w hB hb => ?_, fun base wa wc la lc M h1' h2' hm => ?_, ?_⟩
  · rw [← hV3, ← hV2, ← hV1, ← hV0]; exact (other_laid (other_laid (other_laid (other_laid ho hk _) hk _) hk _) hk _)
  · rw [← hV3, ← hV2, ← hV1, ← hV0]; exact ((((hb.setCell hB _).setCell hB _).setCell hB _).setCell hB _)
  · have m0 := hm.set h h1' h2' (i := 0) v0
    rw [hV0] at m0
    have m1 := m0.set h0 h1' h2' (i := 1) v1
    rw [hV1] at m1
    have m2 := m1.set h1 h1' h2' (i := 2) v2
    rw [hV2] at m2
    have m3 := m2.set h2 h1' h2' (i := 3) v3
    rw [hV3] at m3
    exact m3
  · rw [← hV3, ← hV2, ← hV1, ← hV0]; exact ((((Tch.set (P := fun k => k = Y) rfl _).trans (Tch.set (P := fun k => k = Y) rfl _)).trans (Tch.set (P := fun k => k = Y) rfl _)).trans (Tch.set (P := fun k => k = Y) rfl _))
theorem put1K {V : World} {Y : Nat} {z0 : Value} {T : TypeId} (h : V.heap[Y]? = some (.cells #[z0] T (0, 0))) (v0 : Value) :
    ∃ V', V' = V.setCell ⟨Y, 0, none⟩ v0 ∧ V'.heap[Y]? = some (.cells #[v0] T (0, 0)) ∧ (∀ (k : Nat) (o : Obj), k ≠ Y → V.heap[k]? = some o → V'.heap[k]? = some o) ∧ (∀ (B : Nat) (w : World), B ≤ Y → Below B w V → Below B w V') :=
  ⟨_, rfl, set_laid (i := 0) h v0, fun k o hk ho => other_laid ho hk _, fun B w hB hb => hb.setCell (p := ⟨Y, 0, none⟩) hB v0⟩
set_option maxRecDepth 100000 in
set_option maxHeartbeats 32000000 in
theorem keeps_walk (M : Mem) (head : Nat) (ls : List Nd) (wa la : Option Addr) (wc0M lc : Nat) (a : Option Addr) (n cap : Nat) (V : World) (h : MemL V wa wc0M la lc M) (hW : ∀ x ∈ M.W, x < 18446744073709551616) (hh : head < 18446744073709551616) (hl : ls.length = n) (hle : Leads V a n cap (ndcells ls)) (hsb : ∀ t ∈ ls, t.Ok) :
    Calls Try.prog 7 #[memV wa wc0M la lc M, .int .u64 ((head : Nat) : Int), .slice a n cap] V (Ret (.bool true) V) := by
  obtain ⟨V1, hV1, hbV1, hsV1, hlV1⟩ := laid V #[.slice wa M.W.length wc0M, .slice la M.L.length lc, .bool M.F] 25
  obtain ⟨X, hX⟩ : ∃ X, V.heap.size = X := ⟨_, rfl⟩
  rw [hX] at hlV1
  have KX := hid hlV1
  have HB := hid hbV1
  have hVX : V.heap.size ≤ X := by omega
  clear hbV1 hsV1 hlV1
  have HWK := hid (take64_wok hW)
  have HSB := hid hsb
  have HLN := hid hl
  have HLE := hid hle
  have hwl := h.w.len
  have hll := h.l.len
  have hnl := hle.len
  have HOWN : Hid (∀ W : World, Below V.heap.size V W → Calls Try.prog 9 #[.agg #[.slice wa M.W.length wc0M, .slice la M.L.length lc, .bool M.F]] W (GivesM (take64 M) W)) := hid (fun W hb => lawown_any M wa la wc0M lc W (h.grow hb))
  obtain ⟨Mz, hMz⟩ : ∃ Mk, take64 M = Mk := ⟨_, rfl⟩
  rw [hMz] at HOWN HWK
  unfold memV
  clear h hW hsb hl hle hMz
  go_enter Try.func7, Try.ntmps7
  go_wp2_with fail
  refine (wakes_any V1).mono ?_
  rintro e w1_84 ⟨rfl, hbn⟩
  have KX_1 := hid (keep_laid KX.out hbn)
  have HB_2 := hid (HB.out.trans (hbn.mono HB.out.size))
  clear KX HB hbn
  clear hX
  obtain ⟨x0, x1, x2⟩ := cells3 KX_1.out
  have hs0 := HB_2.out.size
  go_wp2_with fail
  refine (HOWN.out w1_84 HB_2.out).mono ?_
  rintro e w2_93 ⟨wa0, wc0, la0, lc0, rfl, hO, hbn⟩
  have KX_3 := hid (keep_laid KX_1.out hbn)
  have HB_4 := hid (HB_2.out.trans (hbn.mono HB_2.out.size))
  clear KX_1 HB_2 hbn x0 x1 x2
  have HM := hid (hO.base hs0)
  clear hO
  obtain ⟨w3_101, hw3_101, hbn, hsn, hln⟩ := laid w2_93 #[.slice none 0 0, .slice none 0 0, .bool false] 25
  obtain ⟨Mb, hNMMb⟩ : ∃ X, w2_93.heap.size = X := ⟨_, rfl⟩
  rw [hNMMb] at hln
  have nXMb : X < Mb := by have := lt_laid KX_3.out; omega
  have hVMb : V.heap.size ≤ Mb := by have := HB_4.out.size; omega
  have KX_5 := hid (keep_laid KX_3.out hbn)
  have HB_6 := hid (HB_4.out.trans (hbn.mono HB_4.out.size))
  have HM_7 := hid (HM.out.grow hbn)
  clear KX_3 HB_4 HM hbn hsn
  have KMb_8 := hid (hln)
  clear hln
  rw [show memV wa0 wc0 la0 lc0 Mz = .agg #[.slice wa0 Mz.W.length wc0, .slice la0 Mz.L.length lc0, .bool Mz.F] from rfl]
  obtain ⟨u4_113, hu4_113, a1, a2, a3, a4⟩ := put_mem KMb_8.out (.slice wa0 Mz.W.length wc0) (.slice la0 Mz.L.length lc0) (.bool Mz.F)
  obtain ⟨z0, zf0, z1, zf1, z2, zf2⟩ := fcl3 KMb_8.out
  have E5_113 := hid hu4_113
  have KX_9 := hid (a2 X _ (by omega) KX_5.out)
  have HB_10 := hid (a3 _ _ (by omega) HB_6.out)
  have HM_11 := hid (a4 _ _ _ _ _ _ HM_7.out)
  have KMb_12 := hid (a1)
  clear KX_5 HB_6 HM_7 KMb_8 hu4_113 a1 a2 a3 a4
  go_upto_region 4 with (fail)
  rw [← E5_113.out]
  clear z0 z1 z2 zf0 zf1 zf2 hNMMb
  have HS6 : Hid (Kpq V Mb wa0 wc0 la0 lc0 Mz u4_113) := hid ⟨KMb_12.out, HM_11.out, HB_10.out, HWK.out⟩
  clear KX_9 HB_10 HM_11 KMb_12
  have HVM := hid hVMb
  clear HOWN HWK hs0 hVMb
  go_wp2
  go_loopg [35] n (fun g t35 wr => ∃ (k : Nat) (wak : Option Addr) (wck : Nat) (lak : Option Addr) (lck : Nat) (Mk : Mem), g + k = n ∧ t35 = .int .i64 ((k : Nat) : Int) ∧ Hid (Kpq V Mb wak wck lak lck Mk wr))
  case atStart => exact ⟨0, _, _, _, _, _, rfl, rfl, HS6⟩
  case round =>
    clear HS6
    obtain ⟨k, wak, wck, lak, lck, Mk, hk, rfl, hS⟩ := hrel
    have HK := hid hk
    clear hk
    by_cases hlt : k < n
    · skip
      have HMB := hid hS.out.bm
      have HM := hid hS.out.mem
      have HB := hid hS.out.below
      have HQ := hid hS.out.wok
      clear hS
      obtain ⟨⟨p0, p1, p2, p3⟩, hp⟩ : ∃ x, ls[k]? = some x := ⟨_, List.getElem?_eq_getElem (by rw [HLN.out]; exact hlt)⟩
      have HPO := hid (HSB.out _ (List.mem_of_getElem? hp))
      obtain ⟨b1, o1, rfl, -, hc1⟩ := HLE.out.nd hlt hp
      obtain ⟨c0, c1, c2, c3⟩ := hc1 wr HB.out
      have hwlk := HM.out.memL.w.len
      have hllk := HM.out.memL.l.len
      clear hp hc1
      have hVMb := HVM.out
      obtain ⟨w6_151, hw6_151, hbn, hsn, hln⟩ := laid wr #[.int .u64 0, .int .u64 0, .int .u64 0, .int .u64 0] 38
      obtain ⟨B, hNMB⟩ : ∃ X, wr.heap.size = X := ⟨_, rfl⟩
      rw [hNMB] at hln
      have nMbB : Mb < B := by have := lt_laid HMB.out; omega
      have hVB : V.heap.size ≤ B := by have := HB.out.size; omega
      have HMB_13 := hid (keep_laid HMB.out hbn)
      have HM_14 := hid (HM.out.grow hbn)
      have HB_15 := hid (HB.out.trans (hbn.mono HB.out.size))
      clear HMB HM HB hbn hsn
      have KB_16 := hid (hln)
      clear hln
      have hwrB : wr.heap.size ≤ B := by omega
      obtain ⟨u7_163, hu7_163, a1, a2, a3, a4, a5⟩ := putM4 KB_16.out (.int .u64 ((p0 : Nat) : Int)) (.int .u64 ((p1 : Nat) : Int)) (.int .u64 ((p2 : Nat) : Int)) (.int .u64 ((p3 : Nat) : Int))
      obtain ⟨z0, zf0, z1, zf1, z2, zf2, z3, zf3⟩ := fcl4 KB_16.out
      have E8_163 := hid hu7_163
      have HMB_17 := hid (a2 Mb _ (by omega) HMB_13.out)
      have HM_18 := hid (a4 _ _ _ _ _ _ (by decide) (by decide) HM_14.out)
      have HB_19 := hid (a3 _ _ (by omega) HB_15.out)
      have KB_20 := hid (a1)
      clear HMB_13 HM_14 HB_15 KB_16 hu7_163 a1 a2 a3 a4 a5
      go_upto_region 7 with (fail)
      rw [← E8_163.out]
      clear z0 z1 z2 z3 zf0 zf1 zf2 zf3 hNMB c0 c1 c2 c3
      by_cases h8 : k = 8
      · have t8 : (((k : Nat) : Int) == 8) = true := by simp; omega
        go_wp2
        go_ret
        exact ⟨rfl, HB_19.out⟩
      · have t8 : (((k : Nat) : Int) == 8) = false := by simp; omega
        clear h8
        obtain ⟨m0, m1, m2⟩ := cells3 HMB_17.out
        have HNO := hid (Nodes_any Mk wak lak wck lck head u7_163 HM_18.out.memL hh HQ.out)
        unfold memV GivesNd at HNO
        have hcode := nodesP_code Mk head
        obtain ⟨⟨xs, code⟩, hN⟩ : ∃ r, nodesP Mk head = r := ⟨_, rfl⟩
        rw [hN] at HNO hcode
        dsimp only at HNO hcode
        have HCO := hid hcode
        clear hcode hN
        obtain ⟨q, hq⟩ : ∃ q, xs.length = q := ⟨_, rfl⟩
        have HXL := hid hq
        rw [hq] at HNO
        clear hq
        go_wp2_with fail
        refine (HNO.out).mono ?_
        rintro e w9_194 ⟨vw, rfl, hro, hbn⟩
        clear m0 m1 m2 HNO
        obtain ⟨G0, hG0⟩ : ∃ x, u7_163.heap.size = x := ⟨_, rfl⟩
        rw [hG0] at hro
        have hG0w : G0 ≤ w9_194.heap.size := by rw [← hG0]; exact hbn.size
        have hBG0 : B < G0 := by rw [← hG0]; exact lt_laid KB_20.out
        have hMG0 : Mb < G0 := by rw [← hG0]; exact lt_laid HMB_17.out
        clear hG0
        have HMB_21 := hid (keep_laid HMB_17.out hbn)
        have HM_22 := hid (HM_18.out.grow hbn)
        have HB_23 := hid (HB_19.out.trans (hbn.mono HB_19.out.size))
        have KB_24 := hid (keep_laid KB_20.out hbn)
        clear HMB_17 HM_18 HB_19 KB_20 hbn
        obtain ⟨va, vc, rfl, hlx⟩ := Leads.of_own hro
        have hxl := hlx.len
        have HWAS := hid hro
        clear hro hlx
        by_cases hc0 : code = 0
        · skip
          obtain ⟨hok, hns⟩ : okM Mk = true ∧ nodesR Mk head = some xs := by
            rcases HCO.out with ⟨-, h1, h2⟩ | h | h
            · exact ⟨h1, h2⟩
            · omega
            · omega
          subst hc0
          have HOK := hid hok
          have HNS := hid hns
          have hq11 : q ≤ 1100 := by have := (nodesR_facts HQ.out hok hns).1; have := HXL.out; omega
          have HND := hid (nodesR_facts HQ.out hok hns).2
          clear hok hns HCO
          have HIN := hid (Insert_any Mk wak lak wck lck head (p0, p1, p2, p3) w9_194 HM_22.out.memL HQ.out hh HPO.out)
          have hIK := fun hc => ins_keep (t := (p0, p1, p2, p3)) HOK.out HQ.out hh HPO.out HNS.out hc
          obtain ⟨⟨Ma, sa, ca⟩, hRa⟩ : ∃ R, insP Mk head (p0, p1, p2, p3) = R := ⟨_, rfl⟩
          rw [hRa] at HIN hIK
          unfold GivesI memV ndV at HIN
          dsimp only at HIN hIK
          have HIK := hid hIK
          clear hIK hRa
          obtain ⟨m0, m1, m2⟩ := cells3 HMB_21.out
          obtain ⟨y0, y1, y2, y3⟩ := ncl4 KB_24.out
          have hsV := HB_23.out.size
          clear t8
          go_wp2_with fail
          refine (HIN.out).mono ?_
          rintro e w10_238 ⟨waw, wcw, law, lcw, rfl, hO, hbn⟩
          have HMB_25 := hid (keep_laid HMB_21.out hbn)
          have HM_26 := hid (HM_22.out.grow hbn)
          have HB_27 := hid (HB_23.out.trans (hbn.mono HB_23.out.size))
          have KB_28 := hid (keep_laid KB_24.out hbn)
          have HWAS_29 := hid (own_grow HWAS.out hbn)
          clear HMB_21 HM_22 HB_23 KB_24 HWAS hbn m0 m1 m2 HIN y0 y1 y2 y3
          have HNA := hid (hO.base hsV)
          have haw := hO.memL.w.len
          have hal := hO.memL.l.len
          clear hO hsV
          obtain ⟨w11_251, hw11_251, hbn, hsn, hln⟩ := laid w10_238 #[.slice none 0 0, .slice none 0 0, .bool false] 25
          obtain ⟨A, hNMA⟩ : ∃ X, w10_238.heap.size = X := ⟨_, rfl⟩
          rw [hNMA] at hln
          have nMbA : Mb < A := by have := lt_laid HMB_25.out; omega
          have nBA : B < A := by have := lt_laid KB_28.out; omega
          have hVA : V.heap.size ≤ A := by have := HB_27.out.size; omega
          have HMB_30 := hid (keep_laid HMB_25.out hbn)
          have HM_31 := hid (HM_26.out.grow hbn)
          have HB_32 := hid (HB_27.out.trans (hbn.mono HB_27.out.size))
          have KB_33 := hid (keep_laid KB_28.out hbn)
          have HWAS_34 := hid (own_grow HWAS_29.out hbn)
          have HNA_35 := hid (HNA.out.grow hbn)
          clear HMB_25 HM_26 HB_27 KB_28 HWAS_29 HNA hbn hsn
          have KA_36 := hid (hln)
          clear hln
          have KA_36_o := KA_36
          obtain ⟨u12_267, hu12_267, a1, a2, a3, a4⟩ := put_mem KA_36.out (.slice waw Ma.W.length wcw) (.slice law Ma.L.length lcw) (.bool Ma.F)
          obtain ⟨z0, zf0, z1, zf1, z2, zf2⟩ := fcl3 KA_36.out
          have E13_267 := hid hu12_267
          have HMB_37 := hid (a2 Mb _ (by omega) HMB_30.out)
          have HM_38 := hid (a4 _ _ _ _ _ _ HM_31.out)
          have HB_39 := hid (a3 _ _ (by omega) HB_32.out)
          have KB_40 := hid (a2 B _ (by omega) KB_33.out)
          have HWAS_41 := hid (own_keep HWAS_34.out fun k o hk ho => a2 k o (fun e => own_ne2 HWAS_34.out KA_36_o.out (by decide) (by rw [← e]; exact hk)) ho)
          have HNA_42 := hid (a4 _ _ _ _ _ _ HNA_35.out)
          have KA_43 := hid (a1)
          clear HMB_30 HM_31 HB_32 KB_33 HWAS_34 HNA_35 KA_36 hu12_267 a1 a2 a3 a4
          clear KA_36_o
          go_upto_region 12 with (fail)
          rw [← E13_267.out]
          clear z0 z1 z2 zf0 zf1 zf2 hNMA
          by_cases hca : ca = 0
          · skip
            obtain ⟨l1, l2, hx12, hokA, hWA, hnA, htl, hfnd, hnode, hval⟩ := HIK.out hca
            subst hca
            have hfa := nodesR_facts hWA hokA hnA
            have HFA := hid hfa
            have hlen : (l1 ++ (p0, p1, p2, p3) :: l2).length = q + 1 := by rw [← HXL.out, hx12]; simp; omega
            have HX12 := hid hx12
            have HTL := hid htl
            clear hfa hx12 htl HIK
            have HNO := hid (Nodes_any Ma waw law wcw lcw head u12_267 HNA_42.out.memL hh hWA)
            rw [nodesP_some hokA hnA] at HNO
            unfold memV GivesNd at HNO
            rw [hlen] at HNO
            have HFI := hid (fun (W : World) (hm : MemL W waw wcw law lcw Ma) => Find_any Ma waw law wcw lcw head p3 p1 W hm hWA hh HPO.out.2.2.2 HPO.out.2.1)
            rw [findP_some hokA hnA] at HFI
            obtain ⟨⟨so, sn⟩, hF⟩ : ∃ r, findS p3 p1 head (l1 ++ (p0, p1, p2, p3) :: l2) = r := ⟨_, rfl⟩
            rw [hF] at hfnd hnode hval HFI
            dsimp only at hfnd hnode hval HFI
            obtain ⟨sph, shash, skey, slink, snode, sval, sfound⟩ := so
            dsimp only at hfnd hnode hval
            subst hfnd
            obtain rfl := hnode.symm
            obtain rfl := hval.symm
            unfold memV skV at HFI
            dsimp only at HFI
            obtain ⟨ys, hys⟩ : ∃ ys, l1 ++ (p0, p1, p2, p3) :: l2 = ys := ⟨_, rfl⟩
            have HYS := hid hys
            rw [hys] at HNO HFA hlen
            have HYL := hid hlen
            have HWA := hid hWA
            clear hF hys hlen hWA hokA hnA
            obtain ⟨m0, m1, m2⟩ := cells3 KA_43.out
            go_wp2_with fail
            refine (HNO.out).mono ?_
            rintro e w14_315 ⟨vw, rfl, hro, hbn⟩
            clear HNO
            obtain ⟨G1, hG1⟩ : ∃ x, u12_267.heap.size = x := ⟨_, rfl⟩
            rw [hG1] at hro
            have hG1w : G1 ≤ w14_315.heap.size := by rw [← hG1]; exact hbn.size
            have hAG1 : A < G1 := by rw [← hG1]; exact lt_laid KA_43.out
            have hMG1 : Mb < G1 := by rw [← hG1]; exact lt_laid HMB_37.out
            have HWG1 := hid (fun k hk => hG1 ▸ own_lt HWAS_41.out k hk)
            have hVG1 : V.heap.size ≤ G1 := by rw [← hG1]; exact HB_39.out.size
            clear hG1 m0 m1 m2
            have HMB_44 := hid (keep_laid HMB_37.out hbn)
            have HM_45 := hid (HM_38.out.grow hbn)
            have HB_46 := hid (HB_39.out.trans (hbn.mono HB_39.out.size))
            have KB_47 := hid (keep_laid KB_40.out hbn)
            have HWAS_48 := hid (own_grow HWAS_41.out hbn)
            have HNA_49 := hid (HNA_42.out.grow hbn)
            have KA_50 := hid (keep_laid KA_43.out hbn)
            clear HMB_37 HM_38 HB_39 KB_40 HWAS_41 HNA_42 KA_43 hbn
            obtain ⟨G, hGa⟩ : ∃ G, ∃ cap, vw = .slice (some ⟨G, 0, none⟩) (q + 1) cap := by
              rcases hro.2 with ⟨-, h0⟩ | ⟨g, cap, cur, e, -⟩
              · omega
              · exact ⟨g, cap, e⟩
            obtain ⟨cp, rfl⟩ := hGa
            have hxl1 := (Leads.of_own1 hro).len
            have hGG1 : G1 ≤ G := (hro.lt G rfl).1
            have hGw : G < w14_315.heap.size := own_lt hro G rfl
            have HNOW := hid hro
            clear hro
            obtain ⟨m0, m1, m2⟩ := cells3 KA_50.out
            obtain ⟨y0, y1, y2, y3⟩ := ncl4 KB_47.out
            go_wp2_with fail
            refine (HFI.out w14_315 HNA_49.out.memL).mono ?_
            rintro e w15_347 ⟨rfl, hbn⟩
            have HMB_51 := hid (keep_laid HMB_44.out hbn)
            have HM_52 := hid (HM_45.out.grow hbn)
            have HB_53 := hid (HB_46.out.trans (hbn.mono HB_46.out.size))
            have KB_54 := hid (keep_laid KB_47.out hbn)
            have HWAS_55 := hid (own_grow HWAS_48.out hbn)
            have HNA_56 := hid (HNA_49.out.grow hbn)
            have KA_57 := hid (keep_laid KA_50.out hbn)
            have HNOW_58 := hid (own_grow HNOW.out hbn)
            clear HMB_44 HM_45 HB_46 KB_47 HWAS_48 HNA_49 KA_50 HNOW hbn HFI m0 m1 m2 y0 y1 y2 y3
            obtain ⟨w16_359, hw16_359, hbn, hsn, hln⟩ := laid w15_347 #[.int .i64 0, .int .u64 0, .int .u64 0, .int .u64 0, .int .u64 0, .int .u64 0, .bool false] 40
            obtain ⟨S1, hNMS1⟩ : ∃ X, w15_347.heap.size = X := ⟨_, rfl⟩
            rw [hNMS1] at hln
            have nMbS1 : Mb < S1 := by have := lt_laid HMB_51.out; omega
            have nBS1 : B < S1 := by have := lt_laid KB_54.out; omega
            have nAS1 : A < S1 := by have := lt_laid KA_57.out; omega
            have hVS1 : V.heap.size ≤ S1 := by have := HB_53.out.size; omega
            have HMB_59 := hid (keep_laid HMB_51.out hbn)
            have HM_60 := hid (HM_52.out.grow hbn)
            have HB_61 := hid (HB_53.out.trans (hbn.mono HB_53.out.size))
            have KB_62 := hid (keep_laid KB_54.out hbn)
            have HWAS_63 := hid (own_grow HWAS_55.out hbn)
            have HNA_64 := hid (HNA_56.out.grow hbn)
            have KA_65 := hid (keep_laid KA_57.out hbn)
            have HNOW_66 := hid (own_grow HNOW_58.out hbn)
            clear HMB_51 HM_52 HB_53 KB_54 HWAS_55 HNA_56 KA_57 HNOW_58 hbn hsn
            have KS1_67 := hid (hln)
            clear hln
            have KS1_67_o := KS1_67
            obtain ⟨u17_378, hu17_378, a1, a2, a3, a4, a5⟩ := putM7 KS1_67.out (.int .i64 sph) (.int .u64 ((shash : Nat) : Int)) (.int .u64 ((skey : Nat) : Int)) (.int .u64 ((slink : Nat) : Int)) (.int .u64 ((p0 : Nat) : Int)) (.int .u64 ((p2 : Nat) : Int)) (.bool true)
            obtain ⟨z0, zf0, z1, zf1, z2, zf2, z3, zf3, z4, zf4, z5, zf5, z6, zf6⟩ := fcl7 KS1_67.out
            have E18_378 := hid hu17_378
            have HMB_68 := hid (a2 Mb _ (by omega) HMB_59.out)
            have HM_69 := hid (a4 _ _ _ _ _ _ (by decide) (by decide) HM_60.out)
            have HB_70 := hid (a3 _ _ (by omega) HB_61.out)
            have KB_71 := hid (a2 B _ (by omega) KB_62.out)
            have HWAS_72 := hid (own_keep HWAS_63.out fun k o hk ho => a2 k o (fun e => own_ne2 HWAS_63.out KS1_67_o.out (by decide) (by rw [← e]; exact hk)) ho)
            have HNA_73 := hid (a4 _ _ _ _ _ _ (by decide) (by decide) HNA_64.out)
            have KA_74 := hid (a2 A _ (by omega) KA_65.out)
            have HNOW_75 := hid (own_keep HNOW_66.out fun k o hk ho => a2 k o (fun e => own_ne2 HNOW_66.out KS1_67_o.out (by decide) (by rw [← e]; exact hk)) ho)
            have KS1_76 := hid (a1)
            clear HMB_59 HM_60 HB_61 KB_62 HWAS_63 HNA_64 KA_65 HNOW_66 KS1_67 hu17_378 a1 a2 a3 a4 a5
            clear KS1_67_o
            go_upto_region 15 with (fail)
            rw [← E18_378.out]
            clear z0 z1 z2 z3 z4 z5 z6 zf0 zf1 zf2 zf3 zf4 zf5 zf6 hNMS1
            obtain ⟨y0, y1, y2, y3⟩ := ncl4 KB_71.out
            obtain ⟨s0, s1, s2, s3, s4, s5, s6⟩ := ncl7 KS1_76.out
            have tv : (((p2 : Nat) : Int) != ((p2 : Nat) : Int)) = false := by simp
            have tn : (((p0 : Nat) : Int) != ((p0 : Nat) : Int)) = false := by simp
            have tl : ((((q + 1 : Nat) : Nat) : Int) != ((q : Nat) : Int) + 1) = false := by simp
            have HIX := hid (IndexN_any ys l1 l2 (p0, p1, p2, p3) (some ⟨G, 0, none⟩) (q + 1) cp u17_378 (Leads.of_own1 HNOW_75.out) HYL.out (by omega) HFA.out.2 HPO.out HYS.out.symm HTL.out)
            unfold ndV at HIX
            dsimp only at HIX
            obtain ⟨i, hi⟩ : ∃ i, l1.length = i := ⟨_, rfl⟩
            rw [hi] at HIX
            have HI := hid hi
            have hiq : i < q + 1 := by have h1 := HYL.out; rw [← HYS.out] at h1; simp at h1; omega
            clear hi
            go_wp2_with fail
            refine (HIX.out).mono ?_
            rintro e w19_408 ⟨rfl, hbn⟩
            have HMB_77 := hid (keep_laid HMB_68.out hbn)
            have HM_78 := hid (HM_69.out.grow hbn)
            have HB_79 := hid (HB_70.out.trans (hbn.mono HB_70.out.size))
            have KB_80 := hid (keep_laid KB_71.out hbn)
            have HWAS_81 := hid (own_grow HWAS_72.out hbn)
            have HNA_82 := hid (HNA_73.out.grow hbn)
            have KA_83 := hid (keep_laid KA_74.out hbn)
            have HNOW_84 := hid (own_grow HNOW_75.out hbn)
            have KS1_85 := hid (keep_laid KS1_76.out hbn)
            clear HMB_68 HM_69 HB_70 KB_71 HWAS_72 HNA_73 KA_74 HNOW_75 KS1_76 hbn HIX tv tn tl y0 y1 y2 y3 s0 s1 s2 s3 s4 s5 s6
            have ti : decide (((i : Nat) : Int) < 0) = false := by simp
            have HDE := hid (fun z hz => Delete_any ys G (q + 1) q cp i G1 z w19_408 HNOW_84.out hiq rfl (by omega) hz)
            have HER : Hid (ys.eraseIdx i = xs) := hid (by rw [← HYS.out, ← HI.out, erase_mid, ← HX12.out])
            rw [HER.out] at HDE
            go_wp2_with fail
            refine (HDE.out _ (by omega)).mono ?_
            rintro e w9 ⟨rfl, hdr, hko, hkb⟩
            obtain ⟨cur, hGc⟩ := own_type HNOW_84.out G rfl
            have KMB9 := hid (hko Mb _ (by omega) HMB_77.out)
            have KA9 := hid (hko A _ (by omega) KA_83.out)
            have HNA9 := hid ((HNA_82.out).keep hGc (by decide) (by decide) hko)
            have HB9 := hid (hkb _ _ (by omega) HB_79.out)
            have HWA9 := hid (own_keep HWAS_81.out fun b o hb ho => hko b o (by have := HWG1.out b hb; omega) ho)
            clear hko hkb hGc HDE
            have HEQ := hid (EqN_any xs xs (some ⟨G, 0, none⟩) va q q cp vc w9 HXL.out HXL.out HND.out HND.out (Leads.of_own1 hdr) (Leads.of_own1 HWA9.out))
            rw [decide_eq_true rfl] at HEQ
            clear hdr
            clear HMB_77 HM_78 HB_79 KB_80 HWAS_81 HNA_82 KA_83 HNOW_84 KS1_85
            clear HWA9
            go_wp2_with fail
            refine (HEQ.out).mono ?_
            rintro e w20_440 ⟨rfl, hbn⟩
            have KMB9_86 := hid (keep_laid KMB9.out hbn)
            have KA9_87 := hid (keep_laid KA9.out hbn)
            have HNA9_88 := hid (HNA9.out.grow hbn)
            have HB9_89 := hid (HB9.out.trans (hbn.mono HB9.out.size))
            clear KMB9 KA9 HNA9 HB9 hbn HEQ
            obtain ⟨m0, m1, m2⟩ := cells3 KA9_87.out
            have KMB9_86_o := KMB9_86
            obtain ⟨u21_450, hu21_450, a1, a2, a3, a4⟩ := put_mem KMB9_86.out (.slice waw Ma.W.length wcw) (.slice law Ma.L.length lcw) (.bool Ma.F)
            obtain ⟨z0, zf0, z1, zf1, z2, zf2⟩ := fcl3 KMB9_86.out
            have E22_450 := hid hu21_450
            have KMB9_90 := hid (a1)
            have KA9_91 := hid (a2 A _ (by omega) KA9_87.out)
            have HNA9_92 := hid (a4 _ _ _ _ _ _ HNA9_88.out)
            have HB9_93 := hid (a3 _ _ (by omega) HB9_89.out)
            clear KMB9_86 KA9_87 HNA9_88 HB9_89 hu21_450 a1 a2 a3 a4
            clear KMB9_86_o
            skip
            go_wp2
            rw [← E22_450.out]
            go_roundg (gk - 1)
            case measure => have := HK.out; omega
            case rel => exact ⟨k + 1, waw, wcw, law, lcw, Ma, by have := HK.out; omega, by go_num, hid ⟨KMB9_90.out, HNA9_92.out, HB9_93.out, HWA.out⟩⟩
          · have tca : (((ca : Nat) : Int) == 0) = false := by simp; omega
            clear HNA_42 KA_43
            clear hca HIK
            have HRE := hid (Remove_any Mk wak lak wck lck head p3 p1 u12_267 HM_38.out.memL HQ.out hh HPO.out.2.2.2 HPO.out.2.1)
            have hRK := fun hc => rem_keep HOK.out HQ.out hh HPO.out.2.2.2 HPO.out.2.1 HNS.out hc
            obtain ⟨⟨Mc, sc, cb⟩, hRb⟩ : ∃ R, remP Mk head p3 p1 = R := ⟨_, rfl⟩
            rw [hRb] at HRE hRK
            unfold GivesU memV at HRE
            dsimp only at HRE hRK
            have HRK := hid hRK
            clear hRK hRb
            obtain ⟨m0, m1, m2⟩ := cells3 HMB_37.out
            obtain ⟨y0, y1, y2, y3⟩ := ncl4 KB_40.out
            have hsV := HB_39.out.size
            go_wp2_with fail
            refine (HRE.out).mono ?_
            rintro e w14_479 ⟨wax, wcx, lax, lcx, rfl, hO, hbn⟩
            have HMB_44 := hid (keep_laid HMB_37.out hbn)
            have HM_45 := hid (HM_38.out.grow hbn)
            have HB_46 := hid (HB_39.out.trans (hbn.mono HB_39.out.size))
            have KB_47 := hid (keep_laid KB_40.out hbn)
            have HWAS_48 := hid (own_grow HWAS_41.out hbn)
            clear HMB_37 HM_38 HB_39 KB_40 HWAS_41 hbn m0 m1 m2 HRE tca y0 y1 y2 y3
            have HNC := hid (hO.base hsV)
            have hcw := hO.memL.w.len
            have hcl := hO.memL.l.len
            clear hO hsV
            obtain ⟨w15_492, hw15_492, hbn, hsn, hln⟩ := laid w14_479 #[.slice none 0 0, .slice none 0 0, .bool false] 25
            obtain ⟨Cb, hNMCb⟩ : ∃ X, w14_479.heap.size = X := ⟨_, rfl⟩
            rw [hNMCb] at hln
            have nMbCb : Mb < Cb := by have := lt_laid HMB_44.out; omega
            have nBCb : B < Cb := by have := lt_laid KB_47.out; omega
            have hVCb : V.heap.size ≤ Cb := by have := HB_46.out.size; omega
            have HMB_49 := hid (keep_laid HMB_44.out hbn)
            have HM_50 := hid (HM_45.out.grow hbn)
            have HB_51 := hid (HB_46.out.trans (hbn.mono HB_46.out.size))
            have KB_52 := hid (keep_laid KB_47.out hbn)
            have HWAS_53 := hid (own_grow HWAS_48.out hbn)
            have HNC_54 := hid (HNC.out.grow hbn)
            clear HMB_44 HM_45 HB_46 KB_47 HWAS_48 HNC hbn hsn
            have KCb_55 := hid (hln)
            clear hln
            have hMf := HM_50.out.below2
            have hCf := HNC_54.out.below2
            obtain ⟨A0, hA0⟩ : ∃ x, w15_492.heap.size = x := ⟨_, rfl⟩
            rw [hA0] at hMf hCf
            have HMF := hid hMf
            have HCF := hid hCf
            clear hMf hCf
            obtain ⟨w16_514, hw16_514, hbn, hsn, hln⟩ := laid w15_492 #[.int .u64 0] 26
            obtain ⟨At, hNMAt⟩ : ∃ X, w15_492.heap.size = X := ⟨_, rfl⟩
            rw [hNMAt] at hln
            have nMbAt : Mb < At := by have := lt_laid HMB_49.out; omega
            have nBAt : B < At := by have := lt_laid KB_52.out; omega
            have nCbAt : Cb < At := by have := lt_laid KCb_55.out; omega
            have hVAt : V.heap.size ≤ At := by have := HB_51.out.size; omega
            have HMB_56 := hid (keep_laid HMB_49.out hbn)
            have HM_57 := hid (HM_50.out.grow hbn)
            have HB_58 := hid (HB_51.out.trans (hbn.mono HB_51.out.size))
            have KB_59 := hid (keep_laid KB_52.out hbn)
            have HWAS_60 := hid (own_grow HWAS_53.out hbn)
            have HNC_61 := hid (HNC_54.out.grow hbn)
            have KCb_62 := hid (keep_laid KCb_55.out hbn)
            clear HMB_49 HM_50 HB_51 KB_52 HWAS_53 HNC_54 KCb_55 hbn hsn
            have KAt_63 := hid (hln)
            clear hln
            obtain rfl : A0 = At := by rw [← hA0, ← hNMAt]
            clear hA0
            have kAt := cell_laid (i := 0) KAt_63.out rfl
            have fAt := free_laid (i := 0) KAt_63.out
            have KCb_62_o := KCb_62
            obtain ⟨u17_536, hu17_536, a1, a2, a3, a4⟩ := put_mem KCb_62.out (.slice wax Mc.W.length wcx) (.slice lax Mc.L.length lcx) (.bool Mc.F)
            obtain ⟨z0, zf0, z1, zf1, z2, zf2⟩ := fcl3 KCb_62.out
            have E18_536 := hid hu17_536
            have HMB_64 := hid (a2 Mb _ (by omega) HMB_56.out)
            have HM_65 := hid (a4 _ _ _ _ _ _ HM_57.out)
            have HB_66 := hid (a3 _ _ (by omega) HB_58.out)
            have KB_67 := hid (a2 B _ (by omega) KB_59.out)
            have HWAS_68 := hid (own_keep HWAS_60.out fun k o hk ho => a2 k o (fun e => own_ne2 HWAS_60.out KCb_62_o.out (by decide) (by rw [← e]; exact hk)) ho)
            have HNC_69 := hid (a4 _ _ _ _ _ _ HNC_61.out)
            have KCb_70 := hid (a1)
            have KAt_71 := hid (a2 A0 _ (by omega) KAt_63.out)
            clear HMB_56 HM_57 HB_58 KB_59 HWAS_60 HNC_61 KCb_62 KAt_63 hu17_536 a1 a2 a3 a4
            clear KCb_62_o
            obtain ⟨u9, hu9, a1, a2, a3⟩ := put1K KAt_71.out (.int .u64 ((sc : Nat) : Int))
            have E9 := hid hu9
            have hKAto := KAt_71.out
            have HMB_72 := hid (a2 Mb _ (by omega) HMB_64.out)
            have HM_73 := hid (MemO.far2 HM_65.out HMF.out a2)
            have HB_74 := hid (a3 _ _ (by omega) HB_66.out)
            have KB_75 := hid (a2 B _ (by omega) KB_67.out)
            have HWAS_76 := hid (own_keep HWAS_68.out fun k o hk ho => a2 k o (fun e => own_ne2 HWAS_68.out hKAto (by decide) (by rw [← e]; exact hk)) ho)
            have HNC_77 := hid (MemO.far2 HNC_69.out HCF.out a2)
            have KCb_78 := hid (a2 Cb _ (by omega) KCb_70.out)
            have KAt_79 := hid (a1)
            clear HMB_64 HM_65 HB_66 KB_67 HWAS_68 HNC_69 KCb_70 KAt_71 hu9 a1 a2 a3 hKAto HMF HCF
            go_upto_region 22 with (fail)
            rw [← E18_536.out, ← E9.out]
            clear z0 z1 z2 zf0 zf1 zf2 hNMCb hNMAt kAt fAt
            by_cases hcb : cb = 0
            · skip
              obtain ⟨l1, t, l2, hx12, ht1, ht3, hat, hdif, hokC, hWC, hnC, hnf⟩ := HRK.out hcb
              subst hcb hat
              have hfc := nodesR_facts hWC hokC hnC
              have HFC := hid hfc
              obtain ⟨q2, hq2⟩ : ∃ q2, (l1 ++ l2).length = q2 := ⟨_, rfl⟩
              have hqq : q = q2 + 1 := by rw [← hq2, ← HXL.out, hx12]; simp; omega
              have HNO := hid (Nodes_any Mc wax lax wcx lcx head u9 HNC_77.out.memL hh hWC)
              rw [nodesP_some hokC hnC] at HNO
              unfold memV GivesNd at HNO
              rw [hq2] at HNO
              have HFI := hid (fun (W : World) (hm : MemL W wax wcx lax lcx Mc) => Find_any Mc wax lax wcx lcx head p3 p1 W hm hWC hh HPO.out.2.2.2 HPO.out.2.1)
              rw [findP_some hokC hnC] at HFI
              obtain ⟨⟨so, sn⟩, hF⟩ : ∃ r, findS p3 p1 head (l1 ++ l2) = r := ⟨_, rfl⟩
              rw [hF] at hnf HFI
              dsimp only at hnf HFI
              obtain ⟨sph, shash, skey, slink, snode, sval, sfound⟩ := so
              dsimp only at hnf
              subst hnf
              unfold memV skV at HFI
              dsimp only at HFI
              obtain ⟨i, hi⟩ : ∃ i, l1.length = i := ⟨_, rfl⟩
              have hiq : i < q := by rw [← HXL.out, hx12, ← hi]; simp
              have hxi : xs[i]? = some t := by rw [hx12, ← hi, List.getElem?_append_right (Nat.le_refl _), Nat.sub_self]; rfl
              have HER : Hid (xs.eraseIdx i = l1 ++ l2) := hid (by rw [hx12, ← hi, erase_mid])
              have HX12 := hid hx12
              have HDIF := hid hdif
              have HI := hid hi
              have HXI := hid hxi
              have HQ2 := hid hq2
              have HQQ := hid hqq
              have HT1 := hid ht1
              have HT3 := hid ht3
              have HWC := hid hWC
              clear hF hfc hq2 hWC hokC hnC hx12 hdif hi hxi HRK ht1 ht3 hqq
              obtain ⟨m0, m1, m2⟩ := cells3 KCb_78.out
              go_wp2_with fail
              refine (HNO.out).mono ?_
              rintro e w19_601 ⟨vw, rfl, hro, hbn⟩
              clear HNO m0 m1 m2
              have HMB_80 := hid (keep_laid HMB_72.out hbn)
              have HM_81 := hid (HM_73.out.grow hbn)
              have HB_82 := hid (HB_74.out.trans (hbn.mono HB_74.out.size))
              have KB_83 := hid (keep_laid KB_75.out hbn)
              have HWAS_84 := hid (own_grow HWAS_76.out hbn)
              have HNC_85 := hid (HNC_77.out.grow hbn)
              have KCb_86 := hid (keep_laid KCb_78.out hbn)
              have KAt_87 := hid (keep_laid KAt_79.out hbn)
              clear HMB_72 HM_73 HB_74 KB_75 HWAS_76 HNC_77 KCb_78 KAt_79 hbn
              obtain ⟨vx, vy, rfl, hlx⟩ := Leads.of_own hro
              have hxl2 := hlx.len
              have HNW := hid hro
              clear hro hlx
              obtain ⟨m0, m1, m2⟩ := cells3 KCb_86.out
              obtain ⟨y0, y1, y2, y3⟩ := ncl4 KB_83.out
              go_wp2_with fail
              refine (HFI.out w19_601 HNC_85.out.memL).mono ?_
              rintro e w20_620 ⟨rfl, hbn⟩
              have HMB_88 := hid (keep_laid HMB_80.out hbn)
              have HM_89 := hid (HM_81.out.grow hbn)
              have HB_90 := hid (HB_82.out.trans (hbn.mono HB_82.out.size))
              have KB_91 := hid (keep_laid KB_83.out hbn)
              have HWAS_92 := hid (own_grow HWAS_84.out hbn)
              have HNC_93 := hid (HNC_85.out.grow hbn)
              have KCb_94 := hid (keep_laid KCb_86.out hbn)
              have KAt_95 := hid (keep_laid KAt_87.out hbn)
              have HNW_96 := hid (own_grow HNW.out hbn)
              clear HMB_80 HM_81 HB_82 KB_83 HWAS_84 HNC_85 KCb_86 KAt_87 HNW hbn HFI m0 m1 m2 y0 y1 y2 y3
              obtain ⟨w21_633, hw21_633, hbn, hsn, hln⟩ := laid w20_620 #[.int .i64 0, .int .u64 0, .int .u64 0, .int .u64 0, .int .u64 0, .int .u64 0, .bool false] 40
              obtain ⟨S1, hNMS1⟩ : ∃ X, w20_620.heap.size = X := ⟨_, rfl⟩
              rw [hNMS1] at hln
              have nMbS1 : Mb < S1 := by have := lt_laid HMB_88.out; omega
              have nBS1 : B < S1 := by have := lt_laid KB_91.out; omega
              have nCbS1 : Cb < S1 := by have := lt_laid KCb_94.out; omega
              have nA0S1 : A0 < S1 := by have := lt_laid KAt_95.out; omega
              have hVS1 : V.heap.size ≤ S1 := by have := HB_90.out.size; omega
              have HMB_97 := hid (keep_laid HMB_88.out hbn)
              have HM_98 := hid (HM_89.out.grow hbn)
              have HB_99 := hid (HB_90.out.trans (hbn.mono HB_90.out.size))
              have KB_100 := hid (keep_laid KB_91.out hbn)
              have HWAS_101 := hid (own_grow HWAS_92.out hbn)
              have HNC_102 := hid (HNC_93.out.grow hbn)
              have KCb_103 := hid (keep_laid KCb_94.out hbn)
              have KAt_104 := hid (keep_laid KAt_95.out hbn)
              have HNW_105 := hid (own_grow HNW_96.out hbn)
              clear HMB_88 HM_89 HB_90 KB_91 HWAS_92 HNC_93 KCb_94 KAt_95 HNW_96 hbn hsn
              have KS1_106 := hid (hln)
              clear hln
              have KS1_106_o := KS1_106
              obtain ⟨u22_654, hu22_654, a1, a2, a3, a4, a5⟩ := putM7 KS1_106.out (.int .i64 sph) (.int .u64 ((shash : Nat) : Int)) (.int .u64 ((skey : Nat) : Int)) (.int .u64 ((slink : Nat) : Int)) (.int .u64 ((snode : Nat) : Int)) (.int .u64 ((sval : Nat) : Int)) (.bool false)
              obtain ⟨z0, zf0, z1, zf1, z2, zf2, z3, zf3, z4, zf4, z5, zf5, z6, zf6⟩ := fcl7 KS1_106.out
              have E23_654 := hid hu22_654
              have HMB_107 := hid (a2 Mb _ (by omega) HMB_97.out)
              have HM_108 := hid (a4 _ _ _ _ _ _ (by decide) (by decide) HM_98.out)
              have HB_109 := hid (a3 _ _ (by omega) HB_99.out)
              have KB_110 := hid (a2 B _ (by omega) KB_100.out)
              have HWAS_111 := hid (own_keep HWAS_101.out fun k o hk ho => a2 k o (fun e => own_ne2 HWAS_101.out KS1_106_o.out (by decide) (by rw [← e]; exact hk)) ho)
              have HNC_112 := hid (a4 _ _ _ _ _ _ (by decide) (by decide) HNC_102.out)
              have KCb_113 := hid (a2 Cb _ (by omega) KCb_103.out)
              have KAt_114 := hid (a2 A0 _ (by omega) KAt_104.out)
              have HNW_115 := hid (own_keep HNW_105.out fun k o hk ho => a2 k o (fun e => own_ne2 HNW_105.out KS1_106_o.out (by decide) (by rw [← e]; exact hk)) ho)
              have KS1_116 := hid (a1)
              clear HMB_97 HM_98 HB_99 KB_100 HWAS_101 HNC_102 KCb_103 KAt_104 HNW_105 KS1_106 hu22_654 a1 a2 a3 a4 a5
              clear KS1_106_o
              go_upto_region 25 with (fail)
              rw [← E23_654.out]
              clear z0 z1 z2 z3 z4 z5 z6 zf0 zf1 zf2 zf3 zf4 zf5 zf6 hNMS1
              have hmf : ∀ (fn : Fn) (first cap : Array Value) (w : World), (Instr.makeFunc fn first cap).run Try.prog w = .ok (.func fn first cap) w := fun _ _ _ _ => rfl
              have HIX := hid (IdxKeeps_any xs l1 l2 t (fun y => decide (y.1 = t.1)) va q vc A0 u22_654 (Leads.of_own1 HWAS_111.out) HXL.out (by omega) (fun y W hb => keeps1_any y t.1 A0 W (cell_laid (keep_laid KAt_114.out hb) rfl) (lt_laid (keep_laid KAt_114.out hb))) HX12.out (fun x hx => decide_eq_false (HDIF.out x hx)) (decide_eq_true rfl))
              rw [HI.out] at HIX
              go_wp2_with fail
              refine (HIX.out).mono ?_
              rintro e w24_675 ⟨rfl, hbn⟩
              have HMB_117 := hid (keep_laid HMB_107.out hbn)
              have HM_118 := hid (HM_108.out.grow hbn)
              have HB_119 := hid (HB_109.out.trans (hbn.mono HB_109.out.size))
              have KB_120 := hid (keep_laid KB_110.out hbn)
              have HWAS_121 := hid (own_grow HWAS_111.out hbn)
              have HNC_122 := hid (HNC_112.out.grow hbn)
              have KCb_123 := hid (keep_laid KCb_113.out hbn)
              have KAt_124 := hid (keep_laid KAt_114.out hbn)
              have HNW_125 := hid (own_grow HNW_115.out hbn)
              have KS1_126 := hid (keep_laid KS1_116.out hbn)
              clear HMB_107 HM_108 HB_109 KB_110 HWAS_111 HNC_112 KCb_113 KAt_114 HNW_115 KS1_116 hbn HIX hmf
              have ti : decide (((i : Nat) : Int) < 0) = false := by simp
              have tk : (((p1 : Nat) : Int) != ((p1 : Nat) : Int)) = false := by simp
              have th : (((p3 : Nat) : Int) != ((p3 : Nat) : Int)) = false := by simp
              obtain ⟨bo, oo, rfl, hbo, hcx⟩ := (Leads.of_own1 HWAS_121.out).nd hiq HXI.out
              go_upto_region 26 with (fail)
              obtain ⟨D25_693, hD⟩ : ∃ DX, (w24_675).drew = DX := ⟨_, rfl⟩
              have hbD : Below w24_675.heap.size w24_675 D25_693 := by rw [← hD]; exact (Below.refl _ _).drew
              have HD := hid hD
              have HBD := hid hbD
              clear hD
              have HMB_127 := hid (keep_laid HMB_117.out hbD)
              have HM_128 := hid (HM_118.out.grow hbD)
              have HB_129 := hid (HB_119.out.trans (hbD.mono HB_119.out.size))
              have KB_130 := hid (keep_laid KB_120.out hbD)
              have HWAS_131 := hid (own_grow HWAS_121.out hbD)
              have HNC_132 := hid (HNC_122.out.grow hbD)
              have KCb_133 := hid (keep_laid KCb_123.out hbD)
              have KAt_134 := hid (keep_laid KAt_124.out hbD)
              have HNW_135 := hid (own_grow HNW_125.out hbD)
              have KS1_136 := hid (keep_laid KS1_126.out hbD)
              clear HMB_117 HM_118 HB_119 KB_120 HWAS_121 HNC_122 KCb_123 KAt_124 HNW_125 KS1_126 hbD
              have s6 : ∀ z : Ext D25_693, z.v.cell? ⟨S1, 6, none⟩ = some (.bool false) := fun z => cell_laid (keep_laid KS1_136.out z.b) rfl
              have y1 : ∀ z : Ext D25_693, z.v.cell? ⟨B, 1, none⟩ = some (.int .u64 ((p1 : Nat) : Int)) := fun z => cell_laid (keep_laid KB_130.out z.b) rfl
              have y3 : ∀ z : Ext D25_693, z.v.cell? ⟨B, 3, none⟩ = some (.int .u64 ((p3 : Nat) : Int)) := fun z => cell_laid (keep_laid KB_130.out z.b) rfl
              have x1 : ∀ z : Ext D25_693, z.v.cell? ⟨bo, oo + i * 4 + 1, none⟩ = some (.int .u64 ((p1 : Nat) : Int)) := fun z => (hcx z.v (step HBD.out z.b)).2.1.trans (by rw [HT1.out])
              have x3 : ∀ z : Ext D25_693, z.v.cell? ⟨bo, oo + i * 4 + 3, none⟩ = some (.int .u64 ((p3 : Nat) : Int)) := fun z => (hcx z.v (step HBD.out z.b)).2.2.2.trans (by rw [HT3.out])
              clear hcx hbo
              refine wp_region_mix2 (fun W => ∃ z : Ext D25_693, W = z.v) 45 (.q 0 (.q 1 (.q 2 (.q 3 (.q 4 (.q 5 (.q 6 (.q 7 (.q 8 (.q 9 (.q 10 (.q 11 (.q 12 (.q 13 (.q 14 (.q 15 (.q 16 (.q 17 (.q 18 (.q 19 (.q 20 (.q 21 (.q 22 (.q 23 (.q 24 (.q 25 (.q 26 (.q 27 (.q 28 (.q 29 (.q 30 (.q 31 (.q 32 (.q 33 (.q 34 (.q 35 (.q 36 (.q 38 (.q 39 (.q 40 (.h 37 (.h 41 (.h 42 (.q 43 (.q 44 (.done)))))))))))))))))))))))))))))))))))))))))))))) (by kernel_rfl) (by kernel_rfl) (by rw [HD.out]; exact ⟨⟨D25_693, Below.refl _ _⟩, rfl⟩) ?_
              rw [HD.out]
              repeat (refine wpMix2_q rfl rfl ?_; go_big_quiet_step (fail); refine wpQuiet_nil ?_)
              refine wpMix2_h rfl fun R' hR' hO => ?_
              go_wp2_with fail
              refine (CloneN_any (some ⟨bo, oo, none⟩) q vc (ndcells xs) D25_693 (Leads.of_own1 HWAS_131.out) (by rw [ndcells_len, HXL.out, Nat.mul_comm]) (by omega) (ndcells_one xs)).mono ?_
              rintro e v1 ⟨vcl, rfl, hcl, hb1⟩
              obtain ⟨G, hGa⟩ : ∃ G, ∃ cap, vcl = .slice (some ⟨G, 0, none⟩) q cap := by
                rcases hcl.2 with ⟨-, h0⟩ | ⟨g, cap, cur, e, -⟩
                · omega
                · exact ⟨g, cap, e⟩
              obtain ⟨cp, rfl⟩ := hGa
              have hxl3 := (Leads.of_own1 hcl).len
              have hDG : D25_693.heap.size ≤ G := (hcl.lt G rfl).1
              have HDE := hid (fun z hz => Delete_any xs G q q2 cp i _ z v1 hcl hiq HQQ.out (by omega) hz)
              rw [HER.out] at HDE
              have HB1 := hid hb1
              clear hb1 hcl
              go_wp2
              refine hR' _ _ ⟨⟨v1, HB1.out⟩, rfl⟩ ?_
              clear hR' hO R'
              repeat (refine wpMix2_q rfl rfl ?_; go_big_quiet_step (fail); refine wpQuiet_nil ?_)
              refine wpMix2_h rfl fun R' hR' hO => ?_
              go_wp2_with fail
              refine (HDE.out _ (by omega)).mono ?_
              rintro e v2 ⟨rfl, hdr, hko, hkb⟩
              have HB2 := hid (hkb _ _ hDG HB1.out)
              have HEQ := hid (EqN_any (l1 ++ l2) (l1 ++ l2) vx (some ⟨G, 0, none⟩) q2 q2 vy cp v2 HQ2.out HQ2.out HFC.out.2 HFC.out.2 ((Leads.of_own1 HNW_135.out).grow HB2.out) (Leads.of_own1 hdr))
              rw [decide_eq_true rfl] at HEQ
              clear hdr hko hkb HDE
              go_wp2
              refine hR' _ _ ⟨⟨v2, HB2.out⟩, rfl⟩ ?_
              clear hR' hO R'
              repeat (refine wpMix2_q rfl rfl ?_; go_big_quiet_step (fail); refine wpQuiet_nil ?_)
              refine wpMix2_h rfl fun R' hR' hO => ?_
              go_wp2_with fail
              refine HEQ.out.mono ?_
              rintro e v3 ⟨rfl, hb3⟩
              have HB3 := hid (step HB2.out hb3)
              clear hb3 HEQ
              go_wp2
              refine hR' _ _ ⟨⟨v3, HB3.out⟩, rfl⟩ ?_
              clear hR' hO R'
              repeat (refine wpMix2_q rfl rfl ?_; go_big_quiet_step (fail); refine wpQuiet_nil ?_)
              refine wpMix2_done ?_
              simp only [List.drop_succ_cons, List.drop_nil]
              have hbn := HB3.out
              clear s6 y1 y3 x1 x3 ti tk th HB1 HB2 HB3 HD HBD
              clear HM_128 KB_130 HWAS_131 KAt_134 HNW_135 KS1_136
              have HMB_137 := hid (keep_laid HMB_127.out hbn)
              have HB_138 := hid (HB_129.out.trans (hbn.mono HB_129.out.size))
              have HNC_139 := hid (HNC_132.out.grow hbn)
              have KCb_140 := hid (keep_laid KCb_133.out hbn)
              clear HMB_127 HB_129 HNC_132 KCb_133 hbn
              obtain ⟨m0, m1, m2⟩ := cells3 KCb_140.out
              have HMB_137_o := HMB_137
              obtain ⟨u26_772, hu26_772, a1, a2, a3, a4⟩ := put_mem HMB_137.out (.slice wax Mc.W.length wcx) (.slice lax Mc.L.length lcx) (.bool Mc.F)
              obtain ⟨z0, zf0, z1, zf1, z2, zf2⟩ := fcl3 HMB_137.out
              have E27_772 := hid hu26_772
              have HMB_141 := hid (a1)
              have HB_142 := hid (a3 _ _ (by omega) HB_138.out)
              have HNC_143 := hid (a4 _ _ _ _ _ _ HNC_139.out)
              have KCb_144 := hid (a2 Cb _ (by omega) KCb_140.out)
              clear HMB_137 HB_138 HNC_139 KCb_140 hu26_772 a1 a2 a3 a4
              clear HMB_137_o
              go_wp2
              rw [← E27_772.out]
              go_roundg (gk - 1)
              case measure => have := HK.out; omega
              case rel => exact ⟨k + 1, wax, wcx, lax, lcx, Mc, by have := HK.out; omega, by go_num, hid ⟨HMB_141.out, HNC_143.out, HB_142.out, HWC.out⟩⟩
            · have tcb : (((cb : Nat) : Int) != 0) = true := by simp; omega
              clear hcb HRK
              go_wp2
              go_roundg (gk - 1)
              case measure => have := HK.out; omega
              case rel => exact ⟨k + 1, wak, wck, lak, lck, Mk, by have := HK.out; omega, by go_num, hid ⟨HMB_72.out, HM_73.out, HB_74.out, HQ.out⟩⟩
        · have tc0 : (((code : Nat) : Int) != 0) = true := by simp; omega
          by_cases h120 : code = 120
          · subst h120
            go_wp2
            go_ret
            exact ⟨rfl, HB_23.out⟩
          · obtain rfl : code = 250 := by
              rcases HCO.out with ⟨h, -⟩ | h | h <;> omega
            go_wp2
            go_ret
            exact ⟨rfl, HB_23.out⟩
    · skip
      go_wp2
      go_ret
      exact ⟨rfl, hS.out.below⟩
end Go.Proofs.Ytdkkjcflcegeoaa
