/- Lists: ListLast, the walk (printed by gen_lslast.py). -/
import Derived.Test.YtdkkjcflcegeoaaLsWakes
import Derived.Test.YtdkkjcflcegeoaaLsPlain7
import Derived.Test.YtdkkjcflcegeoaaLsDel
import Derived.Test.YtdkkjcflcegeoaaMemLaw15
namespace Go.Proofs.Ytdkkjcflcegeoaa
open Go.RowKit
open Go.Proofs
set_option linter.unusedVariables false
attribute [local go_sem] Oper.semAt_some
theorem take64_wok {M : Mem} (h : ∀ x ∈ M.W, x < 18446744073709551616) : ∀ x ∈ (take64 M).W, x < 18446744073709551616 := fun x hx => h x (List.mem_of_mem_take hx)
theorem own_ne2 {W : World} {X : Nat} {v : Value} {e e' : TypeId} {size base n : Nat} {xs : List Value} {cur : Array Value} (h : W.ownsRow base e size v n xs) (hX : W.heap[X]? = some (.cells cur e' (0, 0))) (hne : e ≠ e') : v.ownBlock ≠ some X := by
  intro hk
  obtain ⟨c, hc⟩ := own_type h X hk
  exact type_ne hc hX hne rfl
theorem nodesP_code (M : Mem) (head : Nat) : ((nodesP M head).2 = 0 ∧ okM M = true ∧ nodesR M head = some (nodesP M head).1) ∨ (nodesP M head).2 = 120 ∨ (nodesP M head).2 = 250 := by
  cases hok : okM M with
  | false => exact .inr (.inl (by rw [nodesP_bad hok]))
  | true =>
    cases hn : nodesR M head with
    | none => exact .inr (.inr (by rw [nodesP_none hok hn]))
    | some xs => rw [nodesP_some hok hn]; exact .inl ⟨rfl, rfl, rfl⟩
theorem nodesR_facts {M : Mem} {head : Nat} {xs : List Nd} (hW : ∀ x ∈ M.W, x < 18446744073709551616) (hok : okM M = true) (h : nodesR M head = some xs) : xs.length ≤ 1100 ∧ NdsOk xs := by
  refine ⟨by have := nodesW_len hok (nodesR_some h).1; omega, fun t ht => ?_⟩
  exact (nodesP_nodes hW (show (nodesP M head).2 = 0 by rw [nodesP_some hok h]) t (by rw [nodesP_some hok h]; exact ht)).2
/-- Between two rounds. -/
structure Lpq (V : World) (Mb E S : Nat) (head : Nat) (xs ys : List Nd) (fd : Bool) (nd nxt : Nat) (va : Option Addr) (q vc : Nat) (sks : Array Value) (N : Nat) (wak : Option Addr) (wck : Nat) (lak : Option Addr) (lck : Nat) (Mk : Mem) (d : Ede) (W : World) : Prop where
  bm : W.heap[Mb]? = some (.cells #[.slice wak Mk.W.length wck, .slice lak Mk.L.length lck, .bool Mk.F] 25 (0, 0))
  be : W.heap[E]? = some (.cells (ed8 d) 53 (0, 0))
  bs : W.heap[S]? = some (.cells sks 40 (0, 0))
  mem : MemO V.heap.size wak wck lak lck Mk W
  below : Below V.heap.size V W
  was : W.ownsRow V.heap.size 38 4 (.slice va q vc) q (ndcells xs)
  lst : Lst head xs ys (Qend fd nd nxt) N Mk d
/-- Worlds in which two variables lie so. -/
structure RLL (X Y : Nat) (cs cs' : Array Value) where
  w : World
  bx : w.heap[X]? = some (.cells cs 25 (0, 0))
  by_ : w.heap[Y]? = some (.cells cs' 53 (0, 0))
theorem step_ends {head : Nat} {xs ys : List Nd} {fd : Bool} {nd nxt N : Nat} {M : Mem} {s : Ede} (h : Lst head xs ys (Qend fd nd nxt) N M s) : ∃ M2 sq2 zs, seditP M s = (M2, sq2, 0) ∧ okM M2 = true ∧ (∀ x ∈ M2.W, x < 18446744073709551616) ∧ sq2.Ok ∧ nodesR M2 head = some zs ∧ sq2.ph ≠ 7 ∧
    (((s.ph == 5) = true ∧ sq2.ph = 6 ∧ zs = ys ∧ Qend fd nd nxt M2) ∨ ((s.ph == 5) = false ∧ sq2.ph ≠ 6 ∧ zs = xs ∧ ∃ m, N = m + 1 ∧ Lst head xs ys (Qend fd nd nxt) m M2 sq2)) := by
  obtain ⟨ok, wok, sok, p0, p5, hn, n1⟩ := h.facts
  obtain ⟨⟨M2, sq2, b2⟩, hE⟩ : ∃ r, editE M s = r := ⟨_, rfl⟩
  obtain ⟨o2, w2, k2⟩ := edit_ok_set ok wok sok p0 (by omega) hE
  have hse := sedit_in ok p0 (by omega)
  rw [hE] at hse
  by_cases h5 : s.ph = 5
  · obtain ⟨q1, q2, q3⟩ := h.five h5
    rw [hE] at q1 q2 q3
    exact ⟨M2, sq2, ys, hse, o2, w2, k2, q2, by rw [q1]; decide, .inl ⟨by rw [h5]; rfl, q1, rfl, q3⟩⟩
  · obtain ⟨m, hm, q1, q2⟩ := h.less h5
    rw [hE] at q1 q2
    exact ⟨M2, sq2, xs, hse, o2, w2, k2, q2.facts.2.2.2.2.2.1, by dsimp only at q1; omega, .inr ⟨by simpa using h5, by dsimp only at q1; omega, rfl, m, hm, q2⟩⟩
theorem putM4 {V : World} {Y : Nat} {z0 z1 z2 z3 : Value} {T : TypeId} (h : V.heap[Y]? = some (.cells #[z0, z1, z2, z3] T (0, 0))) (v0 v1 v2 v3 : Value) :
    ∃ V', V' = ((((V.setCell ⟨Y, 0, none⟩ v0).setCell ⟨Y, 1, none⟩ v1).setCell ⟨Y, 2, none⟩ v2).setCell ⟨Y, 3, none⟩ v3) ∧ V'.heap[Y]? = some (.cells #[v0, v1, v2, v3] T (0, 0)) ∧ (∀ (k : Nat) (o : Obj), k ≠ Y → V.heap[k]? = some o → V'.heap[k]? = some o) ∧ (∀ (B : Nat) (w : World), B ≤ Y → Below B w V → Below B w V') ∧
      (∀ (base : Nat) (wa : Option Addr) (wc : Nat) (la : Option Addr) (lc : Nat) (M : Mem), 26 ≠ T → 4 ≠ T → MemO base wa wc la lc M V → MemO base wa wc la lc M V') ∧ Tch (fun k => k = Y) V V' := by
  obtain ⟨V0, hV0⟩ : ∃ W, V.setCell ⟨Y, 0, none⟩ v0 = W := ⟨_, rfl⟩
  have h0 : V0.heap[Y]? = some (.cells #[v0, z1, z2, z3] T (0, 0)) := by rw [← hV0]; exact set_laid (i := 0) h v0
  obtain ⟨V1, hV1⟩ : ∃ W, V0.setCell ⟨Y, 1, none⟩ v1 = W := ⟨_, rfl⟩
  have h1 : V1.heap[Y]? = some (.cells #[v0, v1, z2, z3] T (0, 0)) := by rw [← hV1]; exact set_laid (i := 1) h0 v1
  obtain ⟨V2, hV2⟩ : ∃ W, V1.setCell ⟨Y, 2, none⟩ v2 = W := ⟨_, rfl⟩
  have h2 : V2.heap[Y]? = some (.cells #[v0, v1, v2, z3] T (0, 0)) := by rw [← hV2]; exact set_laid (i := 2) h1 v2
  obtain ⟨V3, hV3⟩ : ∃ W, V2.setCell ⟨Y, 3, none⟩ v3 = W := ⟨_, rfl⟩
  have h3 : V3.heap[Y]? = some (.cells #[v0, v1, v2, v3] T (0, 0)) := by rw [← hV3]; exact set_laid (i := 3) h2 v3
  refine ⟨V3, by rw [hV0, hV1, hV2, hV3], h3, fun k o hk ho => ?_, fun B w hB hb => ?_, fun base wa wc la lc M h1' h2' hm => ?_, ?_⟩
  · rw [← hV3, ← hV2, ← hV1, ← hV0]; exact (other_laid (other_laid (other_laid (other_laid ho hk _) hk _) hk _) hk _)
  · rw [← hV3, ← hV2, ← hV1, ← hV0]; exact ((((hb.setCell hB _).setCell hB _).setCell hB _).setCell hB _)
  · have m0 := hm.set h h1' h2' (i := 0) v0
    rw [hV0] at m0
    have m1 := m0.set h0 h1' h2' (i := 1) v1
    rw [hV1] at m1
    have m2 := m1.set h1 h1' h2' (i := 2) v2
    rw [hV2] at m2
    have m3 := m2.set h2 h1' h2' (i := 3) v3
    rw [hV3] at m3
    exact m3
  · rw [← hV3, ← hV2, ← hV1, ← hV0]; exact ((((Tch.set (P := fun k => k = Y) rfl _).trans (Tch.set (P := fun k => k = Y) rfl _)).trans (Tch.set (P := fun k => k = Y) rfl _)).trans (Tch.set (P := fun k => k = Y) rfl _))
set_option maxRecDepth 100000 in
set_option maxHeartbeats 32000000 in
theorem last_walk (M : Mem) (head : Nat) (t : Nd) (wa la : Option Addr) (wc0M lc : Nat) (V : World) (h : MemL V wa wc0M la lc M) (hW : ∀ x ∈ M.W, x < 18446744073709551616) (hh : head < 18446744073709551616) (ht : t.Ok) :
    Calls Try.prog 6 #[memV wa wc0M la lc M, .int .u64 ((head : Nat) : Int), ndV t] V (Ret (.bool true) V) := by
  obtain ⟨p0, p1, p2, p3⟩ := t
  obtain ⟨V1, hV1, hbV1, hsV1, hlV1⟩ := laid V #[.slice wa M.W.length wc0M, .slice la M.L.length lc, .bool M.F] 25
  obtain ⟨V2, hV2, hbV2, hsV2, hlV2⟩ := laid V1 #[.int .u64 ((p0 : Nat) : Int), .int .u64 ((p1 : Nat) : Int), .int .u64 ((p2 : Nat) : Int), .int .u64 ((p3 : Nat) : Int)] 38
  obtain ⟨X, hX⟩ : ∃ X, V.heap.size = X := ⟨_, rfl⟩
  rw [hX] at hlV1
  obtain ⟨B, hB⟩ : ∃ X, V1.heap.size = X := ⟨_, rfl⟩
  rw [hB] at hlV2
  have KX := hid (keep_laid hlV1 hbV2)
  have KB := hid hlV2
  have HB := hid (step hbV1 hbV2)
  have hVX : V.heap.size ≤ X := by omega
  have hVB : V.heap.size ≤ B := by omega
  have nXB : X < B := by omega
  clear hbV1 hsV1 hlV1 hbV2 hsV2 hlV2
  have HWK := hid (take64_wok hW)
  have HPO := hid ht
  have hwl := h.w.len
  have hll := h.l.len
  have HOWN : Hid (∀ W : World, Below V.heap.size V W → Calls Try.prog 9 #[.agg #[.slice wa M.W.length wc0M, .slice la M.L.length lc, .bool M.F]] W (GivesM (take64 M) W)) := hid (fun W hb => lawown_any M wa la wc0M lc W (h.grow hb))
  obtain ⟨Mk, hMz⟩ : ∃ Mk, take64 M = Mk := ⟨_, rfl⟩
  rw [hMz] at HOWN HWK
  unfold memV ndV
  dsimp only
  clear h hW ht hMz
  go_enter Try.func6, Try.ntmps6
  go_wp2_with fail
  refine (wakes_any V2).mono ?_
  rintro e w1_102 ⟨rfl, hbn⟩
  have KX_1 := hid (keep_laid KX.out hbn)
  have KB_2 := hid (keep_laid KB.out hbn)
  have HB_3 := hid (HB.out.trans (hbn.mono HB.out.size))
  clear KX KB HB hbn
  clear hX hB
  obtain ⟨x0, x1, x2⟩ := cells3 KX_1.out
  have hs0 := HB_3.out.size
  go_wp2_with fail
  refine (HOWN.out w1_102 HB_3.out).mono ?_
  rintro e w2_112 ⟨wa0, wc0, la0, lc0, rfl, hO, hbn⟩
  have KX_4 := hid (keep_laid KX_1.out hbn)
  have KB_5 := hid (keep_laid KB_2.out hbn)
  have HB_6 := hid (HB_3.out.trans (hbn.mono HB_3.out.size))
  clear KX_1 KB_2 HB_3 hbn x0 x1 x2
  have HM := hid (hO.base hs0)
  have hwlk := hO.memL.w.len
  have hllk := hO.memL.l.len
  clear hO
  clear KX_4
  obtain ⟨w3_124, hw3_124, hbn, hsn, hln⟩ := laid w2_112 #[.slice none 0 0, .slice none 0 0, .bool false] 25
  obtain ⟨Mb, hNMMb⟩ : ∃ X, w2_112.heap.size = X := ⟨_, rfl⟩
  rw [hNMMb] at hln
  have nBMb : B < Mb := by have := lt_laid KB_5.out; omega
  have hVMb : V.heap.size ≤ Mb := by have := HB_6.out.size; omega
  have KB_7 := hid (keep_laid KB_5.out hbn)
  have HB_8 := hid (HB_6.out.trans (hbn.mono HB_6.out.size))
  have HM_9 := hid (HM.out.grow hbn)
  clear KB_5 HB_6 HM hbn hsn
  have KMb_10 := hid (hln)
  clear hln
  rw [show memV wa0 wc0 la0 lc0 Mk = .agg #[.slice wa0 Mk.W.length wc0, .slice la0 Mk.L.length lc0, .bool Mk.F] from rfl]
  obtain ⟨u4_136, hu4_136, a1, a2, a3, a4⟩ := put_mem KMb_10.out (.slice wa0 Mk.W.length wc0) (.slice la0 Mk.L.length lc0) (.bool Mk.F)
  obtain ⟨z0, zf0, z1, zf1, z2, zf2⟩ := fcl3 KMb_10.out
  have E5_136 := hid hu4_136
  have KB_11 := hid (a2 B _ (by omega) KB_7.out)
  have HB_12 := hid (a3 _ _ (by omega) HB_8.out)
  have HM_13 := hid (a4 _ _ _ _ _ _ HM_9.out)
  have KMb_14 := hid (a1)
  clear KB_7 HB_8 HM_9 KMb_10 hu4_136 a1 a2 a3 a4
  go_upto_region 4 with (fail)
  rw [← E5_136.out]
  clear z0 z1 z2 zf0 zf1 zf2 hNMMb
  clear HOWN hs0
  obtain ⟨m0, m1, m2⟩ := cells3 KMb_14.out
  have HNO := hid (Nodes_any Mk wa0 la0 wc0 lc0 head u4_136 HM_13.out.memL hh HWK.out)
  unfold memV GivesNd at HNO
  have hcode := nodesP_code Mk head
  obtain ⟨⟨xs, code⟩, hN⟩ : ∃ r, nodesP Mk head = r := ⟨_, rfl⟩
  rw [hN] at HNO hcode
  dsimp only at HNO hcode
  have HCO := hid hcode
  clear hcode hN
  obtain ⟨q, hq⟩ : ∃ q, xs.length = q := ⟨_, rfl⟩
  have HXL := hid hq
  rw [hq] at HNO
  clear hq
  have hVu := HB_12.out.size
  go_wp2_with fail
  refine (HNO.out).mono ?_
  rintro e w6_162 ⟨vw, rfl, hro, hbn⟩
  clear m0 m1 m2 HNO
  have KB_15 := hid (keep_laid KB_11.out hbn)
  have HB_16 := hid (HB_12.out.trans (hbn.mono HB_12.out.size))
  have HM_17 := hid (HM_13.out.grow hbn)
  have KMb_18 := hid (keep_laid KMb_14.out hbn)
  clear KB_11 HB_12 HM_13 KMb_14 hbn
  obtain ⟨va, vc, rfl, hlx⟩ := Leads.of_own hro
  have hxl := hlx.len
  have HWAS := hid (row_base hro hVu)
  clear hro hlx hVu
  by_cases hc0 : code = 0
  · skip
    obtain ⟨hok, hns⟩ : okM Mk = true ∧ nodesR Mk head = some xs := by
      rcases HCO.out with ⟨-, h1, h2⟩ | h | h
      · exact ⟨h1, h2⟩
      · omega
      · omega
    subst hc0
    have hq11 : q ≤ 1100 := by have := (nodesR_facts HWK.out hok hns).1; have := HXL.out; omega
    have HND := hid (nodesR_facts HWK.out hok hns).2
    have hLP := last_put (t := (p0, p1, p2, p3)) 0 hok HWK.out hh HPO.out hns
    have hLC := last_cut hok HWK.out hh HPO.out.2.2.2 HPO.out.2.1 hns
    have hSK := sk_ok_of hok HWK.out hh HPO.out.2.2.2 HPO.out.2.1 hns
    dsimp only at hLP
    have HFI := hid (Find_any Mk wa0 la0 wc0 lc0 head p3 p1 w6_162 HM_17.out.memL HWK.out hh HPO.out.2.2.2 HPO.out.2.1)
    rw [findP_some hok hns] at HFI
    have HIN := hid (fun (W : World) (hm : MemL W wa0 wc0 la0 lc0 Mk) => Insert_any Mk wa0 la0 wc0 lc0 head (p0, p1, p2, p3) W hm HWK.out hh HPO.out)
    obtain ⟨⟨so, sn⟩, hF⟩ : ∃ r, findS p3 p1 head xs = r := ⟨_, rfl⟩
    rw [hF] at HFI hLP hLC hSK
    obtain ⟨sph, shash, skey, slink, snode, sval, sfound⟩ := so
    dsimp only at hLP hLC hSK HFI
    unfold memV skV at HFI
    dsimp only at HFI
    obtain ⟨⟨Ma, sa, ca⟩, hRa⟩ : ∃ R, insP Mk head (p0, p1, p2, p3) = R := ⟨_, rfl⟩
    rw [hRa] at hLP HIN
    unfold GivesI memV ndV at HIN
    dsimp only at HIN hLP
    have HLP := hid hLP
    have HLC := hid hLC
    have HSK := hid hSK
    clear hok hns HCO hF hRa hLP hLC hSK
    obtain ⟨m0, m1, m2⟩ := cells3 KMb_18.out
    obtain ⟨y0, y1, y2, y3⟩ := ncl4 KB_15.out
    go_wp2_with fail
    refine (HFI.out).mono ?_
    rintro e w7_208 ⟨rfl, hbn⟩
    have KB_19 := hid (keep_laid KB_15.out hbn)
    have HB_20 := hid (HB_16.out.trans (hbn.mono HB_16.out.size))
    have HM_21 := hid (HM_17.out.grow hbn)
    have KMb_22 := hid (keep_laid KMb_18.out hbn)
    have HWAS_23 := hid (own_grow HWAS.out hbn)
    clear KB_15 HB_16 HM_17 KMb_18 HWAS hbn HFI m0 m1 m2 y0 y1 y2 y3
    obtain ⟨w8_217, hw8_217, hbn, hsn, hln⟩ := laid w7_208 #[.int .i64 0, .int .u64 0, .int .u64 0, .int .u64 0, .int .u64 0, .int .u64 0, .bool false] 40
    obtain ⟨S1, hNMS1⟩ : ∃ X, w7_208.heap.size = X := ⟨_, rfl⟩
    rw [hNMS1] at hln
    have nBS1 : B < S1 := by have := lt_laid KB_19.out; omega
    have nMbS1 : Mb < S1 := by have := lt_laid KMb_22.out; omega
    have hVS1 : V.heap.size ≤ S1 := by have := HB_20.out.size; omega
    have KB_24 := hid (keep_laid KB_19.out hbn)
    have HB_25 := hid (HB_20.out.trans (hbn.mono HB_20.out.size))
    have HM_26 := hid (HM_21.out.grow hbn)
    have KMb_27 := hid (keep_laid KMb_22.out hbn)
    have HWAS_28 := hid (own_grow HWAS_23.out hbn)
    clear KB_19 HB_20 HM_21 KMb_22 HWAS_23 hbn hsn
    have KS1_29 := hid (hln)
    clear hln
    have KS1_29_o := KS1_29
    obtain ⟨u9_232, hu9_232, a1, a2, a3, a4, a5⟩ := putM7 KS1_29.out (.int .i64 sph) (.int .u64 ((shash : Nat) : Int)) (.int .u64 ((skey : Nat) : Int)) (.int .u64 ((slink : Nat) : Int)) (.int .u64 ((snode : Nat) : Int)) (.int .u64 ((sval : Nat) : Int)) (.bool sfound)
    obtain ⟨z0, zf0, z1, zf1, z2, zf2, z3, zf3, z4, zf4, z5, zf5, z6, zf6⟩ := fcl7 KS1_29.out
    have E10_232 := hid hu9_232
    have KB_30 := hid (a2 B _ (by omega) KB_24.out)
    have HB_31 := hid (a3 _ _ (by omega) HB_25.out)
    have HM_32 := hid (a4 _ _ _ _ _ _ (by decide) (by decide) HM_26.out)
    have KMb_33 := hid (a2 Mb _ (by omega) KMb_27.out)
    have HWAS_34 := hid (own_keep HWAS_28.out fun k o hk ho => a2 k o (fun e => own_ne2 HWAS_28.out KS1_29_o.out (by decide) (by rw [← e]; exact hk)) ho)
    have KS1_35 := hid (a1)
    clear KB_24 HB_25 HM_26 KMb_27 HWAS_28 KS1_29 hu9_232 a1 a2 a3 a4 a5
    clear KS1_29_o
    go_upto_region 8 with (fail)
    rw [← E10_232.out]
    clear z0 z1 z2 z3 z4 z5 z6 zf0 zf1 zf2 zf3 zf4 zf5 zf6 hNMS1
    obtain ⟨m0, m1, m2⟩ := cells3 KMb_33.out
    obtain ⟨y0, y1, y2, y3⟩ := ncl4 KB_30.out
    go_wp2_with fail
    refine (HIN.out u9_232 HM_32.out.memL).mono ?_
    rintro e w5 ⟨waw, wcw, law, lcw, rfl, hO, hbn⟩
    have haw := hO.memL.w.len
    have hal := hO.memL.l.len
    clear hO
    have KB_36 := hid (keep_laid KB_30.out hbn)
    have HB_37 := hid (HB_31.out.trans (hbn.mono HB_31.out.size))
    have HM_38 := hid (HM_32.out.grow hbn)
    have KMb_39 := hid (keep_laid KMb_33.out hbn)
    have HWAS_40 := hid (own_grow HWAS_34.out hbn)
    have KS1_41 := hid (keep_laid KS1_35.out hbn)
    clear KB_30 HB_31 HM_32 KMb_33 HWAS_34 KS1_35 hbn HIN m0 m1 m2 y0 y1 y2 y3
    obtain ⟨w11_261, hw11_261, hbn, hsn, hln⟩ := laid w5 #[.slice none 0 0, .slice none 0 0, .bool false] 25
    obtain ⟨A, hNMA⟩ : ∃ X, w5.heap.size = X := ⟨_, rfl⟩
    rw [hNMA] at hln
    have nBA : B < A := by have := lt_laid KB_36.out; omega
    have nMbA : Mb < A := by have := lt_laid KMb_39.out; omega
    have nS1A : S1 < A := by have := lt_laid KS1_41.out; omega
    have hVA : V.heap.size ≤ A := by have := HB_37.out.size; omega
    have KB_42 := hid (keep_laid KB_36.out hbn)
    have HB_43 := hid (HB_37.out.trans (hbn.mono HB_37.out.size))
    have HM_44 := hid (HM_38.out.grow hbn)
    have KMb_45 := hid (keep_laid KMb_39.out hbn)
    have HWAS_46 := hid (own_grow HWAS_40.out hbn)
    have KS1_47 := hid (keep_laid KS1_41.out hbn)
    clear KB_36 HB_37 HM_38 KMb_39 HWAS_40 KS1_41 hbn hsn
    have KA_48 := hid (hln)
    clear hln
    have KA_48_o := KA_48
    obtain ⟨u12_278, hu12_278, a1, a2, a3, a4⟩ := put_mem KA_48.out (.slice waw Ma.W.length wcw) (.slice law Ma.L.length lcw) (.bool Ma.F)
    obtain ⟨z0, zf0, z1, zf1, z2, zf2⟩ := fcl3 KA_48.out
    have E13_278 := hid hu12_278
    have KB_49 := hid (a2 B _ (by omega) KB_42.out)
    have HB_50 := hid (a3 _ _ (by omega) HB_43.out)
    have HM_51 := hid (a4 _ _ _ _ _ _ HM_44.out)
    have KMb_52 := hid (a2 Mb _ (by omega) KMb_45.out)
    have HWAS_53 := hid (own_keep HWAS_46.out fun k o hk ho => a2 k o (fun e => own_ne2 HWAS_46.out KA_48_o.out (by decide) (by rw [← e]; exact hk)) ho)
    have KS1_54 := hid (a2 S1 _ (by omega) KS1_47.out)
    have KA_55 := hid (a1)
    clear KB_42 HB_43 HM_44 KMb_45 HWAS_46 KS1_47 KA_48 hu12_278 a1 a2 a3 a4
    clear KA_48_o
    go_upto_region 9 with (fail)
    rw [← E13_278.out]
    clear z0 z1 z2 zf0 zf1 zf2 hNMA
    obtain ⟨s0, s1, s2, s3, s4, s5, s6⟩ := ncl7 KS1_54.out
    by_cases hno : sfound = false ∧ ca ≠ 0
    · obtain ⟨rfl, hca⟩ := hno
      have tca : (((ca : Nat) : Int) != 0) = true := by simp; omega
      go_wp2
      go_ret
      exact ⟨rfl, HB_50.out⟩
    · skip
      have tdo : sfound = true ∨ (sfound = false ∧ ca = 0) := by
        cases sfound with
        | true => exact .inl rfl
        | false => exact .inr ⟨rfl, Classical.byContradiction fun h => hno ⟨rfl, h⟩⟩
      clear hno
      have HDO := hid tdo
      clear tdo
      clear KA_55
      cases sfound with
      | false =>
        have hcz : ca = 0 := by
          rcases HDO.out with h | h
          · cases h
          · exact h.2
        subst hcz
        obtain ⟨y0, y1, y2, y3⟩ := ncl4 KB_49.out
        have HPU := hid (Put_any slink snode (p0, p1, p2, p3) u12_278)
        unfold edV ndV putK at HPU
        dsimp only at HPU
        go_wp2_with fail
        refine (HPU.out).mono ?_
        rintro e w14_323 ⟨rfl, hbn⟩
        have KB_56 := hid (keep_laid KB_49.out hbn)
        have HB_57 := hid (HB_50.out.trans (hbn.mono HB_50.out.size))
        have HM_58 := hid (HM_51.out.grow hbn)
        have KMb_59 := hid (keep_laid KMb_52.out hbn)
        have HWAS_60 := hid (own_grow HWAS_53.out hbn)
        have KS1_61 := hid (keep_laid KS1_54.out hbn)
        clear KB_49 HB_50 HM_51 KMb_52 HWAS_53 KS1_54 hbn HPU s0 s1 s2 s3 s4 s5 s6 y0 y1 y2 y3
        obtain ⟨w15_333, hw15_333, hbn, hsn, hln⟩ := laid w14_323 #[.int .i64 0, .bool false, .int .u64 0, .int .u64 0, .int .u64 0, .int .u64 0, .int .u64 0, .int .u64 0] 53
        obtain ⟨E, hNME⟩ : ∃ X, w14_323.heap.size = X := ⟨_, rfl⟩
        rw [hNME] at hln
        have nBE : B < E := by have := lt_laid KB_56.out; omega
        have nMbE : Mb < E := by have := lt_laid KMb_59.out; omega
        have nS1E : S1 < E := by have := lt_laid KS1_61.out; omega
        have hVE : V.heap.size ≤ E := by have := HB_57.out.size; omega
        have KB_62 := hid (keep_laid KB_56.out hbn)
        have HB_63 := hid (HB_57.out.trans (hbn.mono HB_57.out.size))
        have HM_64 := hid (HM_58.out.grow hbn)
        have KMb_65 := hid (keep_laid KMb_59.out hbn)
        have HWAS_66 := hid (own_grow HWAS_60.out hbn)
        have KS1_67 := hid (keep_laid KS1_61.out hbn)
        clear KB_56 HB_57 HM_58 KMb_59 HWAS_60 KS1_61 hbn hsn
        have KE_68 := hid (hln)
        clear hln
        have KE_68_o := KE_68
        obtain ⟨u16_350, hu16_350, a1, a2, a3, a4, a5⟩ := putM8 KE_68.out (.int .i64 0) (.bool false) (.int .u64 ((slink : Nat) : Int)) (.int .u64 ((p0 : Nat) : Int)) (.int .u64 ((p1 : Nat) : Int)) (.int .u64 ((p2 : Nat) : Int)) (.int .u64 ((p3 : Nat) : Int)) (.int .u64 ((snode : Nat) : Int))
        obtain ⟨z0, zf0, z1, zf1, z2, zf2, z3, zf3, z4, zf4, z5, zf5, z6, zf6, z7, zf7⟩ := fcl8 KE_68.out
        have E17_350 := hid hu16_350
        have KB_69 := hid (a2 B _ (by omega) KB_62.out)
        have HB_70 := hid (a3 _ _ (by omega) HB_63.out)
        have HM_71 := hid (a4 _ _ _ _ _ _ (by decide) (by decide) HM_64.out)
        have KMb_72 := hid (a2 Mb _ (by omega) KMb_65.out)
        have HWAS_73 := hid (own_keep HWAS_66.out fun k o hk ho => a2 k o (fun e => own_ne2 HWAS_66.out KE_68_o.out (by decide) (by rw [← e]; exact hk)) ho)
        have KS1_74 := hid (a2 S1 _ (by omega) KS1_67.out)
        have KE_75 := hid (a1)
        clear KB_62 HB_63 HM_64 KMb_65 HWAS_66 KS1_67 KE_68 hu16_350 a1 a2 a3 a4 a5
        clear KE_68_o
        go_upto_region 12 with (fail)
        rw [← E17_350.out]
        clear z0 z1 z2 z3 z4 z5 z6 z7 zf0 zf1 zf2 zf3 zf4 zf5 zf6 zf7 hNME
        obtain ⟨s0, s1, s2, s3, s4, s5, s6⟩ := ncl7 KS1_74.out
        obtain ⟨ys, hlst, hne⟩ := HLP.out (by simp) (by simp)
        have HLS := hid hlst
        have HNE := hid hne
        clear hlst hne HLP HLC HDO
        have HS6 : Hid (Lpq V Mb E S1 head xs ys false snode 0 va q vc #[.int .i64 sph, .int .u64 ((shash : Nat) : Int), .int .u64 ((skey : Nat) : Int), .int .u64 ((slink : Nat) : Int), .int .u64 ((snode : Nat) : Int), .int .u64 ((sval : Nat) : Int), .bool false] 5 wa0 wc0 la0 lc0 Mk (putK slink (p0, p1, p2, p3) snode) u16_350) := hid ⟨KMb_72.out, KE_75.out, KS1_74.out, HM_71.out, HB_70.out, HWAS_73.out, HLS.out⟩
        have HVM := hid (show V.heap.size ≤ Mb ∧ V.heap.size ≤ E ∧ V.heap.size ≤ S1 from ⟨by omega, by omega, by omega⟩)
        have HNM := hid (show Mb ≠ E ∧ Mb ≠ S1 ∧ E ≠ S1 from ⟨by omega, by omega, by omega⟩)
        clear KB_69 HB_70 HM_71 KMb_72 HWAS_73 KS1_74 KE_75
        clear HLS HWK HPO hwlk hllk
        go_wp2
        go_loopg [82] 8 (fun g t82 wr => ∃ (i N : Nat) (wak : Option Addr) (wck : Nat) (lak : Option Addr) (lck : Nat) (Mk : Mem) (d : Ede), g + i = 8 ∧ t82 = .int .i64 ((i : Nat) : Int) ∧ Hid (Lpq V Mb E S1 head xs ys false snode 0 va q vc #[.int .i64 sph, .int .u64 ((shash : Nat) : Int), .int .u64 ((skey : Nat) : Int), .int .u64 ((slink : Nat) : Int), .int .u64 ((snode : Nat) : Int), .int .u64 ((sval : Nat) : Int), .bool false] N wak wck lak lck Mk d wr) ∧ N + i ≤ 8)
        case atStart => exact ⟨0, _, _, _, _, _, _, _, rfl, rfl, HS6, by decide⟩
        case round =>
          clear HS6
          obtain ⟨i, N, wak, wck, lak, lck, Mq, d, hk, rfl, hS, hNi⟩ := hrel
          have HK := hid hk
          have HNI := hid hNi
          obtain ⟨ok, wok, sok, p0', p5', hn', n1⟩ := hS.out.lst.facts
          have hi8 : i < 8 := by omega
          clear hk hNi
          obtain ⟨M2, d2, zs, hse, o2, w2, k2, hzs, hn7, hcase⟩ := step_ends hS.out.lst
          have HCA := hid hcase
          have HMB := hid hS.out.bm
          have KE := hid hS.out.be
          have KS := hid hS.out.bs
          have HM := hid hS.out.mem
          have HB := hid hS.out.below
          have HWAS := hid hS.out.was
          obtain ⟨hVMb, hVE, hVS⟩ := HVM.out
          obtain ⟨hme, hms, hes⟩ := HNM.out
          have HSE := hid (StepEdit_any Mq d wak lak wck lck wr hS.out.mem.memL sok)
          rw [hse] at HSE
          unfold GivesStepEdit memV edV at HSE
          dsimp only at HSE
          have hwlq := hS.out.mem.memL.w.len
          have hllq := hS.out.mem.memL.l.len
          have HO2 := hid (show okM M2 = true ∧ (∀ x ∈ M2.W, x < 18446744073709551616) ∧ d2.Ok ∧ nodesR M2 head = some zs from ⟨o2, w2, k2, hzs⟩)
          have t7 : (d2.ph == 7) = false := by simpa using hn7
          obtain ⟨B5, hB5⟩ : ∃ b, (d.ph == 5) = b := ⟨_, rfl⟩
          rw [hB5] at HCA
          clear hS hcase hse o2 w2 k2 hzs hn7 ok wok p0' p5' hn' n1 sok
          obtain ⟨m0, m1, m2⟩ := cells3 HMB.out
          obtain ⟨e0, e1, e2, e3, e4, e5, e6, e7⟩ := ncl8 KE.out
          have hVr := HB.out.size
          go_wp2_with fail
          refine (HSE.out).mono ?_
          rintro e w18_410 ⟨wan, wcn, lan, lcn, rfl, hO, hbn⟩
          have HMB_76 := hid (keep_laid HMB.out hbn)
          have KE_77 := hid (keep_laid KE.out hbn)
          have KS_78 := hid (keep_laid KS.out hbn)
          have HM_79 := hid (HM.out.grow hbn)
          have HB_80 := hid (HB.out.trans (hbn.mono HB.out.size))
          have HWAS_81 := hid (own_grow HWAS.out hbn)
          clear HMB KE KS HM HB HWAS hbn HSE m0 m1 m2 e0 e1 e2 e3 e4 e5 e6 e7
          dsimp only at hO ⊢
          have HMN := hid (hO.base hVr)
          have haw := hO.memL.w.len
          have hal := hO.memL.l.len
          clear hO hVr
          clear HM_79
          obtain ⟨w19_426, hw19_426, hbn, hsn, hln⟩ := laid w18_410 #[.slice none 0 0, .slice none 0 0, .bool false] 25
          obtain ⟨P17, hNMP17⟩ : ∃ X, w18_410.heap.size = X := ⟨_, rfl⟩
          rw [hNMP17] at hln
          have nMbP17 : Mb < P17 := by have := lt_laid HMB_76.out; omega
          have nEP17 : E < P17 := by have := lt_laid KE_77.out; omega
          have nS1P17 : S1 < P17 := by have := lt_laid KS_78.out; omega
          have hVP17 : V.heap.size ≤ P17 := by have := HB_80.out.size; omega
          have HMB_82 := hid (keep_laid HMB_76.out hbn)
          have KE_83 := hid (keep_laid KE_77.out hbn)
          have KS_84 := hid (keep_laid KS_78.out hbn)
          have HB_85 := hid (HB_80.out.trans (hbn.mono HB_80.out.size))
          have HWAS_86 := hid (own_grow HWAS_81.out hbn)
          have HMN_87 := hid (HMN.out.grow hbn)
          clear HMB_76 KE_77 KS_78 HB_80 HWAS_81 HMN hbn hsn
          have KP17_88 := hid (hln)
          clear hln
          obtain ⟨w20_442, hw20_442, hbn, hsn, hln⟩ := laid w19_426 #[.int .i64 0, .bool false, .int .u64 0, .int .u64 0, .int .u64 0, .int .u64 0, .int .u64 0, .int .u64 0] 53
          obtain ⟨P18, hNMP18⟩ : ∃ X, w19_426.heap.size = X := ⟨_, rfl⟩
          rw [hNMP18] at hln
          have nMbP18 : Mb < P18 := by have := lt_laid HMB_82.out; omega
          have nEP18 : E < P18 := by have := lt_laid KE_83.out; omega
          have nS1P18 : S1 < P18 := by have := lt_laid KS_84.out; omega
          have nP17P18 : P17 < P18 := by have := lt_laid KP17_88.out; omega
          have hVP18 : V.heap.size ≤ P18 := by have := HB_85.out.size; omega
          have HMB_89 := hid (keep_laid HMB_82.out hbn)
          have KE_90 := hid (keep_laid KE_83.out hbn)
          have KS_91 := hid (keep_laid KS_84.out hbn)
          have HB_92 := hid (HB_85.out.trans (hbn.mono HB_85.out.size))
          have HWAS_93 := hid (own_grow HWAS_86.out hbn)
          have HMN_94 := hid (HMN_87.out.grow hbn)
          have KP17_95 := hid (keep_laid KP17_88.out hbn)
          clear HMB_82 KE_83 KS_84 HB_85 HWAS_86 HMN_87 KP17_88 hbn hsn
          have KP18_96 := hid (hln)
          clear hln
          obtain ⟨g0, gf0, g1, gf1, g2, gf2, g3, gf3, g4, gf4, g5, gf5, g6, gf6, g7, gf7⟩ := fcl8 KP18_96.out
          have KP17_95_o := KP17_95
          obtain ⟨u21_462, hu21_462, a1, a2, a3, a4⟩ := put_mem KP17_95.out (.slice wan M2.W.length wcn) (.slice lan M2.L.length lcn) (.bool M2.F)
          obtain ⟨z0, zf0, z1, zf1, z2, zf2⟩ := fcl3 KP17_95.out
          have E22_462 := hid hu21_462
          have HMB_97 := hid (a2 Mb _ (by omega) HMB_89.out)
          have KE_98 := hid (a2 E _ (by omega) KE_90.out)
          have KS_99 := hid (a2 S1 _ (by omega) KS_91.out)
          have HB_100 := hid (a3 _ _ (by omega) HB_92.out)
          have HWAS_101 := hid (own_keep HWAS_93.out fun k o hk ho => a2 k o (fun e => own_ne2 HWAS_93.out KP17_95_o.out (by decide) (by rw [← e]; exact hk)) ho)
          have HMN_102 := hid (a4 _ _ _ _ _ _ HMN_94.out)
          have KP17_103 := hid (a1)
          have KP18_104 := hid (a2 P18 _ (by omega) KP18_96.out)
          clear HMB_89 KE_90 KS_91 HB_92 HWAS_93 HMN_94 KP17_95 KP18_96 hu21_462 a1 a2 a3 a4
          clear KP17_95_o
          have KP18_104_o := KP18_104
          obtain ⟨u23_476, hu23_476, a1, a2, a3, a4, a5⟩ := putM8 KP18_104.out (.int .i64 d2.ph) (.bool d2.cuts) (.int .u64 ((d2.link : Nat) : Int)) (.int .u64 ((d2.at_ : Nat) : Int)) (.int .u64 ((d2.key : Nat) : Int)) (.int .u64 ((d2.val : Nat) : Int)) (.int .u64 ((d2.hash : Nat) : Int)) (.int .u64 ((d2.next : Nat) : Int))
          have E24_476 := hid hu23_476
          have HMB_105 := hid (a2 Mb _ (by omega) HMB_97.out)
          have KE_106 := hid (a2 E _ (by omega) KE_98.out)
          have KS_107 := hid (a2 S1 _ (by omega) KS_99.out)
          have HB_108 := hid (a3 _ _ (by omega) HB_100.out)
          have HWAS_109 := hid (own_keep HWAS_101.out fun k o hk ho => a2 k o (fun e => own_ne2 HWAS_101.out KP18_104_o.out (by decide) (by rw [← e]; exact hk)) ho)
          have HMN_110 := hid (a4 _ _ _ _ _ _ (by decide) (by decide) HMN_102.out)
          have KP17_111 := hid (a2 P17 _ (by omega) KP17_103.out)
          have KP18_112 := hid (a1)
          clear HMB_97 KE_98 KS_99 HB_100 HWAS_101 HMN_102 KP17_103 KP18_104 hu23_476 a1 a2 a3 a4 a5
          clear KP18_104_o
          go_upto_region 18 with (fail)
          rw [← E22_462.out, ← E24_476.out]
          clear z0 z1 z2 zf0 zf1 zf2 g0 g1 g2 g3 g4 g5 g6 g7 gf0 gf1 gf2 gf3 gf4 gf5 gf6 gf7 hNMP17 hNMP18
          obtain ⟨e0, e1, e2, e3, e4, e5, e6, e7⟩ := ncl8 KP18_112.out
          obtain ⟨m0, m1, m2⟩ := cells3 KP17_111.out
          have HNO := hid (Nodes_any M2 wan lan wcn lcn head u23_476 HMN_110.out.memL hh HO2.out.2.1)
          rw [nodesP_some HO2.out.1 HO2.out.2.2.2] at HNO
          unfold memV GivesNd at HNO
          dsimp only at HNO
          obtain ⟨qz, hqz⟩ : ∃ x, zs.length = x := ⟨_, rfl⟩
          rw [hqz] at HNO
          have HZL := hid hqz
          have hfz := nodesR_facts HO2.out.2.1 HO2.out.1 HO2.out.2.2.2
          have HFZ := hid hfz
          clear hqz hfz
          go_wp2_with fail
          refine (HNO.out).mono ?_
          rintro e w25_503 ⟨vw, rfl, hro, hbn⟩
          clear HNO m0 m1 m2 e0 e1 e2 e3 e4 e5 e6 e7
          have HMB_113 := hid (keep_laid HMB_105.out hbn)
          have KE_114 := hid (keep_laid KE_106.out hbn)
          have KS_115 := hid (keep_laid KS_107.out hbn)
          have HB_116 := hid (HB_108.out.trans (hbn.mono HB_108.out.size))
          have HWAS_117 := hid (own_grow HWAS_109.out hbn)
          have HMN_118 := hid (HMN_110.out.grow hbn)
          have KP17_119 := hid (keep_laid KP17_111.out hbn)
          have KP18_120 := hid (keep_laid KP18_112.out hbn)
          clear HMB_105 KE_106 KS_107 HB_108 HWAS_109 HMN_110 KP17_111 KP18_112 hbn
          obtain ⟨vx, vy, rfl, hlx⟩ := Leads.of_own hro
          have hxl2 := hlx.len
          have HEQ := hid (EqN_any zs xs vx va qz q vy vc w25_503 HZL.out HXL.out HFZ.out.2 HND.out hlx (Leads.of_own1 HWAS_117.out))
          clear hro hlx
          have HBE : Hid (decide (zs = xs) = !B5) := hid (by
            rcases HCA.out with ⟨h1, -, h2, -⟩ | ⟨h1, -, h2, -⟩
            · rw [h1, h2]; exact decide_eq_false HNE.out
            · rw [h1, h2]; exact decide_eq_true rfl)
          rw [HBE.out] at HEQ
          clear HBE
          cases B5 with
          | true =>
            obtain ⟨h6, hzy, hqe⟩ : d2.ph = 6 ∧ zs = ys ∧ Qend false snode 0 M2 := by
              rcases HCA.out with ⟨-, h1, h2, h3⟩ | ⟨h1, -⟩
              · exact ⟨h1, h2, h3⟩
              · cases h1
            have t6 : (d2.ph == 6) = true := by rw [h6]; rfl
            have t6n : (d2.ph != 6) = false := by rw [h6]; rfl
            have HQE := hid hqe
            clear HCA h6 hzy hqe
            go_wp2_with fail
            refine (HEQ.out).mono ?_
            rintro e w26_536 ⟨rfl, hbn⟩
            have HMB_121 := hid (keep_laid HMB_113.out hbn)
            have KE_122 := hid (keep_laid KE_114.out hbn)
            have KS_123 := hid (keep_laid KS_115.out hbn)
            have HB_124 := hid (HB_116.out.trans (hbn.mono HB_116.out.size))
            have HWAS_125 := hid (own_grow HWAS_117.out hbn)
            have HMN_126 := hid (HMN_118.out.grow hbn)
            have KP17_127 := hid (keep_laid KP17_119.out hbn)
            have KP18_128 := hid (keep_laid KP18_120.out hbn)
            clear HMB_113 KE_114 KS_115 HB_116 HWAS_117 HMN_118 KP17_119 KP18_120 hbn HEQ t7
            go_upto_region 23 with (fail)
            obtain ⟨D27_549, hD⟩ : ∃ DX, w26_536.drew = DX := ⟨_, rfl⟩
            have hbD : Below w26_536.heap.size w26_536 D27_549 := by rw [← hD]; exact (Below.refl _ _).drew
            have HD := hid hD
            clear hD
            have HMB_129 := hid (keep_laid HMB_121.out hbD)
            have KE_130 := hid (keep_laid KE_122.out hbD)
            have KS_131 := hid (keep_laid KS_123.out hbD)
            have HB_132 := hid (HB_124.out.trans (hbD.mono HB_124.out.size))
            have HWAS_133 := hid (own_grow HWAS_125.out hbD)
            have HMN_134 := hid (HMN_126.out.grow hbD)
            have KP17_135 := hid (keep_laid KP17_127.out hbD)
            have KP18_136 := hid (keep_laid KP18_128.out hbD)
            clear HMB_121 KE_122 KS_123 HB_124 HWAS_125 HMN_126 KP17_127 KP18_128 hbD
            haveI : Nonempty (RLL P17 P18 #[.slice wan M2.W.length wcn, .slice lan M2.L.length lcn, .bool M2.F] #[.int .i64 d2.ph, .bool d2.cuts, .int .u64 ((d2.link : Nat) : Int), .int .u64 ((d2.at_ : Nat) : Int), .int .u64 ((d2.key : Nat) : Int), .int .u64 ((d2.val : Nat) : Int), .int .u64 ((d2.hash : Nat) : Int), .int .u64 ((d2.next : Nat) : Int)]) := ⟨⟨D27_549, KP17_135.out, KP18_136.out⟩⟩
            have r0 : ∀ z : RLL P17 P18 #[.slice wan M2.W.length wcn, .slice lan M2.L.length lcn, .bool M2.F] #[.int .i64 d2.ph, .bool d2.cuts, .int .u64 ((d2.link : Nat) : Int), .int .u64 ((d2.at_ : Nat) : Int), .int .u64 ((d2.key : Nat) : Int), .int .u64 ((d2.val : Nat) : Int), .int .u64 ((d2.hash : Nat) : Int), .int .u64 ((d2.next : Nat) : Int)], z.w.cell? ⟨P17, 0, none⟩ = some (.slice wan M2.W.length wcn) := fun z => cell_laid z.bx rfl
            have r1 : ∀ z : RLL P17 P18 #[.slice wan M2.W.length wcn, .slice lan M2.L.length lcn, .bool M2.F] #[.int .i64 d2.ph, .bool d2.cuts, .int .u64 ((d2.link : Nat) : Int), .int .u64 ((d2.at_ : Nat) : Int), .int .u64 ((d2.key : Nat) : Int), .int .u64 ((d2.val : Nat) : Int), .int .u64 ((d2.hash : Nat) : Int), .int .u64 ((d2.next : Nat) : Int)], z.w.cell? ⟨P17, 1, none⟩ = some (.slice lan M2.L.length lcn) := fun z => cell_laid z.bx rfl
            have r2 : ∀ z : RLL P17 P18 #[.slice wan M2.W.length wcn, .slice lan M2.L.length lcn, .bool M2.F] #[.int .i64 d2.ph, .bool d2.cuts, .int .u64 ((d2.link : Nat) : Int), .int .u64 ((d2.at_ : Nat) : Int), .int .u64 ((d2.key : Nat) : Int), .int .u64 ((d2.val : Nat) : Int), .int .u64 ((d2.hash : Nat) : Int), .int .u64 ((d2.next : Nat) : Int)], z.w.cell? ⟨P17, 2, none⟩ = some (.bool M2.F) := fun z => cell_laid z.bx rfl
            have q0 : ∀ z : RLL P17 P18 #[.slice wan M2.W.length wcn, .slice lan M2.L.length lcn, .bool M2.F] #[.int .i64 d2.ph, .bool d2.cuts, .int .u64 ((d2.link : Nat) : Int), .int .u64 ((d2.at_ : Nat) : Int), .int .u64 ((d2.key : Nat) : Int), .int .u64 ((d2.val : Nat) : Int), .int .u64 ((d2.hash : Nat) : Int), .int .u64 ((d2.next : Nat) : Int)], z.w.cell? ⟨P18, 0, none⟩ = some (.int .i64 d2.ph) := fun z => cell_laid z.by_ rfl
            have q1 : ∀ z : RLL P17 P18 #[.slice wan M2.W.length wcn, .slice lan M2.L.length lcn, .bool M2.F] #[.int .i64 d2.ph, .bool d2.cuts, .int .u64 ((d2.link : Nat) : Int), .int .u64 ((d2.at_ : Nat) : Int), .int .u64 ((d2.key : Nat) : Int), .int .u64 ((d2.val : Nat) : Int), .int .u64 ((d2.hash : Nat) : Int), .int .u64 ((d2.next : Nat) : Int)], z.w.cell? ⟨P18, 1, none⟩ = some (.bool d2.cuts) := fun z => cell_laid z.by_ rfl
            have q2 : ∀ z : RLL P17 P18 #[.slice wan M2.W.length wcn, .slice lan M2.L.length lcn, .bool M2.F] #[.int .i64 d2.ph, .bool d2.cuts, .int .u64 ((d2.link : Nat) : Int), .int .u64 ((d2.at_ : Nat) : Int), .int .u64 ((d2.key : Nat) : Int), .int .u64 ((d2.val : Nat) : Int), .int .u64 ((d2.hash : Nat) : Int), .int .u64 ((d2.next : Nat) : Int)], z.w.cell? ⟨P18, 2, none⟩ = some (.int .u64 ((d2.link : Nat) : Int)) := fun z => cell_laid z.by_ rfl
            have q3 : ∀ z : RLL P17 P18 #[.slice wan M2.W.length wcn, .slice lan M2.L.length lcn, .bool M2.F] #[.int .i64 d2.ph, .bool d2.cuts, .int .u64 ((d2.link : Nat) : Int), .int .u64 ((d2.at_ : Nat) : Int), .int .u64 ((d2.key : Nat) : Int), .int .u64 ((d2.val : Nat) : Int), .int .u64 ((d2.hash : Nat) : Int), .int .u64 ((d2.next : Nat) : Int)], z.w.cell? ⟨P18, 3, none⟩ = some (.int .u64 ((d2.at_ : Nat) : Int)) := fun z => cell_laid z.by_ rfl
            have q4 : ∀ z : RLL P17 P18 #[.slice wan M2.W.length wcn, .slice lan M2.L.length lcn, .bool M2.F] #[.int .i64 d2.ph, .bool d2.cuts, .int .u64 ((d2.link : Nat) : Int), .int .u64 ((d2.at_ : Nat) : Int), .int .u64 ((d2.key : Nat) : Int), .int .u64 ((d2.val : Nat) : Int), .int .u64 ((d2.hash : Nat) : Int), .int .u64 ((d2.next : Nat) : Int)], z.w.cell? ⟨P18, 4, none⟩ = some (.int .u64 ((d2.key : Nat) : Int)) := fun z => cell_laid z.by_ rfl
            have q5 : ∀ z : RLL P17 P18 #[.slice wan M2.W.length wcn, .slice lan M2.L.length lcn, .bool M2.F] #[.int .i64 d2.ph, .bool d2.cuts, .int .u64 ((d2.link : Nat) : Int), .int .u64 ((d2.at_ : Nat) : Int), .int .u64 ((d2.key : Nat) : Int), .int .u64 ((d2.val : Nat) : Int), .int .u64 ((d2.hash : Nat) : Int), .int .u64 ((d2.next : Nat) : Int)], z.w.cell? ⟨P18, 5, none⟩ = some (.int .u64 ((d2.val : Nat) : Int)) := fun z => cell_laid z.by_ rfl
            have q6 : ∀ z : RLL P17 P18 #[.slice wan M2.W.length wcn, .slice lan M2.L.length lcn, .bool M2.F] #[.int .i64 d2.ph, .bool d2.cuts, .int .u64 ((d2.link : Nat) : Int), .int .u64 ((d2.at_ : Nat) : Int), .int .u64 ((d2.key : Nat) : Int), .int .u64 ((d2.val : Nat) : Int), .int .u64 ((d2.hash : Nat) : Int), .int .u64 ((d2.next : Nat) : Int)], z.w.cell? ⟨P18, 6, none⟩ = some (.int .u64 ((d2.hash : Nat) : Int)) := fun z => cell_laid z.by_ rfl
            have q7 : ∀ z : RLL P17 P18 #[.slice wan M2.W.length wcn, .slice lan M2.L.length lcn, .bool M2.F] #[.int .i64 d2.ph, .bool d2.cuts, .int .u64 ((d2.link : Nat) : Int), .int .u64 ((d2.at_ : Nat) : Int), .int .u64 ((d2.key : Nat) : Int), .int .u64 ((d2.val : Nat) : Int), .int .u64 ((d2.hash : Nat) : Int), .int .u64 ((d2.next : Nat) : Int)], z.w.cell? ⟨P18, 7, none⟩ = some (.int .u64 ((d2.next : Nat) : Int)) := fun z => cell_laid z.by_ rfl
            refine wp_region_mix2 (fun W => ∃ z : RLL P17 P18 #[.slice wan M2.W.length wcn, .slice lan M2.L.length lcn, .bool M2.F] #[.int .i64 d2.ph, .bool d2.cuts, .int .u64 ((d2.link : Nat) : Int), .int .u64 ((d2.at_ : Nat) : Int), .int .u64 ((d2.key : Nat) : Int), .int .u64 ((d2.val : Nat) : Int), .int .u64 ((d2.hash : Nat) : Int), .int .u64 ((d2.next : Nat) : Int)], W = z.w) 4 (.q 0 (.q 1 (.h 2 (.h 3 .done)))) (by kernel_rfl) (by kernel_rfl) (by rw [HD.out]; exact ⟨⟨D27_549, KP17_135.out, KP18_136.out⟩, rfl⟩) ?_
            rw [HD.out]
            repeat (refine wpMix2_q rfl rfl ?_; go_big_quiet_step (fail); refine wpQuiet_nil ?_)
            refine wpMix2_h rfl fun R' hR' hO => ?_
            have HMB_129_o := HMB_129
            obtain ⟨u28_579, hu28_579, a1, a2, a3, a4⟩ := put_mem HMB_129.out (.slice wan M2.W.length wcn) (.slice lan M2.L.length lcn) (.bool M2.F)
            obtain ⟨z0, zf0, z1, zf1, z2, zf2⟩ := fcl3 HMB_129.out
            have E29_579 := hid hu28_579
            have HMB_137 := hid (a1)
            have KE_138 := hid (a2 E _ (by omega) KE_130.out)
            have KS_139 := hid (a2 S1 _ (by omega) KS_131.out)
            have HB_140 := hid (a3 _ _ (by omega) HB_132.out)
            have HWAS_141 := hid (own_keep HWAS_133.out fun k o hk ho => a2 k o (fun e => own_ne2 HWAS_133.out HMB_129_o.out (by decide) (by rw [← e]; exact hk)) ho)
            have HMN_142 := hid (a4 _ _ _ _ _ _ HMN_134.out)
            have KP17_143 := hid (a2 P17 _ (by omega) KP17_135.out)
            have KP18_144 := hid (a2 P18 _ (by omega) KP18_136.out)
            clear HMB_129 KE_130 KS_131 HB_132 HWAS_133 HMN_134 KP17_135 KP18_136 hu28_579 a1 a2 a3 a4
            clear HMB_129_o
            go_wp2
            rw [← E29_579.out]
            refine hR' _ _ ⟨⟨u28_579, KP17_143.out, KP18_144.out⟩, rfl⟩ ?_
            clear hR' hO R' z0 z1 z2 zf0 zf1 zf2
            refine wpMix2_h rfl fun R' hR' hO => ?_
            have KE_138_o := KE_138
            obtain ⟨u30_598, hu30_598, a1, a2, a3, a4, a5⟩ := putM8 KE_138.out (.int .i64 d2.ph) (.bool d2.cuts) (.int .u64 ((d2.link : Nat) : Int)) (.int .u64 ((d2.at_ : Nat) : Int)) (.int .u64 ((d2.key : Nat) : Int)) (.int .u64 ((d2.val : Nat) : Int)) (.int .u64 ((d2.hash : Nat) : Int)) (.int .u64 ((d2.next : Nat) : Int))
            obtain ⟨z0, zf0, z1, zf1, z2, zf2, z3, zf3, z4, zf4, z5, zf5, z6, zf6, z7, zf7⟩ := fcl8 KE_138.out
            have E31_598 := hid hu30_598
            have HMB_145 := hid (a2 Mb _ (by omega) HMB_137.out)
            have KE_146 := hid (a1)
            have KS_147 := hid (a2 S1 _ (by omega) KS_139.out)
            have HB_148 := hid (a3 _ _ (by omega) HB_140.out)
            have HWAS_149 := hid (own_keep HWAS_141.out fun k o hk ho => a2 k o (fun e => own_ne2 HWAS_141.out KE_138_o.out (by decide) (by rw [← e]; exact hk)) ho)
            have HMN_150 := hid (a4 _ _ _ _ _ _ (by decide) (by decide) HMN_142.out)
            have KP17_151 := hid (a2 P17 _ (by omega) KP17_143.out)
            have KP18_152 := hid (a2 P18 _ (by omega) KP18_144.out)
            clear HMB_137 KE_138 KS_139 HB_140 HWAS_141 HMN_142 KP17_143 KP18_144 hu30_598 a1 a2 a3 a4 a5
            clear KE_138_o
            go_wp2
            rw [← E31_598.out]
            refine hR' _ _ ⟨⟨u30_598, KP17_151.out, KP18_152.out⟩, rfl⟩ ?_
            clear hR' hO R' z0 z1 z2 z3 z4 z5 z6 z7 zf0 zf1 zf2 zf3 zf4 zf5 zf6 zf7
            refine wpMix2_done ?_
            simp only [List.drop_succ_cons, List.drop_nil]
            clear r0 r1 r2 q0 q1 q2 q3 q4 q5 q6 q7 HD
            obtain ⟨e0, e1, e2, e3, e4, e5, e6, e7⟩ := ncl8 KE_146.out
            obtain ⟨s0, s1, s2, s3, s4, s5, s6⟩ := ncl7 KS_147.out
            go_wp2
            go_ret
            exact ⟨rfl, HB_148.out⟩
          | false =>
            obtain ⟨h6, hzx, m, hm, hl2⟩ : d2.ph ≠ 6 ∧ zs = xs ∧ ∃ m, N = m + 1 ∧ Lst head xs ys (Qend false snode 0) m M2 d2 := by
              rcases HCA.out with ⟨h1, -⟩ | ⟨-, h1, h2, h3⟩
              · cases h1
              · exact ⟨h1, h2, h3⟩
            have t6 : (d2.ph == 6) = false := by simpa using h6
            have HL2 := hid hl2
            have HNM2 := hid hm
            clear HCA h6 hzx hm hl2
            go_wp2_with fail
            refine (HEQ.out).mono ?_
            rintro e w26_632 ⟨rfl, hbn⟩
            have HMB_121 := hid (keep_laid HMB_113.out hbn)
            have KE_122 := hid (keep_laid KE_114.out hbn)
            have KS_123 := hid (keep_laid KS_115.out hbn)
            have HB_124 := hid (HB_116.out.trans (hbn.mono HB_116.out.size))
            have HWAS_125 := hid (own_grow HWAS_117.out hbn)
            have HMN_126 := hid (HMN_118.out.grow hbn)
            have KP17_127 := hid (keep_laid KP17_119.out hbn)
            have KP18_128 := hid (keep_laid KP18_120.out hbn)
            clear HMB_113 KE_114 KS_115 HB_116 HWAS_117 HMN_118 KP17_119 KP18_120 hbn HEQ t7
            go_upto_region 23 with (fail)
            obtain ⟨D27_645, hD⟩ : ∃ DX, w26_632.drew = DX := ⟨_, rfl⟩
            have hbD : Below w26_632.heap.size w26_632 D27_645 := by rw [← hD]; exact (Below.refl _ _).drew
            have HD := hid hD
            clear hD
            have HMB_129 := hid (keep_laid HMB_121.out hbD)
            have KE_130 := hid (keep_laid KE_122.out hbD)
            have KS_131 := hid (keep_laid KS_123.out hbD)
            have HB_132 := hid (HB_124.out.trans (hbD.mono HB_124.out.size))
            have HWAS_133 := hid (own_grow HWAS_125.out hbD)
            have HMN_134 := hid (HMN_126.out.grow hbD)
            have KP17_135 := hid (keep_laid KP17_127.out hbD)
            have KP18_136 := hid (keep_laid KP18_128.out hbD)
            clear HMB_121 KE_122 KS_123 HB_124 HWAS_125 HMN_126 KP17_127 KP18_128 hbD
            haveI : Nonempty (RLL P17 P18 #[.slice wan M2.W.length wcn, .slice lan M2.L.length lcn, .bool M2.F] #[.int .i64 d2.ph, .bool d2.cuts, .int .u64 ((d2.link : Nat) : Int), .int .u64 ((d2.at_ : Nat) : Int), .int .u64 ((d2.key : Nat) : Int), .int .u64 ((d2.val : Nat) : Int), .int .u64 ((d2.hash : Nat) : Int), .int .u64 ((d2.next : Nat) : Int)]) := ⟨⟨D27_645, KP17_135.out, KP18_136.out⟩⟩
            have r0 : ∀ z : RLL P17 P18 #[.slice wan M2.W.length wcn, .slice lan M2.L.length lcn, .bool M2.F] #[.int .i64 d2.ph, .bool d2.cuts, .int .u64 ((d2.link : Nat) : Int), .int .u64 ((d2.at_ : Nat) : Int), .int .u64 ((d2.key : Nat) : Int), .int .u64 ((d2.val : Nat) : Int), .int .u64 ((d2.hash : Nat) : Int), .int .u64 ((d2.next : Nat) : Int)], z.w.cell? ⟨P17, 0, none⟩ = some (.slice wan M2.W.length wcn) := fun z => cell_laid z.bx rfl
            have r1 : ∀ z : RLL P17 P18 #[.slice wan M2.W.length wcn, .slice lan M2.L.length lcn, .bool M2.F] #[.int .i64 d2.ph, .bool d2.cuts, .int .u64 ((d2.link : Nat) : Int), .int .u64 ((d2.at_ : Nat) : Int), .int .u64 ((d2.key : Nat) : Int), .int .u64 ((d2.val : Nat) : Int), .int .u64 ((d2.hash : Nat) : Int), .int .u64 ((d2.next : Nat) : Int)], z.w.cell? ⟨P17, 1, none⟩ = some (.slice lan M2.L.length lcn) := fun z => cell_laid z.bx rfl
            have r2 : ∀ z : RLL P17 P18 #[.slice wan M2.W.length wcn, .slice lan M2.L.length lcn, .bool M2.F] #[.int .i64 d2.ph, .bool d2.cuts, .int .u64 ((d2.link : Nat) : Int), .int .u64 ((d2.at_ : Nat) : Int), .int .u64 ((d2.key : Nat) : Int), .int .u64 ((d2.val : Nat) : Int), .int .u64 ((d2.hash : Nat) : Int), .int .u64 ((d2.next : Nat) : Int)], z.w.cell? ⟨P17, 2, none⟩ = some (.bool M2.F) := fun z => cell_laid z.bx rfl
            have q0 : ∀ z : RLL P17 P18 #[.slice wan M2.W.length wcn, .slice lan M2.L.length lcn, .bool M2.F] #[.int .i64 d2.ph, .bool d2.cuts, .int .u64 ((d2.link : Nat) : Int), .int .u64 ((d2.at_ : Nat) : Int), .int .u64 ((d2.key : Nat) : Int), .int .u64 ((d2.val : Nat) : Int), .int .u64 ((d2.hash : Nat) : Int), .int .u64 ((d2.next : Nat) : Int)], z.w.cell? ⟨P18, 0, none⟩ = some (.int .i64 d2.ph) := fun z => cell_laid z.by_ rfl
            have q1 : ∀ z : RLL P17 P18 #[.slice wan M2.W.length wcn, .slice lan M2.L.length lcn, .bool M2.F] #[.int .i64 d2.ph, .bool d2.cuts, .int .u64 ((d2.link : Nat) : Int), .int .u64 ((d2.at_ : Nat) : Int), .int .u64 ((d2.key : Nat) : Int), .int .u64 ((d2.val : Nat) : Int), .int .u64 ((d2.hash : Nat) : Int), .int .u64 ((d2.next : Nat) : Int)], z.w.cell? ⟨P18, 1, none⟩ = some (.bool d2.cuts) := fun z => cell_laid z.by_ rfl
            have q2 : ∀ z : RLL P17 P18 #[.slice wan M2.W.length wcn, .slice lan M2.L.length lcn, .bool M2.F] #[.int .i64 d2.ph, .bool d2.cuts, .int .u64 ((d2.link : Nat) : Int), .int .u64 ((d2.at_ : Nat) : Int), .int .u64 ((d2.key : Nat) : Int), .int .u64 ((d2.val : Nat) : Int), .int .u64 ((d2.hash : Nat) : Int), .int .u64 ((d2.next : Nat) : Int)], z.w.cell? ⟨P18, 2, none⟩ = some (.int .u64 ((d2.link : Nat) : Int)) := fun z => cell_laid z.by_ rfl
            have q3 : ∀ z : RLL P17 P18 #[.slice wan M2.W.length wcn, .slice lan M2.L.length lcn, .bool M2.F] #[.int .i64 d2.ph, .bool d2.cuts, .int .u64 ((d2.link : Nat) : Int), .int .u64 ((d2.at_ : Nat) : Int), .int .u64 ((d2.key : Nat) : Int), .int .u64 ((d2.val : Nat) : Int), .int .u64 ((d2.hash : Nat) : Int), .int .u64 ((d2.next : Nat) : Int)], z.w.cell? ⟨P18, 3, none⟩ = some (.int .u64 ((d2.at_ : Nat) : Int)) := fun z => cell_laid z.by_ rfl
            have q4 : ∀ z : RLL P17 P18 #[.slice wan M2.W.length wcn, .slice lan M2.L.length lcn, .bool M2.F] #[.int .i64 d2.ph, .bool d2.cuts, .int .u64 ((d2.link : Nat) : Int), .int .u64 ((d2.at_ : Nat) : Int), .int .u64 ((d2.key : Nat) : Int), .int .u64 ((d2.val : Nat) : Int), .int .u64 ((d2.hash : Nat) : Int), .int .u64 ((d2.next : Nat) : Int)], z.w.cell? ⟨P18, 4, none⟩ = some (.int .u64 ((d2.key : Nat) : Int)) := fun z => cell_laid z.by_ rfl
            have q5 : ∀ z : RLL P17 P18 #[.slice wan M2.W.length wcn, .slice lan M2.L.length lcn, .bool M2.F] #[.int .i64 d2.ph, .bool d2.cuts, .int .u64 ((d2.link : Nat) : Int), .int .u64 ((d2.at_ : Nat) : Int), .int .u64 ((d2.key : Nat) : Int), .int .u64 ((d2.val : Nat) : Int), .int .u64 ((d2.hash : Nat) : Int), .int .u64 ((d2.next : Nat) : Int)], z.w.cell? ⟨P18, 5, none⟩ = some (.int .u64 ((d2.val : Nat) : Int)) := fun z => cell_laid z.by_ rfl
            have q6 : ∀ z : RLL P17 P18 #[.slice wan M2.W.length wcn, .slice lan M2.L.length lcn, .bool M2.F] #[.int .i64 d2.ph, .bool d2.cuts, .int .u64 ((d2.link : Nat) : Int), .int .u64 ((d2.at_ : Nat) : Int), .int .u64 ((d2.key : Nat) : Int), .int .u64 ((d2.val : Nat) : Int), .int .u64 ((d2.hash : Nat) : Int), .int .u64 ((d2.next : Nat) : Int)], z.w.cell? ⟨P18, 6, none⟩ = some (.int .u64 ((d2.hash : Nat) : Int)) := fun z => cell_laid z.by_ rfl
            have q7 : ∀ z : RLL P17 P18 #[.slice wan M2.W.length wcn, .slice lan M2.L.length lcn, .bool M2.F] #[.int .i64 d2.ph, .bool d2.cuts, .int .u64 ((d2.link : Nat) : Int), .int .u64 ((d2.at_ : Nat) : Int), .int .u64 ((d2.key : Nat) : Int), .int .u64 ((d2.val : Nat) : Int), .int .u64 ((d2.hash : Nat) : Int), .int .u64 ((d2.next : Nat) : Int)], z.w.cell? ⟨P18, 7, none⟩ = some (.int .u64 ((d2.next : Nat) : Int)) := fun z => cell_laid z.by_ rfl
            refine wp_region_mix2 (fun W => ∃ z : RLL P17 P18 #[.slice wan M2.W.length wcn, .slice lan M2.L.length lcn, .bool M2.F] #[.int .i64 d2.ph, .bool d2.cuts, .int .u64 ((d2.link : Nat) : Int), .int .u64 ((d2.at_ : Nat) : Int), .int .u64 ((d2.key : Nat) : Int), .int .u64 ((d2.val : Nat) : Int), .int .u64 ((d2.hash : Nat) : Int), .int .u64 ((d2.next : Nat) : Int)], W = z.w) 4 (.q 0 (.q 1 (.h 2 (.h 3 .done)))) (by kernel_rfl) (by kernel_rfl) (by rw [HD.out]; exact ⟨⟨D27_645, KP17_135.out, KP18_136.out⟩, rfl⟩) ?_
            rw [HD.out]
            repeat (refine wpMix2_q rfl rfl ?_; go_big_quiet_step (fail); refine wpQuiet_nil ?_)
            refine wpMix2_h rfl fun R' hR' hO => ?_
            have HMB_129_o := HMB_129
            obtain ⟨u28_675, hu28_675, a1, a2, a3, a4⟩ := put_mem HMB_129.out (.slice wan M2.W.length wcn) (.slice lan M2.L.length lcn) (.bool M2.F)
            obtain ⟨z0, zf0, z1, zf1, z2, zf2⟩ := fcl3 HMB_129.out
            have E29_675 := hid hu28_675
            have HMB_137 := hid (a1)
            have KE_138 := hid (a2 E _ (by omega) KE_130.out)
            have KS_139 := hid (a2 S1 _ (by omega) KS_131.out)
            have HB_140 := hid (a3 _ _ (by omega) HB_132.out)
            have HWAS_141 := hid (own_keep HWAS_133.out fun k o hk ho => a2 k o (fun e => own_ne2 HWAS_133.out HMB_129_o.out (by decide) (by rw [← e]; exact hk)) ho)
            have HMN_142 := hid (a4 _ _ _ _ _ _ HMN_134.out)
            have KP17_143 := hid (a2 P17 _ (by omega) KP17_135.out)
            have KP18_144 := hid (a2 P18 _ (by omega) KP18_136.out)
            clear HMB_129 KE_130 KS_131 HB_132 HWAS_133 HMN_134 KP17_135 KP18_136 hu28_675 a1 a2 a3 a4
            clear HMB_129_o
            go_wp2
            rw [← E29_675.out]
            refine hR' _ _ ⟨⟨u28_675, KP17_143.out, KP18_144.out⟩, rfl⟩ ?_
            clear hR' hO R' z0 z1 z2 zf0 zf1 zf2
            refine wpMix2_h rfl fun R' hR' hO => ?_
            have KE_138_o := KE_138
            obtain ⟨u30_694, hu30_694, a1, a2, a3, a4, a5⟩ := putM8 KE_138.out (.int .i64 d2.ph) (.bool d2.cuts) (.int .u64 ((d2.link : Nat) : Int)) (.int .u64 ((d2.at_ : Nat) : Int)) (.int .u64 ((d2.key : Nat) : Int)) (.int .u64 ((d2.val : Nat) : Int)) (.int .u64 ((d2.hash : Nat) : Int)) (.int .u64 ((d2.next : Nat) : Int))
            obtain ⟨z0, zf0, z1, zf1, z2, zf2, z3, zf3, z4, zf4, z5, zf5, z6, zf6, z7, zf7⟩ := fcl8 KE_138.out
            have E31_694 := hid hu30_694
            have HMB_145 := hid (a2 Mb _ (by omega) HMB_137.out)
            have KE_146 := hid (a1)
            have KS_147 := hid (a2 S1 _ (by omega) KS_139.out)
            have HB_148 := hid (a3 _ _ (by omega) HB_140.out)
            have HWAS_149 := hid (own_keep HWAS_141.out fun k o hk ho => a2 k o (fun e => own_ne2 HWAS_141.out KE_138_o.out (by decide) (by rw [← e]; exact hk)) ho)
            have HMN_150 := hid (a4 _ _ _ _ _ _ (by decide) (by decide) HMN_142.out)
            have KP17_151 := hid (a2 P17 _ (by omega) KP17_143.out)
            have KP18_152 := hid (a2 P18 _ (by omega) KP18_144.out)
            clear HMB_137 KE_138 KS_139 HB_140 HWAS_141 HMN_142 KP17_143 KP18_144 hu30_694 a1 a2 a3 a4 a5
            clear KE_138_o
            go_wp2
            rw [← E31_694.out]
            refine hR' _ _ ⟨⟨u30_694, KP17_151.out, KP18_152.out⟩, rfl⟩ ?_
            clear hR' hO R' z0 z1 z2 z3 z4 z5 z6 z7 zf0 zf1 zf2 zf3 zf4 zf5 zf6 zf7
            refine wpMix2_done ?_
            simp only [List.drop_succ_cons, List.drop_nil]
            clear r0 r1 r2 q0 q1 q2 q3 q4 q5 q6 q7 HD
            obtain ⟨e0, e1, e2, e3, e4, e5, e6, e7⟩ := ncl8 KE_146.out
            go_wp2
            go_roundg (gk - 1)
            case measure => have := HK.out; omega
            case rel => exact ⟨i + 1, m, wan, wcn, lan, lcn, M2, d2, by have := HK.out; omega, by go_num, hid ⟨HMB_145.out, KE_146.out, KS_147.out, HMN_150.out, HB_148.out, HWAS_149.out, HL2.out⟩, by have := HNI.out; have := HNM2.out; omega⟩
      | true =>
        obtain ⟨y0, y1, y2, y3⟩ := ncl4 KB_49.out
        have HPU := hid (Put_any slink snode (p0, p1, p2, p3) u12_278)
        unfold edV ndV putK at HPU
        dsimp only at HPU
        go_wp2_with fail
        refine (HPU.out).mono ?_
        rintro e w14_724 ⟨rfl, hbn⟩
        have KB_56 := hid (keep_laid KB_49.out hbn)
        have HB_57 := hid (HB_50.out.trans (hbn.mono HB_50.out.size))
        have HM_58 := hid (HM_51.out.grow hbn)
        have KMb_59 := hid (keep_laid KMb_52.out hbn)
        have HWAS_60 := hid (own_grow HWAS_53.out hbn)
        have KS1_61 := hid (keep_laid KS1_54.out hbn)
        clear KB_49 HB_50 HM_51 KMb_52 HWAS_53 KS1_54 hbn HPU s0 s1 s2 s3 s4 s5 s6 y0 y1 y2 y3
        obtain ⟨w15_734, hw15_734, hbn, hsn, hln⟩ := laid w14_724 #[.int .i64 0, .bool false, .int .u64 0, .int .u64 0, .int .u64 0, .int .u64 0, .int .u64 0, .int .u64 0] 53
        obtain ⟨E, hNME⟩ : ∃ X, w14_724.heap.size = X := ⟨_, rfl⟩
        rw [hNME] at hln
        have nBE : B < E := by have := lt_laid KB_56.out; omega
        have nMbE : Mb < E := by have := lt_laid KMb_59.out; omega
        have nS1E : S1 < E := by have := lt_laid KS1_61.out; omega
        have hVE : V.heap.size ≤ E := by have := HB_57.out.size; omega
        have KB_62 := hid (keep_laid KB_56.out hbn)
        have HB_63 := hid (HB_57.out.trans (hbn.mono HB_57.out.size))
        have HM_64 := hid (HM_58.out.grow hbn)
        have KMb_65 := hid (keep_laid KMb_59.out hbn)
        have HWAS_66 := hid (own_grow HWAS_60.out hbn)
        have KS1_67 := hid (keep_laid KS1_61.out hbn)
        clear KB_56 HB_57 HM_58 KMb_59 HWAS_60 KS1_61 hbn hsn
        have KE_68 := hid (hln)
        clear hln
        have KE_68_o := KE_68
        obtain ⟨u16_751, hu16_751, a1, a2, a3, a4, a5⟩ := putM8 KE_68.out (.int .i64 0) (.bool false) (.int .u64 ((slink : Nat) : Int)) (.int .u64 ((p0 : Nat) : Int)) (.int .u64 ((p1 : Nat) : Int)) (.int .u64 ((p2 : Nat) : Int)) (.int .u64 ((p3 : Nat) : Int)) (.int .u64 ((snode : Nat) : Int))
        obtain ⟨z0, zf0, z1, zf1, z2, zf2, z3, zf3, z4, zf4, z5, zf5, z6, zf6, z7, zf7⟩ := fcl8 KE_68.out
        have E17_751 := hid hu16_751
        have KB_69 := hid (a2 B _ (by omega) KB_62.out)
        have HB_70 := hid (a3 _ _ (by omega) HB_63.out)
        have HM_71 := hid (a4 _ _ _ _ _ _ (by decide) (by decide) HM_64.out)
        have KMb_72 := hid (a2 Mb _ (by omega) KMb_65.out)
        have HWAS_73 := hid (own_keep HWAS_66.out fun k o hk ho => a2 k o (fun e => own_ne2 HWAS_66.out KE_68_o.out (by decide) (by rw [← e]; exact hk)) ho)
        have KS1_74 := hid (a2 S1 _ (by omega) KS1_67.out)
        have KE_75 := hid (a1)
        clear KB_62 HB_63 HM_64 KMb_65 HWAS_66 KS1_67 KE_68 hu16_751 a1 a2 a3 a4 a5
        clear KE_68_o
        go_upto_region 12 with (fail)
        rw [← E17_751.out]
        clear z0 z1 z2 z3 z4 z5 z6 z7 zf0 zf1 zf2 zf3 zf4 zf5 zf6 zf7 hNME
        obtain ⟨s0, s1, s2, s3, s4, s5, s6⟩ := ncl7 KS1_74.out
        obtain ⟨ys, l1, t, l2, nxt, hlst, hne, hx12, hnt, hdif, ht4, hnx⟩ := HLC.out (by simp)
        have HLS := hid hlst
        have HNE := hid hne
        have HX12 := hid hx12
        have HNT := hid hnt
        have HDIF := hid hdif
        have HNX := hid hnx
        have hn4 : snode < 4096 := by omega
        clear hlst hne hx12 hnt hdif hnx ht4 HLP HLC HDO
        have HCU := hid (Cut_any slink snode u16_751)
        unfold edV cutK at HCU
        dsimp only at HCU
        go_wp2_with fail
        refine (HCU.out).mono ?_
        rintro e w18_779 ⟨rfl, hbn⟩
        have KB_76 := hid (keep_laid KB_69.out hbn)
        have HB_77 := hid (HB_70.out.trans (hbn.mono HB_70.out.size))
        have HM_78 := hid (HM_71.out.grow hbn)
        have KMb_79 := hid (keep_laid KMb_72.out hbn)
        have HWAS_80 := hid (own_grow HWAS_73.out hbn)
        have KS1_81 := hid (keep_laid KS1_74.out hbn)
        have KE_82 := hid (keep_laid KE_75.out hbn)
        clear KB_69 HB_70 HM_71 KMb_72 HWAS_73 KS1_74 KE_75 hbn HCU s0 s1 s2 s3 s4 s5 s6
        have KE_82_o := KE_82
        obtain ⟨u19_791, hu19_791, a1, a2, a3, a4, a5⟩ := putM8 KE_82.out (.int .i64 4) (.bool true) (.int .u64 ((slink : Nat) : Int)) (.int .u64 ((snode : Nat) : Int)) (.int .u64 0) (.int .u64 0) (.int .u64 0) (.int .u64 0)
        obtain ⟨z0, zf0, z1, zf1, z2, zf2, z3, zf3, z4, zf4, z5, zf5, z6, zf6, z7, zf7⟩ := fcl8 KE_82.out
        have E20_791 := hid hu19_791
        have KB_83 := hid (a2 B _ (by omega) KB_76.out)
        have HB_84 := hid (a3 _ _ (by omega) HB_77.out)
        have HM_85 := hid (a4 _ _ _ _ _ _ (by decide) (by decide) HM_78.out)
        have KMb_86 := hid (a2 Mb _ (by omega) KMb_79.out)
        have HWAS_87 := hid (own_keep HWAS_80.out fun k o hk ho => a2 k o (fun e => own_ne2 HWAS_80.out KE_82_o.out (by decide) (by rw [← e]; exact hk)) ho)
        have KS1_88 := hid (a2 S1 _ (by omega) KS1_81.out)
        have KE_89 := hid (a1)
        clear KB_76 HB_77 HM_78 KMb_79 HWAS_80 KS1_81 KE_82 hu19_791 a1 a2 a3 a4 a5
        clear KE_82_o
        go_upto_region 14 with (fail)
        rw [← E20_791.out]
        clear z0 z1 z2 z3 z4 z5 z6 z7 zf0 zf1 zf2 zf3 zf4 zf5 zf6 zf7
        have HS6 : Hid (Lpq V Mb E S1 head xs ys true snode nxt va q vc #[.int .i64 sph, .int .u64 ((shash : Nat) : Int), .int .u64 ((skey : Nat) : Int), .int .u64 ((slink : Nat) : Int), .int .u64 ((snode : Nat) : Int), .int .u64 ((sval : Nat) : Int), .bool true] 2 wa0 wc0 la0 lc0 Mk (cutK slink snode) u19_791) := hid ⟨KMb_86.out, KE_89.out, KS1_88.out, HM_85.out, HB_84.out, HWAS_87.out, HLS.out⟩
        have HVM := hid (show V.heap.size ≤ Mb ∧ V.heap.size ≤ E ∧ V.heap.size ≤ S1 from ⟨by omega, by omega, by omega⟩)
        have HNM := hid (show Mb ≠ E ∧ Mb ≠ S1 ∧ E ≠ S1 from ⟨by omega, by omega, by omega⟩)
        clear KB_83 HB_84 HM_85 KMb_86 HWAS_87 KS1_88 KE_89
        clear HLS HWK HPO hwlk hllk
        go_wp2
        go_loopg [82] 8 (fun g t82 wr => ∃ (i N : Nat) (wak : Option Addr) (wck : Nat) (lak : Option Addr) (lck : Nat) (Mk : Mem) (d : Ede), g + i = 8 ∧ t82 = .int .i64 ((i : Nat) : Int) ∧ Hid (Lpq V Mb E S1 head xs ys true snode nxt va q vc #[.int .i64 sph, .int .u64 ((shash : Nat) : Int), .int .u64 ((skey : Nat) : Int), .int .u64 ((slink : Nat) : Int), .int .u64 ((snode : Nat) : Int), .int .u64 ((sval : Nat) : Int), .bool true] N wak wck lak lck Mk d wr) ∧ N + i ≤ 8)
        case atStart => exact ⟨0, _, _, _, _, _, _, _, rfl, rfl, HS6, by decide⟩
        case round =>
          clear HS6
          obtain ⟨i, N, wak, wck, lak, lck, Mq, d, hk, rfl, hS, hNi⟩ := hrel
          have HK := hid hk
          have HNI := hid hNi
          obtain ⟨ok, wok, sok, p0', p5', hn', n1⟩ := hS.out.lst.facts
          have hi8 : i < 8 := by omega
          clear hk hNi
          obtain ⟨M2, d2, zs, hse, o2, w2, k2, hzs, hn7, hcase⟩ := step_ends hS.out.lst
          have HCA := hid hcase
          have HMB := hid hS.out.bm
          have KE := hid hS.out.be
          have KS := hid hS.out.bs
          have HM := hid hS.out.mem
          have HB := hid hS.out.below
          have HWAS := hid hS.out.was
          obtain ⟨hVMb, hVE, hVS⟩ := HVM.out
          obtain ⟨hme, hms, hes⟩ := HNM.out
          have HSE := hid (StepEdit_any Mq d wak lak wck lck wr hS.out.mem.memL sok)
          rw [hse] at HSE
          unfold GivesStepEdit memV edV at HSE
          dsimp only at HSE
          have hwlq := hS.out.mem.memL.w.len
          have hllq := hS.out.mem.memL.l.len
          have HO2 := hid (show okM M2 = true ∧ (∀ x ∈ M2.W, x < 18446744073709551616) ∧ d2.Ok ∧ nodesR M2 head = some zs from ⟨o2, w2, k2, hzs⟩)
          have t7 : (d2.ph == 7) = false := by simpa using hn7
          obtain ⟨B5, hB5⟩ : ∃ b, (d.ph == 5) = b := ⟨_, rfl⟩
          rw [hB5] at HCA
          clear hS hcase hse o2 w2 k2 hzs hn7 ok wok p0' p5' hn' n1 sok
          obtain ⟨m0, m1, m2⟩ := cells3 HMB.out
          obtain ⟨e0, e1, e2, e3, e4, e5, e6, e7⟩ := ncl8 KE.out
          have hVr := HB.out.size
          go_wp2_with fail
          refine (HSE.out).mono ?_
          rintro e w21_846 ⟨wan, wcn, lan, lcn, rfl, hO, hbn⟩
          have HMB_90 := hid (keep_laid HMB.out hbn)
          have KE_91 := hid (keep_laid KE.out hbn)
          have KS_92 := hid (keep_laid KS.out hbn)
          have HM_93 := hid (HM.out.grow hbn)
          have HB_94 := hid (HB.out.trans (hbn.mono HB.out.size))
          have HWAS_95 := hid (own_grow HWAS.out hbn)
          clear HMB KE KS HM HB HWAS hbn HSE m0 m1 m2 e0 e1 e2 e3 e4 e5 e6 e7
          dsimp only at hO ⊢
          have HMN := hid (hO.base hVr)
          have haw := hO.memL.w.len
          have hal := hO.memL.l.len
          clear hO hVr
          clear HM_93
          obtain ⟨w22_862, hw22_862, hbn, hsn, hln⟩ := laid w21_846 #[.slice none 0 0, .slice none 0 0, .bool false] 25
          obtain ⟨P17, hNMP17⟩ : ∃ X, w21_846.heap.size = X := ⟨_, rfl⟩
          rw [hNMP17] at hln
          have nMbP17 : Mb < P17 := by have := lt_laid HMB_90.out; omega
          have nEP17 : E < P17 := by have := lt_laid KE_91.out; omega
          have nS1P17 : S1 < P17 := by have := lt_laid KS_92.out; omega
          have hVP17 : V.heap.size ≤ P17 := by have := HB_94.out.size; omega
          have HMB_96 := hid (keep_laid HMB_90.out hbn)
          have KE_97 := hid (keep_laid KE_91.out hbn)
          have KS_98 := hid (keep_laid KS_92.out hbn)
          have HB_99 := hid (HB_94.out.trans (hbn.mono HB_94.out.size))
          have HWAS_100 := hid (own_grow HWAS_95.out hbn)
          have HMN_101 := hid (HMN.out.grow hbn)
          clear HMB_90 KE_91 KS_92 HB_94 HWAS_95 HMN hbn hsn
          have KP17_102 := hid (hln)
          clear hln
          obtain ⟨w23_878, hw23_878, hbn, hsn, hln⟩ := laid w22_862 #[.int .i64 0, .bool false, .int .u64 0, .int .u64 0, .int .u64 0, .int .u64 0, .int .u64 0, .int .u64 0] 53
          obtain ⟨P18, hNMP18⟩ : ∃ X, w22_862.heap.size = X := ⟨_, rfl⟩
          rw [hNMP18] at hln
          have nMbP18 : Mb < P18 := by have := lt_laid HMB_96.out; omega
          have nEP18 : E < P18 := by have := lt_laid KE_97.out; omega
          have nS1P18 : S1 < P18 := by have := lt_laid KS_98.out; omega
          have nP17P18 : P17 < P18 := by have := lt_laid KP17_102.out; omega
          have hVP18 : V.heap.size ≤ P18 := by have := HB_99.out.size; omega
          have HMB_103 := hid (keep_laid HMB_96.out hbn)
          have KE_104 := hid (keep_laid KE_97.out hbn)
          have KS_105 := hid (keep_laid KS_98.out hbn)
          have HB_106 := hid (HB_99.out.trans (hbn.mono HB_99.out.size))
          have HWAS_107 := hid (own_grow HWAS_100.out hbn)
          have HMN_108 := hid (HMN_101.out.grow hbn)
          have KP17_109 := hid (keep_laid KP17_102.out hbn)
          clear HMB_96 KE_97 KS_98 HB_99 HWAS_100 HMN_101 KP17_102 hbn hsn
          have KP18_110 := hid (hln)
          clear hln
          obtain ⟨g0, gf0, g1, gf1, g2, gf2, g3, gf3, g4, gf4, g5, gf5, g6, gf6, g7, gf7⟩ := fcl8 KP18_110.out
          have KP17_109_o := KP17_109
          obtain ⟨u24_898, hu24_898, a1, a2, a3, a4⟩ := put_mem KP17_109.out (.slice wan M2.W.length wcn) (.slice lan M2.L.length lcn) (.bool M2.F)
          obtain ⟨z0, zf0, z1, zf1, z2, zf2⟩ := fcl3 KP17_109.out
          have E25_898 := hid hu24_898
          have HMB_111 := hid (a2 Mb _ (by omega) HMB_103.out)
          have KE_112 := hid (a2 E _ (by omega) KE_104.out)
          have KS_113 := hid (a2 S1 _ (by omega) KS_105.out)
          have HB_114 := hid (a3 _ _ (by omega) HB_106.out)
          have HWAS_115 := hid (own_keep HWAS_107.out fun k o hk ho => a2 k o (fun e => own_ne2 HWAS_107.out KP17_109_o.out (by decide) (by rw [← e]; exact hk)) ho)
          have HMN_116 := hid (a4 _ _ _ _ _ _ HMN_108.out)
          have KP17_117 := hid (a1)
          have KP18_118 := hid (a2 P18 _ (by omega) KP18_110.out)
          clear HMB_103 KE_104 KS_105 HB_106 HWAS_107 HMN_108 KP17_109 KP18_110 hu24_898 a1 a2 a3 a4
          clear KP17_109_o
          have KP18_118_o := KP18_118
          obtain ⟨u26_912, hu26_912, a1, a2, a3, a4, a5⟩ := putM8 KP18_118.out (.int .i64 d2.ph) (.bool d2.cuts) (.int .u64 ((d2.link : Nat) : Int)) (.int .u64 ((d2.at_ : Nat) : Int)) (.int .u64 ((d2.key : Nat) : Int)) (.int .u64 ((d2.val : Nat) : Int)) (.int .u64 ((d2.hash : Nat) : Int)) (.int .u64 ((d2.next : Nat) : Int))
          have E27_912 := hid hu26_912
          have HMB_119 := hid (a2 Mb _ (by omega) HMB_111.out)
          have KE_120 := hid (a2 E _ (by omega) KE_112.out)
          have KS_121 := hid (a2 S1 _ (by omega) KS_113.out)
          have HB_122 := hid (a3 _ _ (by omega) HB_114.out)
          have HWAS_123 := hid (own_keep HWAS_115.out fun k o hk ho => a2 k o (fun e => own_ne2 HWAS_115.out KP18_118_o.out (by decide) (by rw [← e]; exact hk)) ho)
          have HMN_124 := hid (a4 _ _ _ _ _ _ (by decide) (by decide) HMN_116.out)
          have KP17_125 := hid (a2 P17 _ (by omega) KP17_117.out)
          have KP18_126 := hid (a1)
          clear HMB_111 KE_112 KS_113 HB_114 HWAS_115 HMN_116 KP17_117 KP18_118 hu26_912 a1 a2 a3 a4 a5
          clear KP18_118_o
          go_upto_region 18 with (fail)
          rw [← E25_898.out, ← E27_912.out]
          clear z0 z1 z2 zf0 zf1 zf2 g0 g1 g2 g3 g4 g5 g6 g7 gf0 gf1 gf2 gf3 gf4 gf5 gf6 gf7 hNMP17 hNMP18
          obtain ⟨e0, e1, e2, e3, e4, e5, e6, e7⟩ := ncl8 KP18_126.out
          obtain ⟨m0, m1, m2⟩ := cells3 KP17_125.out
          have HNO := hid (Nodes_any M2 wan lan wcn lcn head u26_912 HMN_124.out.memL hh HO2.out.2.1)
          rw [nodesP_some HO2.out.1 HO2.out.2.2.2] at HNO
          unfold memV GivesNd at HNO
          dsimp only at HNO
          obtain ⟨qz, hqz⟩ : ∃ x, zs.length = x := ⟨_, rfl⟩
          rw [hqz] at HNO
          have HZL := hid hqz
          have hfz := nodesR_facts HO2.out.2.1 HO2.out.1 HO2.out.2.2.2
          have HFZ := hid hfz
          clear hqz hfz
          go_wp2_with fail
          refine (HNO.out).mono ?_
          rintro e w28_939 ⟨vw, rfl, hro, hbn⟩
          clear HNO m0 m1 m2 e0 e1 e2 e3 e4 e5 e6 e7
          have HMB_127 := hid (keep_laid HMB_119.out hbn)
          have KE_128 := hid (keep_laid KE_120.out hbn)
          have KS_129 := hid (keep_laid KS_121.out hbn)
          have HB_130 := hid (HB_122.out.trans (hbn.mono HB_122.out.size))
          have HWAS_131 := hid (own_grow HWAS_123.out hbn)
          have HMN_132 := hid (HMN_124.out.grow hbn)
          have KP17_133 := hid (keep_laid KP17_125.out hbn)
          have KP18_134 := hid (keep_laid KP18_126.out hbn)
          clear HMB_119 KE_120 KS_121 HB_122 HWAS_123 HMN_124 KP17_125 KP18_126 hbn
          obtain ⟨vx, vy, rfl, hlx⟩ := Leads.of_own hro
          have hxl2 := hlx.len
          have HEQ := hid (EqN_any zs xs vx va qz q vy vc w28_939 HZL.out HXL.out HFZ.out.2 HND.out hlx (Leads.of_own1 HWAS_131.out))
          clear hro hlx
          have HBE : Hid (decide (zs = xs) = !B5) := hid (by
            rcases HCA.out with ⟨h1, -, h2, -⟩ | ⟨h1, -, h2, -⟩
            · rw [h1, h2]; exact decide_eq_false HNE.out
            · rw [h1, h2]; exact decide_eq_true rfl)
          rw [HBE.out] at HEQ
          clear HBE
          cases B5 with
          | true =>
            obtain ⟨h6, hzy, hqe⟩ : d2.ph = 6 ∧ zs = ys ∧ Qend true snode nxt M2 := by
              rcases HCA.out with ⟨-, h1, h2, h3⟩ | ⟨h1, -⟩
              · exact ⟨h1, h2, h3⟩
              · cases h1
            have t6 : (d2.ph == 6) = true := by rw [h6]; rfl
            have t6n : (d2.ph != 6) = false := by rw [h6]; rfl
            have HQE := hid hqe
            clear HCA h6 hzy hqe
            go_wp2_with fail
            refine (HEQ.out).mono ?_
            rintro e w29_972 ⟨rfl, hbn⟩
            have HMB_135 := hid (keep_laid HMB_127.out hbn)
            have KE_136 := hid (keep_laid KE_128.out hbn)
            have KS_137 := hid (keep_laid KS_129.out hbn)
            have HB_138 := hid (HB_130.out.trans (hbn.mono HB_130.out.size))
            have HWAS_139 := hid (own_grow HWAS_131.out hbn)
            have HMN_140 := hid (HMN_132.out.grow hbn)
            have KP17_141 := hid (keep_laid KP17_133.out hbn)
            have KP18_142 := hid (keep_laid KP18_134.out hbn)
            clear HMB_127 KE_128 KS_129 HB_130 HWAS_131 HMN_132 KP17_133 KP18_134 hbn HEQ t7
            go_upto_region 23 with (fail)
            obtain ⟨D30_985, hD⟩ : ∃ DX, w29_972.drew = DX := ⟨_, rfl⟩
            have hbD : Below w29_972.heap.size w29_972 D30_985 := by rw [← hD]; exact (Below.refl _ _).drew
            have HD := hid hD
            clear hD
            have HMB_143 := hid (keep_laid HMB_135.out hbD)
            have KE_144 := hid (keep_laid KE_136.out hbD)
            have KS_145 := hid (keep_laid KS_137.out hbD)
            have HB_146 := hid (HB_138.out.trans (hbD.mono HB_138.out.size))
            have HWAS_147 := hid (own_grow HWAS_139.out hbD)
            have HMN_148 := hid (HMN_140.out.grow hbD)
            have KP17_149 := hid (keep_laid KP17_141.out hbD)
            have KP18_150 := hid (keep_laid KP18_142.out hbD)
            clear HMB_135 KE_136 KS_137 HB_138 HWAS_139 HMN_140 KP17_141 KP18_142 hbD
            haveI : Nonempty (RLL P17 P18 #[.slice wan M2.W.length wcn, .slice lan M2.L.length lcn, .bool M2.F] #[.int .i64 d2.ph, .bool d2.cuts, .int .u64 ((d2.link : Nat) : Int), .int .u64 ((d2.at_ : Nat) : Int), .int .u64 ((d2.key : Nat) : Int), .int .u64 ((d2.val : Nat) : Int), .int .u64 ((d2.hash : Nat) : Int), .int .u64 ((d2.next : Nat) : Int)]) := ⟨⟨D30_985, KP17_149.out, KP18_150.out⟩⟩
            have r0 : ∀ z : RLL P17 P18 #[.slice wan M2.W.length wcn, .slice lan M2.L.length lcn, .bool M2.F] #[.int .i64 d2.ph, .bool d2.cuts, .int .u64 ((d2.link : Nat) : Int), .int .u64 ((d2.at_ : Nat) : Int), .int .u64 ((d2.key : Nat) : Int), .int .u64 ((d2.val : Nat) : Int), .int .u64 ((d2.hash : Nat) : Int), .int .u64 ((d2.next : Nat) : Int)], z.w.cell? ⟨P17, 0, none⟩ = some (.slice wan M2.W.length wcn) := fun z => cell_laid z.bx rfl
            have r1 : ∀ z : RLL P17 P18 #[.slice wan M2.W.length wcn, .slice lan M2.L.length lcn, .bool M2.F] #[.int .i64 d2.ph, .bool d2.cuts, .int .u64 ((d2.link : Nat) : Int), .int .u64 ((d2.at_ : Nat) : Int), .int .u64 ((d2.key : Nat) : Int), .int .u64 ((d2.val : Nat) : Int), .int .u64 ((d2.hash : Nat) : Int), .int .u64 ((d2.next : Nat) : Int)], z.w.cell? ⟨P17, 1, none⟩ = some (.slice lan M2.L.length lcn) := fun z => cell_laid z.bx rfl
            have r2 : ∀ z : RLL P17 P18 #[.slice wan M2.W.length wcn, .slice lan M2.L.length lcn, .bool M2.F] #[.int .i64 d2.ph, .bool d2.cuts, .int .u64 ((d2.link : Nat) : Int), .int .u64 ((d2.at_ : Nat) : Int), .int .u64 ((d2.key : Nat) : Int), .int .u64 ((d2.val : Nat) : Int), .int .u64 ((d2.hash : Nat) : Int), .int .u64 ((d2.next : Nat) : Int)], z.w.cell? ⟨P17, 2, none⟩ = some (.bool M2.F) := fun z => cell_laid z.bx rfl
            have q0 : ∀ z : RLL P17 P18 #[.slice wan M2.W.length wcn, .slice lan M2.L.length lcn, .bool M2.F] #[.int .i64 d2.ph, .bool d2.cuts, .int .u64 ((d2.link : Nat) : Int), .int .u64 ((d2.at_ : Nat) : Int), .int .u64 ((d2.key : Nat) : Int), .int .u64 ((d2.val : Nat) : Int), .int .u64 ((d2.hash : Nat) : Int), .int .u64 ((d2.next : Nat) : Int)], z.w.cell? ⟨P18, 0, none⟩ = some (.int .i64 d2.ph) := fun z => cell_laid z.by_ rfl
            have q1 : ∀ z : RLL P17 P18 #[.slice wan M2.W.length wcn, .slice lan M2.L.length lcn, .bool M2.F] #[.int .i64 d2.ph, .bool d2.cuts, .int .u64 ((d2.link : Nat) : Int), .int .u64 ((d2.at_ : Nat) : Int), .int .u64 ((d2.key : Nat) : Int), .int .u64 ((d2.val : Nat) : Int), .int .u64 ((d2.hash : Nat) : Int), .int .u64 ((d2.next : Nat) : Int)], z.w.cell? ⟨P18, 1, none⟩ = some (.bool d2.cuts) := fun z => cell_laid z.by_ rfl
            have q2 : ∀ z : RLL P17 P18 #[.slice wan M2.W.length wcn, .slice lan M2.L.length lcn, .bool M2.F] #[.int .i64 d2.ph, .bool d2.cuts, .int .u64 ((d2.link : Nat) : Int), .int .u64 ((d2.at_ : Nat) : Int), .int .u64 ((d2.key : Nat) : Int), .int .u64 ((d2.val : Nat) : Int), .int .u64 ((d2.hash : Nat) : Int), .int .u64 ((d2.next : Nat) : Int)], z.w.cell? ⟨P18, 2, none⟩ = some (.int .u64 ((d2.link : Nat) : Int)) := fun z => cell_laid z.by_ rfl
            have q3 : ∀ z : RLL P17 P18 #[.slice wan M2.W.length wcn, .slice lan M2.L.length lcn, .bool M2.F] #[.int .i64 d2.ph, .bool d2.cuts, .int .u64 ((d2.link : Nat) : Int), .int .u64 ((d2.at_ : Nat) : Int), .int .u64 ((d2.key : Nat) : Int), .int .u64 ((d2.val : Nat) : Int), .int .u64 ((d2.hash : Nat) : Int), .int .u64 ((d2.next : Nat) : Int)], z.w.cell? ⟨P18, 3, none⟩ = some (.int .u64 ((d2.at_ : Nat) : Int)) := fun z => cell_laid z.by_ rfl
            have q4 : ∀ z : RLL P17 P18 #[.slice wan M2.W.length wcn, .slice lan M2.L.length lcn, .bool M2.F] #[.int .i64 d2.ph, .bool d2.cuts, .int .u64 ((d2.link : Nat) : Int), .int .u64 ((d2.at_ : Nat) : Int), .int .u64 ((d2.key : Nat) : Int), .int .u64 ((d2.val : Nat) : Int), .int .u64 ((d2.hash : Nat) : Int), .int .u64 ((d2.next : Nat) : Int)], z.w.cell? ⟨P18, 4, none⟩ = some (.int .u64 ((d2.key : Nat) : Int)) := fun z => cell_laid z.by_ rfl
            have q5 : ∀ z : RLL P17 P18 #[.slice wan M2.W.length wcn, .slice lan M2.L.length lcn, .bool M2.F] #[.int .i64 d2.ph, .bool d2.cuts, .int .u64 ((d2.link : Nat) : Int), .int .u64 ((d2.at_ : Nat) : Int), .int .u64 ((d2.key : Nat) : Int), .int .u64 ((d2.val : Nat) : Int), .int .u64 ((d2.hash : Nat) : Int), .int .u64 ((d2.next : Nat) : Int)], z.w.cell? ⟨P18, 5, none⟩ = some (.int .u64 ((d2.val : Nat) : Int)) := fun z => cell_laid z.by_ rfl
            have q6 : ∀ z : RLL P17 P18 #[.slice wan M2.W.length wcn, .slice lan M2.L.length lcn, .bool M2.F] #[.int .i64 d2.ph, .bool d2.cuts, .int .u64 ((d2.link : Nat) : Int), .int .u64 ((d2.at_ : Nat) : Int), .int .u64 ((d2.key : Nat) : Int), .int .u64 ((d2.val : Nat) : Int), .int .u64 ((d2.hash : Nat) : Int), .int .u64 ((d2.next : Nat) : Int)], z.w.cell? ⟨P18, 6, none⟩ = some (.int .u64 ((d2.hash : Nat) : Int)) := fun z => cell_laid z.by_ rfl
            have q7 : ∀ z : RLL P17 P18 #[.slice wan M2.W.length wcn, .slice lan M2.L.length lcn, .bool M2.F] #[.int .i64 d2.ph, .bool d2.cuts, .int .u64 ((d2.link : Nat) : Int), .int .u64 ((d2.at_ : Nat) : Int), .int .u64 ((d2.key : Nat) : Int), .int .u64 ((d2.val : Nat) : Int), .int .u64 ((d2.hash : Nat) : Int), .int .u64 ((d2.next : Nat) : Int)], z.w.cell? ⟨P18, 7, none⟩ = some (.int .u64 ((d2.next : Nat) : Int)) := fun z => cell_laid z.by_ rfl
            refine wp_region_mix2 (fun W => ∃ z : RLL P17 P18 #[.slice wan M2.W.length wcn, .slice lan M2.L.length lcn, .bool M2.F] #[.int .i64 d2.ph, .bool d2.cuts, .int .u64 ((d2.link : Nat) : Int), .int .u64 ((d2.at_ : Nat) : Int), .int .u64 ((d2.key : Nat) : Int), .int .u64 ((d2.val : Nat) : Int), .int .u64 ((d2.hash : Nat) : Int), .int .u64 ((d2.next : Nat) : Int)], W = z.w) 4 (.q 0 (.q 1 (.h 2 (.h 3 .done)))) (by kernel_rfl) (by kernel_rfl) (by rw [HD.out]; exact ⟨⟨D30_985, KP17_149.out, KP18_150.out⟩, rfl⟩) ?_
            rw [HD.out]
            repeat (refine wpMix2_q rfl rfl ?_; go_big_quiet_step (fail); refine wpQuiet_nil ?_)
            refine wpMix2_h rfl fun R' hR' hO => ?_
            have HMB_143_o := HMB_143
            obtain ⟨u31_1015, hu31_1015, a1, a2, a3, a4⟩ := put_mem HMB_143.out (.slice wan M2.W.length wcn) (.slice lan M2.L.length lcn) (.bool M2.F)
            obtain ⟨z0, zf0, z1, zf1, z2, zf2⟩ := fcl3 HMB_143.out
            have E32_1015 := hid hu31_1015
            have HMB_151 := hid (a1)
            have KE_152 := hid (a2 E _ (by omega) KE_144.out)
            have KS_153 := hid (a2 S1 _ (by omega) KS_145.out)
            have HB_154 := hid (a3 _ _ (by omega) HB_146.out)
            have HWAS_155 := hid (own_keep HWAS_147.out fun k o hk ho => a2 k o (fun e => own_ne2 HWAS_147.out HMB_143_o.out (by decide) (by rw [← e]; exact hk)) ho)
            have HMN_156 := hid (a4 _ _ _ _ _ _ HMN_148.out)
            have KP17_157 := hid (a2 P17 _ (by omega) KP17_149.out)
            have KP18_158 := hid (a2 P18 _ (by omega) KP18_150.out)
            clear HMB_143 KE_144 KS_145 HB_146 HWAS_147 HMN_148 KP17_149 KP18_150 hu31_1015 a1 a2 a3 a4
            clear HMB_143_o
            go_wp2
            rw [← E32_1015.out]
            refine hR' _ _ ⟨⟨u31_1015, KP17_157.out, KP18_158.out⟩, rfl⟩ ?_
            clear hR' hO R' z0 z1 z2 zf0 zf1 zf2
            refine wpMix2_h rfl fun R' hR' hO => ?_
            have KE_152_o := KE_152
            obtain ⟨u33_1034, hu33_1034, a1, a2, a3, a4, a5⟩ := putM8 KE_152.out (.int .i64 d2.ph) (.bool d2.cuts) (.int .u64 ((d2.link : Nat) : Int)) (.int .u64 ((d2.at_ : Nat) : Int)) (.int .u64 ((d2.key : Nat) : Int)) (.int .u64 ((d2.val : Nat) : Int)) (.int .u64 ((d2.hash : Nat) : Int)) (.int .u64 ((d2.next : Nat) : Int))
            obtain ⟨z0, zf0, z1, zf1, z2, zf2, z3, zf3, z4, zf4, z5, zf5, z6, zf6, z7, zf7⟩ := fcl8 KE_152.out
            have E34_1034 := hid hu33_1034
            have HMB_159 := hid (a2 Mb _ (by omega) HMB_151.out)
            have KE_160 := hid (a1)
            have KS_161 := hid (a2 S1 _ (by omega) KS_153.out)
            have HB_162 := hid (a3 _ _ (by omega) HB_154.out)
            have HWAS_163 := hid (own_keep HWAS_155.out fun k o hk ho => a2 k o (fun e => own_ne2 HWAS_155.out KE_152_o.out (by decide) (by rw [← e]; exact hk)) ho)
            have HMN_164 := hid (a4 _ _ _ _ _ _ (by decide) (by decide) HMN_156.out)
            have KP17_165 := hid (a2 P17 _ (by omega) KP17_157.out)
            have KP18_166 := hid (a2 P18 _ (by omega) KP18_158.out)
            clear HMB_151 KE_152 KS_153 HB_154 HWAS_155 HMN_156 KP17_157 KP18_158 hu33_1034 a1 a2 a3 a4 a5
            clear KE_152_o
            go_wp2
            rw [← E34_1034.out]
            refine hR' _ _ ⟨⟨u33_1034, KP17_165.out, KP18_166.out⟩, rfl⟩ ?_
            clear hR' hO R' z0 z1 z2 z3 z4 z5 z6 z7 zf0 zf1 zf2 zf3 zf4 zf5 zf6 zf7
            refine wpMix2_done ?_
            simp only [List.drop_succ_cons, List.drop_nil]
            clear r0 r1 r2 q0 q1 q2 q3 q4 q5 q6 q7 HD
            obtain ⟨e0, e1, e2, e3, e4, e5, e6, e7⟩ := ncl8 KE_160.out
            obtain ⟨s0, s1, s2, s3, s4, s5, s6⟩ := ncl7 KS_161.out
            have hmf : ∀ (fn : Fn) (first cap : Array Value) (w : World), (Instr.makeFunc fn first cap).run Try.prog w = .ok (.func fn first cap) w := fun _ _ _ _ => rfl
            obtain ⟨ix, hix⟩ : ∃ ix, l1.length = ix := ⟨_, rfl⟩
            have HIX := hid (IdxLast_any xs l1 l2 t (fun y => decide (y.1 = snode)) va q vc S1 u33_1034 (Leads.of_own1 HWAS_163.out) HXL.out (by omega) (fun y W hb => last1_any y snode S1 W (cell_laid (i := 4) (keep_laid KS_161.out hb) rfl) (lt_laid (keep_laid KS_161.out hb))) HX12.out (fun x hx => decide_eq_false (by rw [HNT.out]; exact HDIF.out x hx)) (decide_eq_true HNT.out.symm))
            rw [hix] at HIX HNX
            have hiq : ix < q := by rw [← HXL.out, HX12.out, ← hix]; simp
            clear hix
            go_wp2_with fail
            refine (HIX.out).mono ?_
            rintro e w35_1062 ⟨rfl, hbn⟩
            have HMB_167 := hid (keep_laid HMB_159.out hbn)
            have KE_168 := hid (keep_laid KE_160.out hbn)
            have KS_169 := hid (keep_laid KS_161.out hbn)
            have HB_170 := hid (HB_162.out.trans (hbn.mono HB_162.out.size))
            have HWAS_171 := hid (own_grow HWAS_163.out hbn)
            have HMN_172 := hid (HMN_164.out.grow hbn)
            have KP17_173 := hid (keep_laid KP17_165.out hbn)
            have KP18_174 := hid (keep_laid KP18_166.out hbn)
            clear HMB_159 KE_160 KS_161 HB_162 HWAS_163 HMN_164 KP17_165 KP18_166 hbn HIX hmf t6 t6n s0 s1 s2 s3 s4 s5 s6 e0 e1 e2 e3 e4 e5 e6 e7
            obtain ⟨m0, m1, m2⟩ := cells3 HMB_167.out
            obtain ⟨s0, s1, s2, s3, s4, s5, s6⟩ := ncl7 KS_169.out
            obtain ⟨sq2, hs2⟩ : ∃ sq2, snode + 2 = sq2 := ⟨_, rfl⟩
            have HST := hid (Step_any M2 wan lan wcn lcn false 1 ((sq2 : Nat) : Int) 0 0 w35_1062 HMN_172.out.memL HQE.out.1 ⟨by omega, by omega⟩ rfl)
            have hq2 := HQE.out.2.2 rfl
            rw [hs2] at hq2
            rw [load_live hq2.1, hq2.2] at HST
            unfold GivesG memV at HST
            dsimp only at HST
            have ts2 : ((snode : Nat) : Int) + 2 = ((sq2 : Nat) : Int) := by omega
            clear hq2 hs2
            go_wp2_with fail
            refine (HST.out).mono ?_
            rintro e w36_1085 ⟨wao, wco, lao, lco, rfl, hO, hbn⟩
            have HMB_175 := hid (keep_laid HMB_167.out hbn)
            have KE_176 := hid (keep_laid KE_168.out hbn)
            have KS_177 := hid (keep_laid KS_169.out hbn)
            have HB_178 := hid (HB_170.out.trans (hbn.mono HB_170.out.size))
            have HWAS_179 := hid (own_grow HWAS_171.out hbn)
            have HMN_180 := hid (HMN_172.out.grow hbn)
            have KP17_181 := hid (keep_laid KP17_173.out hbn)
            have KP18_182 := hid (keep_laid KP18_174.out hbn)
            clear HMB_167 KE_168 KS_169 HB_170 HWAS_171 HMN_172 KP17_173 KP18_174 hbn HST m0 m1 m2 ts2 s0 s1 s2 s3 s4 s5 s6
            have hxa := hO.memL.w.len
            have hxb := hO.memL.l.len
            clear hO
            obtain ⟨w37_1100, hw37_1100, hbn, hsn, hln⟩ := laid w36_1085 #[.slice none 0 0, .slice none 0 0, .bool false] 25
            obtain ⟨P23, hNMP23⟩ : ∃ X, w36_1085.heap.size = X := ⟨_, rfl⟩
            rw [hNMP23] at hln
            have nMbP23 : Mb < P23 := by have := lt_laid HMB_175.out; omega
            have nEP23 : E < P23 := by have := lt_laid KE_176.out; omega
            have nS1P23 : S1 < P23 := by have := lt_laid KS_177.out; omega
            have nP17P23 : P17 < P23 := by have := lt_laid KP17_181.out; omega
            have nP18P23 : P18 < P23 := by have := lt_laid KP18_182.out; omega
            have hVP23 : V.heap.size ≤ P23 := by have := HB_178.out.size; omega
            have HMB_183 := hid (keep_laid HMB_175.out hbn)
            have KE_184 := hid (keep_laid KE_176.out hbn)
            have KS_185 := hid (keep_laid KS_177.out hbn)
            have HB_186 := hid (HB_178.out.trans (hbn.mono HB_178.out.size))
            have HWAS_187 := hid (own_grow HWAS_179.out hbn)
            have HMN_188 := hid (HMN_180.out.grow hbn)
            have KP17_189 := hid (keep_laid KP17_181.out hbn)
            have KP18_190 := hid (keep_laid KP18_182.out hbn)
            clear HMB_175 KE_176 KS_177 HB_178 HWAS_179 HMN_180 KP17_181 KP18_182 hbn hsn
            have KP23_191 := hid (hln)
            clear hln
            obtain ⟨w38_1120, hw38_1120, hbn, hsn, hln⟩ := laid w37_1100 #[.int .u64 0, .bool false] 69
            obtain ⟨P24, hNMP24⟩ : ∃ X, w37_1100.heap.size = X := ⟨_, rfl⟩
            rw [hNMP24] at hln
            have nMbP24 : Mb < P24 := by have := lt_laid HMB_183.out; omega
            have nEP24 : E < P24 := by have := lt_laid KE_184.out; omega
            have nS1P24 : S1 < P24 := by have := lt_laid KS_185.out; omega
            have nP17P24 : P17 < P24 := by have := lt_laid KP17_189.out; omega
            have nP18P24 : P18 < P24 := by have := lt_laid KP18_190.out; omega
            have nP23P24 : P23 < P24 := by have := lt_laid KP23_191.out; omega
            have hVP24 : V.heap.size ≤ P24 := by have := HB_186.out.size; omega
            have HMB_192 := hid (keep_laid HMB_183.out hbn)
            have KE_193 := hid (keep_laid KE_184.out hbn)
            have KS_194 := hid (keep_laid KS_185.out hbn)
            have HB_195 := hid (HB_186.out.trans (hbn.mono HB_186.out.size))
            have HWAS_196 := hid (own_grow HWAS_187.out hbn)
            have HMN_197 := hid (HMN_188.out.grow hbn)
            have KP17_198 := hid (keep_laid KP17_189.out hbn)
            have KP18_199 := hid (keep_laid KP18_190.out hbn)
            have KP23_200 := hid (keep_laid KP23_191.out hbn)
            clear HMB_183 KE_184 KS_185 HB_186 HWAS_187 HMN_188 KP17_189 KP18_190 KP23_191 hbn hsn
            have KP24_201 := hid (hln)
            clear hln
            have g0 := cell_laid (i := 0) KP24_201.out rfl
            have gf0 := free_laid (i := 0) KP24_201.out
            have g1 := cell_laid (i := 1) KP24_201.out rfl
            have gf1 := free_laid (i := 1) KP24_201.out
            have KP23_200_o := KP23_200
            obtain ⟨u39_1147, hu39_1147, a1, a2, a3, a4⟩ := put_mem KP23_200.out (.slice wao M2.W.length wco) (.slice lao M2.L.length lco) (.bool M2.F)
            obtain ⟨z0, zf0, z1, zf1, z2, zf2⟩ := fcl3 KP23_200.out
            have E40_1147 := hid hu39_1147
            have HMB_202 := hid (a2 Mb _ (by omega) HMB_192.out)
            have KE_203 := hid (a2 E _ (by omega) KE_193.out)
            have KS_204 := hid (a2 S1 _ (by omega) KS_194.out)
            have HB_205 := hid (a3 _ _ (by omega) HB_195.out)
            have HWAS_206 := hid (own_keep HWAS_196.out fun k o hk ho => a2 k o (fun e => own_ne2 HWAS_196.out KP23_200_o.out (by decide) (by rw [← e]; exact hk)) ho)
            have HMN_207 := hid (a4 _ _ _ _ _ _ HMN_197.out)
            have KP17_208 := hid (a2 P17 _ (by omega) KP17_198.out)
            have KP18_209 := hid (a2 P18 _ (by omega) KP18_199.out)
            have KP23_210 := hid (a1)
            have KP24_211 := hid (a2 P24 _ (by omega) KP24_201.out)
            clear HMB_192 KE_193 KS_194 HB_195 HWAS_196 HMN_197 KP17_198 KP18_199 KP23_200 KP24_201 hu39_1147 a1 a2 a3 a4
            clear KP23_200_o
            obtain ⟨ub, hub, a1, a2, a3⟩ := put2 KP24_211.out (.int .u64 ((nxt : Nat) : Int)) (.bool true)
            have E9 := hid hub
            have hB9 := hid (a3 _ _ (by omega) HB_205.out)
            have hW9 := hid (own_keep HWAS_206.out fun k o hk ho => a2 k o (fun e => own_ne2 HWAS_206.out KP24_211.out (by decide) (by rw [← e]; exact hk)) ho)
            have hK9 := hid a1
            clear hub a1 a2 a3
            clear HMB_202 KE_203 KS_204 HB_205 HWAS_206 HMN_207 KP17_208 KP18_209 KP23_210 KP24_211
            go_upto_region 32 with (fail)
            rw [← E40_1147.out, ← E9.out]
            clear z0 z1 z2 zf0 zf1 zf2 g0 gf0 g1 gf1 hNMP23 hNMP24
            have ti : decide (((ix : Nat) : Int) < 0) = false := by simp
            have k0 := cell_laid (i := 0) hK9.out rfl
            by_cases hlast : ix + 1 = q
            · have tl : (((ix : Nat) : Int) == ((q : Nat) : Int) - 1) = true := by simp; omega
              have hz : nxt = 0 := by
                have h1 := HNX.out
                rwa [List.getElem?_eq_none (by rw [HXL.out]; omega)] at h1
              subst hz
              go_wp2
              go_ret
              exact ⟨rfl, hB9.out⟩
            · have tl : (((ix : Nat) : Int) == ((q : Nat) : Int) - 1) = false := by simp; omega
              obtain ⟨x, hx⟩ : ∃ x, xs[ix + 1]? = some x := ⟨_, List.getElem?_eq_getElem (by rw [HXL.out]; omega)⟩
              have hz : nxt = x.1 := by
                have h1 := HNX.out
                rwa [hx] at h1
              obtain ⟨bo, oo, rfl, hbo, hcx⟩ := (Leads.of_own1 hW9.out).nd (by omega) hx
              subst hz
              have f0 : ∀ z : Ext ub, z.v.cell? ⟨P24, 0, none⟩ = some (.int .u64 ((x.1 : Nat) : Int)) := fun z => cell_laid (keep_laid hK9.out z.b) rfl
              have f1 : ∀ z : Ext ub, z.v.cell? ⟨bo, oo + (ix + 1) * 4, none⟩ = some (.int .u64 ((x.1 : Nat) : Int)) := fun z => (hcx z.v z.b).1
              clear hcx k0 hbo
              go_upto_region 36 with (fail)
              refine wp_region_ext (by kernel_rfl) (by kernel_rfl) ?_
              repeat (go_big_quiet_step (fail))
              refine wpQuiet_nil ?_
              rintro v8 ⟨x8, e8⟩
              have HB2 := hid (hB9.out.trans (x8.b.mono hB9.out.size))
              rw [← e8] at HB2
              clear e8 x8
              go_wp2
              go_ret
              exact ⟨rfl, HB2.out⟩
          | false =>
            obtain ⟨h6, hzx, m, hm, hl2⟩ : d2.ph ≠ 6 ∧ zs = xs ∧ ∃ m, N = m + 1 ∧ Lst head xs ys (Qend true snode nxt) m M2 d2 := by
              rcases HCA.out with ⟨h1, -⟩ | ⟨-, h1, h2, h3⟩
              · cases h1
              · exact ⟨h1, h2, h3⟩
            have t6 : (d2.ph == 6) = false := by simpa using h6
            have HL2 := hid hl2
            have HNM2 := hid hm
            clear HCA h6 hzx hm hl2
            go_wp2_with fail
            refine (HEQ.out).mono ?_
            rintro e w29_1213 ⟨rfl, hbn⟩
            have HMB_135 := hid (keep_laid HMB_127.out hbn)
            have KE_136 := hid (keep_laid KE_128.out hbn)
            have KS_137 := hid (keep_laid KS_129.out hbn)
            have HB_138 := hid (HB_130.out.trans (hbn.mono HB_130.out.size))
            have HWAS_139 := hid (own_grow HWAS_131.out hbn)
            have HMN_140 := hid (HMN_132.out.grow hbn)
            have KP17_141 := hid (keep_laid KP17_133.out hbn)
            have KP18_142 := hid (keep_laid KP18_134.out hbn)
            clear HMB_127 KE_128 KS_129 HB_130 HWAS_131 HMN_132 KP17_133 KP18_134 hbn HEQ t7
            go_upto_region 23 with (fail)
            obtain ⟨D30_1226, hD⟩ : ∃ DX, w29_1213.drew = DX := ⟨_, rfl⟩
            have hbD : Below w29_1213.heap.size w29_1213 D30_1226 := by rw [← hD]; exact (Below.refl _ _).drew
            have HD := hid hD
            clear hD
            have HMB_143 := hid (keep_laid HMB_135.out hbD)
            have KE_144 := hid (keep_laid KE_136.out hbD)
            have KS_145 := hid (keep_laid KS_137.out hbD)
            have HB_146 := hid (HB_138.out.trans (hbD.mono HB_138.out.size))
            have HWAS_147 := hid (own_grow HWAS_139.out hbD)
            have HMN_148 := hid (HMN_140.out.grow hbD)
            have KP17_149 := hid (keep_laid KP17_141.out hbD)
            have KP18_150 := hid (keep_laid KP18_142.out hbD)
            clear HMB_135 KE_136 KS_137 HB_138 HWAS_139 HMN_140 KP17_141 KP18_142 hbD
            haveI : Nonempty (RLL P17 P18 #[.slice wan M2.W.length wcn, .slice lan M2.L.length lcn, .bool M2.F] #[.int .i64 d2.ph, .bool d2.cuts, .int .u64 ((d2.link : Nat) : Int), .int .u64 ((d2.at_ : Nat) : Int), .int .u64 ((d2.key : Nat) : Int), .int .u64 ((d2.val : Nat) : Int), .int .u64 ((d2.hash : Nat) : Int), .int .u64 ((d2.next : Nat) : Int)]) := ⟨⟨D30_1226, KP17_149.out, KP18_150.out⟩⟩
            have r0 : ∀ z : RLL P17 P18 #[.slice wan M2.W.length wcn, .slice lan M2.L.length lcn, .bool M2.F] #[.int .i64 d2.ph, .bool d2.cuts, .int .u64 ((d2.link : Nat) : Int), .int .u64 ((d2.at_ : Nat) : Int), .int .u64 ((d2.key : Nat) : Int), .int .u64 ((d2.val : Nat) : Int), .int .u64 ((d2.hash : Nat) : Int), .int .u64 ((d2.next : Nat) : Int)], z.w.cell? ⟨P17, 0, none⟩ = some (.slice wan M2.W.length wcn) := fun z => cell_laid z.bx rfl
            have r1 : ∀ z : RLL P17 P18 #[.slice wan M2.W.length wcn, .slice lan M2.L.length lcn, .bool M2.F] #[.int .i64 d2.ph, .bool d2.cuts, .int .u64 ((d2.link : Nat) : Int), .int .u64 ((d2.at_ : Nat) : Int), .int .u64 ((d2.key : Nat) : Int), .int .u64 ((d2.val : Nat) : Int), .int .u64 ((d2.hash : Nat) : Int), .int .u64 ((d2.next : Nat) : Int)], z.w.cell? ⟨P17, 1, none⟩ = some (.slice lan M2.L.length lcn) := fun z => cell_laid z.bx rfl
            have r2 : ∀ z : RLL P17 P18 #[.slice wan M2.W.length wcn, .slice lan M2.L.length lcn, .bool M2.F] #[.int .i64 d2.ph, .bool d2.cuts, .int .u64 ((d2.link : Nat) : Int), .int .u64 ((d2.at_ : Nat) : Int), .int .u64 ((d2.key : Nat) : Int), .int .u64 ((d2.val : Nat) : Int), .int .u64 ((d2.hash : Nat) : Int), .int .u64 ((d2.next : Nat) : Int)], z.w.cell? ⟨P17, 2, none⟩ = some (.bool M2.F) := fun z => cell_laid z.bx rfl
            have q0 : ∀ z : RLL P17 P18 #[.slice wan M2.W.length wcn, .slice lan M2.L.length lcn, .bool M2.F] #[.int .i64 d2.ph, .bool d2.cuts, .int .u64 ((d2.link : Nat) : Int), .int .u64 ((d2.at_ : Nat) : Int), .int .u64 ((d2.key : Nat) : Int), .int .u64 ((d2.val : Nat) : Int), .int .u64 ((d2.hash : Nat) : Int), .int .u64 ((d2.next : Nat) : Int)], z.w.cell? ⟨P18, 0, none⟩ = some (.int .i64 d2.ph) := fun z => cell_laid z.by_ rfl
            have q1 : ∀ z : RLL P17 P18 #[.slice wan M2.W.length wcn, .slice lan M2.L.length lcn, .bool M2.F] #[.int .i64 d2.ph, .bool d2.cuts, .int .u64 ((d2.link : Nat) : Int), .int .u64 ((d2.at_ : Nat) : Int), .int .u64 ((d2.key : Nat) : Int), .int .u64 ((d2.val : Nat) : Int), .int .u64 ((d2.hash : Nat) : Int), .int .u64 ((d2.next : Nat) : Int)], z.w.cell? ⟨P18, 1, none⟩ = some (.bool d2.cuts) := fun z => cell_laid z.by_ rfl
            have q2 : ∀ z : RLL P17 P18 #[.slice wan M2.W.length wcn, .slice lan M2.L.length lcn, .bool M2.F] #[.int .i64 d2.ph, .bool d2.cuts, .int .u64 ((d2.link : Nat) : Int), .int .u64 ((d2.at_ : Nat) : Int), .int .u64 ((d2.key : Nat) : Int), .int .u64 ((d2.val : Nat) : Int), .int .u64 ((d2.hash : Nat) : Int), .int .u64 ((d2.next : Nat) : Int)], z.w.cell? ⟨P18, 2, none⟩ = some (.int .u64 ((d2.link : Nat) : Int)) := fun z => cell_laid z.by_ rfl
            have q3 : ∀ z : RLL P17 P18 #[.slice wan M2.W.length wcn, .slice lan M2.L.length lcn, .bool M2.F] #[.int .i64 d2.ph, .bool d2.cuts, .int .u64 ((d2.link : Nat) : Int), .int .u64 ((d2.at_ : Nat) : Int), .int .u64 ((d2.key : Nat) : Int), .int .u64 ((d2.val : Nat) : Int), .int .u64 ((d2.hash : Nat) : Int), .int .u64 ((d2.next : Nat) : Int)], z.w.cell? ⟨P18, 3, none⟩ = some (.int .u64 ((d2.at_ : Nat) : Int)) := fun z => cell_laid z.by_ rfl
            have q4 : ∀ z : RLL P17 P18 #[.slice wan M2.W.length wcn, .slice lan M2.L.length lcn, .bool M2.F] #[.int .i64 d2.ph, .bool d2.cuts, .int .u64 ((d2.link : Nat) : Int), .int .u64 ((d2.at_ : Nat) : Int), .int .u64 ((d2.key : Nat) : Int), .int .u64 ((d2.val : Nat) : Int), .int .u64 ((d2.hash : Nat) : Int), .int .u64 ((d2.next : Nat) : Int)], z.w.cell? ⟨P18, 4, none⟩ = some (.int .u64 ((d2.key : Nat) : Int)) := fun z => cell_laid z.by_ rfl
            have q5 : ∀ z : RLL P17 P18 #[.slice wan M2.W.length wcn, .slice lan M2.L.length lcn, .bool M2.F] #[.int .i64 d2.ph, .bool d2.cuts, .int .u64 ((d2.link : Nat) : Int), .int .u64 ((d2.at_ : Nat) : Int), .int .u64 ((d2.key : Nat) : Int), .int .u64 ((d2.val : Nat) : Int), .int .u64 ((d2.hash : Nat) : Int), .int .u64 ((d2.next : Nat) : Int)], z.w.cell? ⟨P18, 5, none⟩ = some (.int .u64 ((d2.val : Nat) : Int)) := fun z => cell_laid z.by_ rfl
            have q6 : ∀ z : RLL P17 P18 #[.slice wan M2.W.length wcn, .slice lan M2.L.length lcn, .bool M2.F] #[.int .i64 d2.ph, .bool d2.cuts, .int .u64 ((d2.link : Nat) : Int), .int .u64 ((d2.at_ : Nat) : Int), .int .u64 ((d2.key : Nat) : Int), .int .u64 ((d2.val : Nat) : Int), .int .u64 ((d2.hash : Nat) : Int), .int .u64 ((d2.next : Nat) : Int)], z.w.cell? ⟨P18, 6, none⟩ = some (.int .u64 ((d2.hash : Nat) : Int)) := fun z => cell_laid z.by_ rfl
            have q7 : ∀ z : RLL P17 P18 #[.slice wan M2.W.length wcn, .slice lan M2.L.length lcn, .bool M2.F] #[.int .i64 d2.ph, .bool d2.cuts, .int .u64 ((d2.link : Nat) : Int), .int .u64 ((d2.at_ : Nat) : Int), .int .u64 ((d2.key : Nat) : Int), .int .u64 ((d2.val : Nat) : Int), .int .u64 ((d2.hash : Nat) : Int), .int .u64 ((d2.next : Nat) : Int)], z.w.cell? ⟨P18, 7, none⟩ = some (.int .u64 ((d2.next : Nat) : Int)) := fun z => cell_laid z.by_ rfl
            refine wp_region_mix2 (fun W => ∃ z : RLL P17 P18 #[.slice wan M2.W.length wcn, .slice lan M2.L.length lcn, .bool M2.F] #[.int .i64 d2.ph, .bool d2.cuts, .int .u64 ((d2.link : Nat) : Int), .int .u64 ((d2.at_ : Nat) : Int), .int .u64 ((d2.key : Nat) : Int), .int .u64 ((d2.val : Nat) : Int), .int .u64 ((d2.hash : Nat) : Int), .int .u64 ((d2.next : Nat) : Int)], W = z.w) 4 (.q 0 (.q 1 (.h 2 (.h 3 .done)))) (by kernel_rfl) (by kernel_rfl) (by rw [HD.out]; exact ⟨⟨D30_1226, KP17_149.out, KP18_150.out⟩, rfl⟩) ?_
            rw [HD.out]
            repeat (refine wpMix2_q rfl rfl ?_; go_big_quiet_step (fail); refine wpQuiet_nil ?_)
            refine wpMix2_h rfl fun R' hR' hO => ?_
            have HMB_143_o := HMB_143
            obtain ⟨u31_1256, hu31_1256, a1, a2, a3, a4⟩ := put_mem HMB_143.out (.slice wan M2.W.length wcn) (.slice lan M2.L.length lcn) (.bool M2.F)
            obtain ⟨z0, zf0, z1, zf1, z2, zf2⟩ := fcl3 HMB_143.out
            have E32_1256 := hid hu31_1256
            have HMB_151 := hid (a1)
            have KE_152 := hid (a2 E _ (by omega) KE_144.out)
            have KS_153 := hid (a2 S1 _ (by omega) KS_145.out)
            have HB_154 := hid (a3 _ _ (by omega) HB_146.out)
            have HWAS_155 := hid (own_keep HWAS_147.out fun k o hk ho => a2 k o (fun e => own_ne2 HWAS_147.out HMB_143_o.out (by decide) (by rw [← e]; exact hk)) ho)
            have HMN_156 := hid (a4 _ _ _ _ _ _ HMN_148.out)
            have KP17_157 := hid (a2 P17 _ (by omega) KP17_149.out)
            have KP18_158 := hid (a2 P18 _ (by omega) KP18_150.out)
            clear HMB_143 KE_144 KS_145 HB_146 HWAS_147 HMN_148 KP17_149 KP18_150 hu31_1256 a1 a2 a3 a4
            clear HMB_143_o
            go_wp2
            rw [← E32_1256.out]
            refine hR' _ _ ⟨⟨u31_1256, KP17_157.out, KP18_158.out⟩, rfl⟩ ?_
            clear hR' hO R' z0 z1 z2 zf0 zf1 zf2
            refine wpMix2_h rfl fun R' hR' hO => ?_
            have KE_152_o := KE_152
            obtain ⟨u33_1275, hu33_1275, a1, a2, a3, a4, a5⟩ := putM8 KE_152.out (.int .i64 d2.ph) (.bool d2.cuts) (.int .u64 ((d2.link : Nat) : Int)) (.int .u64 ((d2.at_ : Nat) : Int)) (.int .u64 ((d2.key : Nat) : Int)) (.int .u64 ((d2.val : Nat) : Int)) (.int .u64 ((d2.hash : Nat) : Int)) (.int .u64 ((d2.next : Nat) : Int))
            obtain ⟨z0, zf0, z1, zf1, z2, zf2, z3, zf3, z4, zf4, z5, zf5, z6, zf6, z7, zf7⟩ := fcl8 KE_152.out
            have E34_1275 := hid hu33_1275
            have HMB_159 := hid (a2 Mb _ (by omega) HMB_151.out)
            have KE_160 := hid (a1)
            have KS_161 := hid (a2 S1 _ (by omega) KS_153.out)
            have HB_162 := hid (a3 _ _ (by omega) HB_154.out)
            have HWAS_163 := hid (own_keep HWAS_155.out fun k o hk ho => a2 k o (fun e => own_ne2 HWAS_155.out KE_152_o.out (by decide) (by rw [← e]; exact hk)) ho)
            have HMN_164 := hid (a4 _ _ _ _ _ _ (by decide) (by decide) HMN_156.out)
            have KP17_165 := hid (a2 P17 _ (by omega) KP17_157.out)
            have KP18_166 := hid (a2 P18 _ (by omega) KP18_158.out)
            clear HMB_151 KE_152 KS_153 HB_154 HWAS_155 HMN_156 KP17_157 KP18_158 hu33_1275 a1 a2 a3 a4 a5
            clear KE_152_o
            go_wp2
            rw [← E34_1275.out]
            refine hR' _ _ ⟨⟨u33_1275, KP17_165.out, KP18_166.out⟩, rfl⟩ ?_
            clear hR' hO R' z0 z1 z2 z3 z4 z5 z6 z7 zf0 zf1 zf2 zf3 zf4 zf5 zf6 zf7
            refine wpMix2_done ?_
            simp only [List.drop_succ_cons, List.drop_nil]
            clear r0 r1 r2 q0 q1 q2 q3 q4 q5 q6 q7 HD
            obtain ⟨e0, e1, e2, e3, e4, e5, e6, e7⟩ := ncl8 KE_160.out
            go_wp2
            go_roundg (gk - 1)
            case measure => have := HK.out; omega
            case rel => exact ⟨i + 1, m, wan, wcn, lan, lcn, M2, d2, by have := HK.out; omega, by go_num, hid ⟨HMB_159.out, KE_160.out, KS_161.out, HMN_164.out, HB_162.out, HWAS_163.out, HL2.out⟩, by have := HNI.out; have := HNM2.out; omega⟩
  · have tc0 : (((code : Nat) : Int) != 0) = true := by simp; omega
    go_wp2
    go_ret
    exact ⟨rfl, HB_16.out⟩
end Go.Proofs.Ytdkkjcflcegeoaa
