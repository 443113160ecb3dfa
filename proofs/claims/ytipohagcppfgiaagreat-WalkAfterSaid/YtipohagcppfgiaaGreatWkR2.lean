/- Walk (printed by gen_wkr2.py): the document's Write. -/
import Derived.Test.YtipohagcppfgiaaGreatWkR
import Derived.Test.YtipohagcppfgiaaGreatLsRef3
import Derived.Test.YtipohagcppfgiaaGreatLsRef4
namespace Go.Proofs.YtipohagcppfgiaaGreat
open Go.RowKit
open Go.Proofs
set_option linter.unusedVariables false
attribute [local go_sem] Oper.semAt_some
theorem kept_apart {a a' : Option Addr} {V W : World} {E : Nat} (hl : lowA a V.heap.size) (hk : keptA W a a') (h1 : V.heap.size ≤ E) (h2 : E < W.heap.size) : apartA a' E := fun b off e => by
 rcases hk with rfl | hk
 ·have := hl b off e; omega
 ·have := hk b off e; omega
theorem MemL.keepNe {W W' : World} {wa la : Option Addr} {wc lc E : Nat} {M : Mem} (h : MemL W wa wc la lc M) (aw : apartA wa E) (al : apartA la E) (hk : ∀ (k : Nat) (o : Obj), k ≠ E → W.heap[k]? = some o → W'.heap[k]? = some o) : MemL W' wa wc la lc M := ⟨h.w.keepNe aw hk, h.l.keepNe al hk⟩
/-- As GivesD; and where the rows lie. -/
def GivesDk (wa0 la0 ra0 : Option Addr) (rc0 : Nat) (g : Gst) (V : World) (e : Ending) (W : World) : Prop := ∃ wa wc la lc ra rc, e = .returned (wdV wa wc la lc ra rc g) ∧ WdL W wa wc la lc ra rc g ∧ Below V.heap.size V W ∧ keptA V wa0 wa ∧ keptA V la0 la ∧ ra = ra0 ∧ rc = rc0
theorem beginsG_M (J : List Jb) (head : Nat) (g : Gst) : (beginsG J head g).M = g.M ∧ (beginsG J head g).R = g.R := ⟨rfl, rfl⟩
section
variable {J : List Jb} {head d : Nat} {M M2 : Mem} {e e2 : Ede} {s s2 : Sk} {R : List Sk} {c : Nat} {j : Jb}
theorem writeG_e6 (hd : d ≠ J.length) (h : seditP M e = (M2, e2, c)) (h6 : e2.ph = 6) : writeG J head ⟨M, d, true, e, s, R⟩ = beginsG J head ⟨M2, d + 1, true, e2, s, R⟩ := by
 unfold writeG; rw [if_neg hd, if_pos rfl]; unfold editG; dsimp only; rw [h]; dsimp only; rw [if_pos h6]; rfl
theorem writeG_en (hd : d ≠ J.length) (h : seditP M e = (M2, e2, c)) (h6 : e2.ph ≠ 6) : writeG J head ⟨M, d, true, e, s, R⟩ = ⟨M2, d, true, e2, s, R⟩ := by
 unfold writeG; rw [if_neg hd, if_pos rfl]; unfold editG; dsimp only; rw [h]; dsimp only; rw [if_neg h6]
theorem writeG_sn (hd : d ≠ J.length) (h : sseekP M s = (M2, s2, c)) (h4 : s2.ph ≠ 4) : writeG J head ⟨M, d, false, e, s, R⟩ = ⟨M2, d, false, e, s2, R⟩ := by
 unfold writeG; rw [if_neg hd, if_neg (by simp)]; unfold seekG; dsimp only; rw [h]; dsimp only; rw [if_neg h4]
theorem writeG_so (hd : d ≠ J.length) (h : sseekP M s = (M2, s2, c)) (h4 : s2.ph = 4) : writeG J head ⟨M, d, false, e, s, R⟩ = overG J head ⟨M2, d, false, e, s2, R⟩ := by
 unfold writeG; rw [if_neg hd, if_neg (by simp)]; unfold seekG; dsimp only; rw [h]; dsimp only; rw [if_pos h4]
theorem overG_cut (hj : J[d]? = some j) (h1 : j.1 = true) (h2 : s2.found = true) : overG J head ⟨M2, d, false, e, s2, R⟩ = ⟨M2, d, true, cutK s2.link s2.node, s2, R⟩ := by
 unfold overG; dsimp only; rw [hj]; dsimp only; rw [if_pos ⟨h1, h2⟩]
theorem overG_put (hj : J[d]? = some j) (h1 : j.1 = false) (h2 : s2.found = false) : overG J head ⟨M2, d, false, e, s2, R⟩ = ⟨M2, d, true, putK s2.link j.2 s2.node, s2, R⟩ := by
 unfold overG; dsimp only; rw [hj]; dsimp only; rw [if_neg (by rw [h1]; simp), if_pos ⟨h1, h2⟩]
theorem overG_done (hj : J[d]? = some j) (h1 : j.1 ≠ s2.found) : overG J head ⟨M2, d, false, e, s2, R⟩ = beginsG J head ⟨M2, d + 1, false, e, s2, R⟩ := by
 unfold overG; dsimp only; rw [hj]; dsimp only; rw [if_neg (fun h => h1 (h.1.trans h.2.symm)), if_neg (fun h => h1 (h.1.trans h.2.symm))]; rfl
end
theorem Write_result {W : World} {b : Nat} {vs : Array Value} {tmps : Array Value} (h : W.heap[b]? = some (.cells vs 49 (0, 0))) (hs : vs.size = 21) (q4 : tmps[4]?.getD undef = .pointer (some ⟨b, 0, none⟩)) :
  (results Tryz.f39 tmps).run Tryz.prog W = .ok (.agg vs) W := by
 have hl := run_loadVar_row (P := Tryz.prog) W b 49 49 vs (0, 0) _ h Tryz.underlying49 rfl (by rw [hs]; kernel_rfl)
 have ha : (asAddr (.pointer (some ⟨b, 0, none⟩))).run Tryz.prog W = .ok ⟨b, 0, none⟩ W := rfl
 simp [results, Tryz.results39, q4, ha, hl]
set_option maxRecDepth 100000 in
set_option maxHeartbeats 16000000 in
theorem Write_any (w : Wal) (g : Gst) (wa la ja ka wa' la' ra' : Option Addr) (wc lc jc kc nk wc' lc' rc' : Nat) (V : World) (hj : Leads V ja w.J.length jc (jbcells w.J)) (hg : WdL V wa' wc' la' lc' ra' rc' g) (hok : okM g.M = true) (hd : g.done < w.J.length) (he : g.ed.Ok) (hs : g.wr.Ok) (he0 : g.edits = true → 0 ≤ g.ed.ph ∧ g.ed.ph ≤ 7) (hs0 : g.edits = false → 0 ≤ g.wr.ph ∧ g.wr.ph ≤ 5) :
  Calls Tryz.prog 39 #[walV wa wc la lc ja w.J.length jc ka nk kc w, wdV wa' wc' la' lc' ra' rc' g] V (GivesDk wa' la' ra' rc' (writeG w.J w.head g) V) := by
 obtain ⟨M, d, eb, e, s, R⟩ := g
 dsimp only at hok hd he hs he0 hs0
 unfold walV
 obtain ⟨V1, hV1, hb1, hs1, hl1⟩ := laid V (wal8 wa w.M.W.length wc la w.M.L.length lc w.M.F w.head ja w.J.length jc ka nk kc) 30
 obtain ⟨X, hX⟩ := nm (V.heap.size)
 rw [hX] at hl1
 obtain ⟨V2, hV2, hb2, hs2, hl2⟩ := laid V1 (w21 wa' M.W.length wc' la' M.L.length lc' M.F d eb e s ra' R.length rc') 49
 obtain ⟨Y, hY⟩ := nm (V1.heap.size)
 rw [hY] at hl2
 obtain ⟨V3, hV3, hb3, hs3, hl3⟩ := laid V2 (w21 none 0 0 none 0 0 false 0 false zeroEd zeroSk none 0 0) 49
 obtain ⟨T, hT⟩ := nm (V2.heap.size)
 rw [hT] at hl3
 have hV3' : V2.alloc (.cells #[.slice none 0 0, .slice none 0 0, .bool false, .int .i64 0, .bool false, .int .i64 0, .bool false, .int .u64 0, .int .u64 0, .int .u64 0, .int .u64 0, .int .u64 0, .int .u64 0, .int .i64 0, .int .u64 0, .int .u64 0, .int .u64 0, .int .u64 0, .int .u64 0, .bool false, .slice none 0 0] 49) = V3 := hV3
 obtain ⟨V4, hV4, hb4, hs4, hl4⟩ := laid V3 #[.bool false, .int .u64 0, .int .u64 0, .int .u64 0, .int .u64 0] 66
 obtain ⟨Jb, hJb⟩ := nm (V3.heap.size)
 rw [hJb] at hl4
 have hXY : X < Y := by omega
 have hYT : Y < T := by omega
 have hTJ : T < Jb := by omega
 have hVX : V.heap.size ≤ X := by omega
 have hVY : V.heap.size ≤ Y := by omega
 have hVT : V.heap.size ≤ T := by omega
 have hVJb : V.heap.size ≤ Jb := by omega
 have KX0 := hid (klD (klD (klD hl1 hb2) hb3) hb4)
 have KY0 := hid (klD (klD hl2 hb3) hb4)
 have KT0 := hid (klD hl3 hb4)
 have KJ0 := hid hl4
 have HB0 := hid (step (step (step hb1 hb2) hb3) hb4)
 have HB3 := hid (step (step hb1 hb2) hb3)
 have HMV := hid hg.mem
 have HRV := hid hg.rds
 have HOK := hid hok
 have HEO := hid he
 have HSO := hid hs
 have hlw := (hg.mem.lowA hok).1
 have hll := (hg.mem.lowA hok).2
 have hjl := hj.len
 have hdne : d ≠ w.J.length := by omega
 obtain ⟨⟨cb, n0, n1, n2, n3⟩, hp⟩ : ∃ x, w.J[d]? = some x := ⟨_, List.getElem?_eq_getElem hd⟩
 have HP := hid hp
 have HJ := hid hj
 obtain ⟨jb, jo, rfl, hcc⟩ : ∃ b o, ja = some ⟨b, o, none⟩ ∧ ∀ i v, (jbcells w.J)[i]? = some v → ∀ W, Below V.heap.size V W → W.cell? ⟨b, o + i, none⟩ = some v := by
  obtain ⟨_, _, ⟨q, _⟩ | ⟨b, off, e, h3, h4⟩⟩ := hj
  ·omega
  ·exact ⟨b, off, e, fun i v hv W hW => (hW.cell (p := ⟨b, off + i, none⟩) h3).trans (h4 i v hv)⟩
 have hat : ∀ i, i < 5 → (jbcells w.J)[d * 5 + i]? = (jb5 (cb, n0, n1, n2, n3))[i]? := fun i hi => jbcell_at hp i hi
 have HRA : Hid (∀ W, Below V.heap.size V W → W.rangeAt jb (jo + d * 5) [.bool cb, .int .u64 n0, .int .u64 n1, .int .u64 n2, .int .u64 n3]) := hid (fun W hW j v hv => by
  have hj5 : j < 5 := (List.getElem?_eq_some_iff.1 hv).1
  have := hcc (d * 5 + j) v (by rw [hat j hj5]; exact hv) W hW
  rw [show jo + d * 5 + j = jo + (d * 5 + j) by omega]
  exact this)
 have hVB4 := HB0.out
 have x4 := clD (i := 4) (klD (klD hl1 hb2) hb3) rfl
 have y3 := clD (i := 3) (klD hl2 hb3) rfl
 clear hcc hat hp hb1 hs1 hl1 hb2 hs2 hl2 hb3 hs3 hl3 hb4 hs4 hl4 hV3 hj hg hok he hs
 go_enter Tryz.func39, Tryz.ntmps39
 go_upto_region 2 with (first | (refine wpList_load_mid rfl 66 (.tmp 10) rfl jb (jo + d * 5) rfl [.bool cb, .int .u64 n0, .int .u64 n1, .int .u64 n2, .int .u64 n3] _ (HRA.out _ HB3.out) Tryz.underlying66 rfl (by kernel_rfl) ?_) | (refine wsP rfl 66 (.tmp 5) (.tmp 11) rfl Jb 0 _ [.bool cb, .int .u64 n0, .int .u64 n1, .int .u64 n2, .int .u64 n3].toArray _ rfl rfl _ KJ0.out (by kernel_rfl) (Nat.le_of_ble_eq_true rfl) (by kernel_rfl) rfl ?_; intro u_1_1_2 a1 a2 a3 a4; have KX_1_1_2 := hid (a2 X _ (by omega) KX0.out); have KY_1_1_2 := hid (a2 Y _ (by omega) KY0.out); have KT_1_1_2 := hid (a2 T _ (by omega) KT0.out); have HB_1_1_2 := hid (a3 _ _ hVJb HB0.out); have KJ_1_1_2 := hid a1; clear a1 a2 a3 a4 KX0 KY0 KT0 HB0 KJ0; (try simp only [Act.put])))
 clear x4 y3 hV1 hV2 hV3' hV4 hX hY hT hJb HB3 HRA hVB4
 have y4 := clD (i := 4) KY_1_1_2.out rfl
 cases eb with
 | true =>
  replace he0 := he0 rfl
  clear hs0
  have HC := hid (rEditStep_any M e wa' la' wc' lc' u_1_1_2 (HMV.out.grow HB_1_1_2.out) HOK.out HEO.out he0.1)
  unfold GivesRE memV edV at HC
  dsimp only at HC
  obtain ⟨M2, hM2⟩ := nm ((editE M e).1)
  obtain ⟨e2, he2⟩ := nm ((editE M e).2.1)
  have HSE : Hid (seditP M e = (M2, e2, 0)) := hid (by unfold seditP; rw [HOK.out, if_neg (by decide), if_neg (by omega), hM2, he2])
  rw [hM2, he2] at HC
  clear hM2 he2
  go_wp2_with (first | (refine wp_loadP rfl 25 (.tmp 15) rfl Y 0 _ [.slice wa' M.W.length wc', .slice la' M.L.length lc', .bool M.F] rfl _ KY_1_1_2.out rfl _ Tryz.underlying25 rfl (by kernel_rfl) ?_; intro v hv; subst hv) | (refine wp_loadP rfl 44 (.tmp 17) rfl Y 5 _ [.int .i64 e.ph, .bool e.cuts, .int .u64 e.link, .int .u64 e.at_, .int .u64 e.key, .int .u64 e.val, .int .u64 e.hash, .int .u64 e.next] rfl _ KY_1_1_2.out rfl _ Tryz.underlying44 rfl (by kernel_rfl) ?_; intro v hv; subst hv))
  refine HC.out.mono ?_
  rintro e9 u_2_2_11 ⟨wa2, wc2, la2, lc2, rfl, hm2, hbn, kw, kl⟩
  have ltY := llD KY_1_1_2.out
  have KWA := hid (kw.mono (HB_1_1_2.out).size)
  have KLA := hid (kl.mono (HB_1_1_2.out).size)
  have ltT := llD KT_1_1_2.out
  have hwY := kept_apart hlw kw hVY ltY
  have hlY := kept_apart hll kl hVY ltY
  have hwT := kept_apart hlw kw hVT ltT
  have hlT := kept_apart hll kl hVT ltT
  have KX_2_2_11 := hid (klD KX_1_1_2.out hbn)
  have KY_2_2_11 := hid (klD KY_1_1_2.out hbn)
  have KT_2_2_11 := hid (klD KT_1_1_2.out hbn)
  have HB_2_2_11 := hid (HB_1_1_2.out.trans (hbn.mono HB_1_1_2.out.size))
  have KJ_2_2_11 := hid (klD KJ_1_1_2.out hbn)
  clear KX_1_1_2 KY_1_1_2 KT_1_1_2 HB_1_1_2 KJ_1_1_2
  have HM_2_2_11 := hid hm2
  clear hm2 hbn kw kl ltY ltT HC
  go_upto_region 4 with (first | (refine wsP rfl 25 (.tmp 22) (.tmp 20) rfl Y 0 _ (w21 wa2 M2.W.length wc2 la2 M2.L.length lc2 M2.F d true e s ra' R.length rc') _ rfl rfl _ KY_2_2_11.out (by kernel_rfl) (Nat.le_of_ble_eq_true rfl) (by kernel_rfl) rfl ?_; intro u_3_2_14 a1 a2 a3 a4; have KX_3_2_14 := hid (a2 X _ (by omega) KX_2_2_11.out); have KY_3_2_14 := hid a1; have KT_3_2_14 := hid (a2 T _ (by omega) KT_2_2_11.out); have HB_3_2_14 := hid (a3 _ _ hVY HB_2_2_11.out); have KJ_3_2_14 := hid (a2 Jb _ (by omega) KJ_2_2_11.out); have HM_3_2_14 := hid (HM_2_2_11.out.keepNe hwY hlY a2); clear a1 a2 a3 a4 KX_2_2_11 KY_2_2_11 KT_2_2_11 HB_2_2_11 KJ_2_2_11 HM_2_2_11; (try simp only [Act.put])) | (refine wsP rfl 44 (.tmp 23) (.tmp 21) rfl Y 5 _ (w21 wa2 M2.W.length wc2 la2 M2.L.length lc2 M2.F d true e2 s ra' R.length rc') _ rfl rfl _ KY_3_2_14.out (by kernel_rfl) (Nat.le_of_ble_eq_true rfl) (by kernel_rfl) rfl ?_; intro u_4_2_14 a1 a2 a3 a4; have KX_4_2_14 := hid (a2 X _ (by omega) KX_3_2_14.out); have KY_4_2_14 := hid a1; have KT_4_2_14 := hid (a2 T _ (by omega) KT_3_2_14.out); have HB_4_2_14 := hid (a3 _ _ hVY HB_3_2_14.out); have KJ_4_2_14 := hid (a2 Jb _ (by omega) KJ_3_2_14.out); have HM_4_2_14 := hid (HM_3_2_14.out.keepNe hwY hlY a2); clear a1 a2 a3 a4 KX_3_2_14 KY_3_2_14 KT_3_2_14 HB_3_2_14 KJ_3_2_14 HM_3_2_14; (try simp only [Act.put])))
  clear y4
  have y5 := clD (i := 5) KY_4_2_14.out rfl
  by_cases h6 : e2.ph = 6
  ·skip
   have q6 : (e2.ph == 6) = true := by simp [h6]
   have H6 := hid h6
   have y3 := clD (i := 3) KY_4_2_14.out rfl
   clear h6
   go_upto_region 6 with (refine wsP rfl 3 (.tmp 31) (.tmp 30) rfl Y 3 _ (w21 wa2 M2.W.length wc2 la2 M2.L.length lc2 M2.F (d + 1) true e2 s ra' R.length rc') _ rfl rfl _ KY_4_2_14.out (by kernel_rfl) (Nat.le_of_ble_eq_true rfl) (by kernel_rfl) rfl ?_; intro u_5_3_18 a1 a2 a3 a4; have KX_5_3_18 := hid (a2 X _ (by omega) KX_4_2_14.out); have KY_5_3_18 := hid a1; have KT_5_3_18 := hid (a2 T _ (by omega) KT_4_2_14.out); have HB_5_3_18 := hid (a3 _ _ hVY HB_4_2_14.out); have KJ_5_3_18 := hid (a2 Jb _ (by omega) KJ_4_2_14.out); have HM_5_3_18 := hid (HM_4_2_14.out.keepNe hwY hlY a2); clear a1 a2 a3 a4 KX_4_2_14 KY_4_2_14 KT_4_2_14 HB_4_2_14 KJ_4_2_14 HM_4_2_14; (try simp only [Act.put]))
   clear y3 y5 q6
   have HNX := hid (next_any w ⟨M2, d + 1, true, e2, s, R⟩ wa la (some ⟨jb, jo, none⟩) ka wa2 la2 ra' wc lc jc kc w.J.length nk wc2 lc2 rc' u_5_3_18 (HJ.out.grow HB_5_3_18.out) rfl)
   obtain ⟨g2, hg2⟩ : ∃ x, beginsG w.J w.head ⟨M2, d + 1, true, e2, s, R⟩ = x := ⟨_, rfl⟩
   rw [hg2] at HNX
   have HG2 := hid hg2
   unfold walV wdV at HNX
   dsimp only at HNX
   clear hg2
   go_wp2_with (first | (refine wlW rfl 30 (.tmp 2) rfl X _ rfl _ KX_5_3_18.out _ Tryz.underlying30 rfl (by kernel_rfl) ?_; intro v hv; subst hv) | (refine wlW rfl 49 (.tmp 3) rfl Y _ rfl _ KY_5_3_18.out _ Tryz.underlying49 rfl (by kernel_rfl) ?_; intro v hv; subst hv))
   refine HNX.out.mono ?_
   rintro e9 u_6_3_22 ⟨rfl, hbn⟩
   have KX_6_3_22 := hid (klD KX_5_3_18.out hbn)
   have KY_6_3_22 := hid (klD KY_5_3_18.out hbn)
   have KT_6_3_22 := hid (klD KT_5_3_18.out hbn)
   have HB_6_3_22 := hid (HB_5_3_18.out.trans (hbn.mono HB_5_3_18.out.size))
   have KJ_6_3_22 := hid (klD KJ_5_3_18.out hbn)
   have HM_6_3_22 := hid (HM_5_3_18.out.grow hbn)
   clear KX_5_3_18 KY_5_3_18 KT_5_3_18 HB_5_3_18 KJ_5_3_18 HM_5_3_18
   clear HNX hbn
   go_wp2_with (refine wsP rfl 49 (.tmp 4) (.tmp 34) rfl T 0 _ (w21 wa2 g2.M.W.length wc2 la2 g2.M.L.length lc2 g2.M.F g2.done g2.edits g2.ed g2.wr ra' g2.R.length rc') _ rfl rfl _ KT_6_3_22.out (by kernel_rfl) (Nat.le_of_ble_eq_true rfl) (by kernel_rfl) rfl ?_; intro u_7_3_24 a1 a2 a3 a4; have KX_7_3_24 := hid (a2 X _ (by omega) KX_6_3_22.out); have KY_7_3_24 := hid (a2 Y _ (by omega) KY_6_3_22.out); have KT_7_3_24 := hid a1; have HB_7_3_24 := hid (a3 _ _ hVT HB_6_3_22.out); have KJ_7_3_24 := hid (a2 Jb _ (by omega) KJ_6_3_22.out); have HM_7_3_24 := hid (HM_6_3_22.out.keepNe hwT hlT a2); clear a1 a2 a3 a4 KX_6_3_22 KY_6_3_22 KT_6_3_22 HB_6_3_22 KJ_6_3_22 HM_6_3_22; (try simp only [Act.put]))
   refine bodyPost_ret (Write_result KT_7_3_24.out rfl rfl) rfl ?_
   rw [writeG_e6 hdne HSE.out H6.out]
   have h1 := beginsG_M w.J w.head ⟨M2, d + 1, true, e2, s, R⟩
   rw [HG2.out] at h1 ⊢
   exact ⟨_, _, _, _, _, _, rfl, ⟨by rw [h1.1]; exact HM_7_3_24.out, by rw [h1.2]; exact HRV.out.grow HB_7_3_24.out⟩, HB_7_3_24.out, KWA.out, KLA.out, rfl, rfl⟩
  ·skip
   have q6 : (e2.ph == 6) = false := by simp [h6]
   have H6 := hid h6
   clear h6
   go_wp2_with (first | (refine wlW rfl 49 (.tmp 3) rfl Y _ rfl _ KY_4_2_14.out _ Tryz.underlying49 rfl (by kernel_rfl) ?_; intro v hv; subst hv) | (refine wsP rfl 49 (.tmp 4) (.tmp 35) rfl T 0 _ (w21 wa2 M2.W.length wc2 la2 M2.L.length lc2 M2.F d true e2 s ra' R.length rc') _ rfl rfl _ KT_4_2_14.out (by kernel_rfl) (Nat.le_of_ble_eq_true rfl) (by kernel_rfl) rfl ?_; intro u_5_3_28 a1 a2 a3 a4; have KX_5_3_28 := hid (a2 X _ (by omega) KX_4_2_14.out); have KY_5_3_28 := hid (a2 Y _ (by omega) KY_4_2_14.out); have KT_5_3_28 := hid a1; have HB_5_3_28 := hid (a3 _ _ hVT HB_4_2_14.out); have KJ_5_3_28 := hid (a2 Jb _ (by omega) KJ_4_2_14.out); have HM_5_3_28 := hid (HM_4_2_14.out.keepNe hwT hlT a2); clear a1 a2 a3 a4 KX_4_2_14 KY_4_2_14 KT_4_2_14 HB_4_2_14 KJ_4_2_14 HM_4_2_14; (try simp only [Act.put])))
   refine bodyPost_ret (Write_result KT_5_3_28.out rfl rfl) rfl ?_
   rw [writeG_en hdne HSE.out H6.out]
   exact ⟨_, _, _, _, _, _, rfl, ⟨HM_5_3_28.out, HRV.out.grow HB_5_3_28.out⟩, HB_5_3_28.out, KWA.out, KLA.out, rfl, rfl⟩
 | false =>
  replace hs0 := hs0 rfl
  clear he0
  have HC := hid (rSeekStep_any M s wa' la' wc' lc' u_1_1_2 (HMV.out.grow HB_1_1_2.out) HOK.out HSO.out hs0.1)
  unfold GivesRQ memV skV at HC
  dsimp only at HC
  obtain ⟨M2, hM2⟩ := nm ((seekE M s).1)
  obtain ⟨s2, hs2⟩ := nm ((seekE M s).2.1)
  have HSE : Hid (sseekP M s = (M2, s2, 0)) := hid (by unfold sseekP; rw [HOK.out, if_neg (by decide), if_neg (by omega), hM2, hs2])
  rw [hM2, hs2] at HC
  clear hM2 hs2
  go_wp2_with (first | (refine wp_loadP rfl 25 (.tmp 37) rfl Y 0 _ [.slice wa' M.W.length wc', .slice la' M.L.length lc', .bool M.F] rfl _ KY_1_1_2.out rfl _ Tryz.underlying25 rfl (by kernel_rfl) ?_; intro v hv; subst hv) | (refine wp_loadP rfl 46 (.tmp 39) rfl Y 13 _ [.int .i64 s.ph, .int .u64 s.hash, .int .u64 s.key, .int .u64 s.link, .int .u64 s.node, .int .u64 s.val, .bool s.found] rfl _ KY_1_1_2.out rfl _ Tryz.underlying46 rfl (by kernel_rfl) ?_; intro v hv; subst hv))
  refine HC.out.mono ?_
  rintro e9 u_2_2_36 ⟨wa2, wc2, la2, lc2, rfl, hm2, hbn, kw, kl⟩
  have ltY := llD KY_1_1_2.out
  have KWA := hid (kw.mono (HB_1_1_2.out).size)
  have KLA := hid (kl.mono (HB_1_1_2.out).size)
  have ltT := llD KT_1_1_2.out
  have hwY := kept_apart hlw kw hVY ltY
  have hlY := kept_apart hll kl hVY ltY
  have hwT := kept_apart hlw kw hVT ltT
  have hlT := kept_apart hll kl hVT ltT
  have KX_2_2_36 := hid (klD KX_1_1_2.out hbn)
  have KY_2_2_36 := hid (klD KY_1_1_2.out hbn)
  have KT_2_2_36 := hid (klD KT_1_1_2.out hbn)
  have HB_2_2_36 := hid (HB_1_1_2.out.trans (hbn.mono HB_1_1_2.out.size))
  have KJ_2_2_36 := hid (klD KJ_1_1_2.out hbn)
  clear KX_1_1_2 KY_1_1_2 KT_1_1_2 HB_1_1_2 KJ_1_1_2
  have HM_2_2_36 := hid hm2
  clear hm2 hbn kw kl ltY ltT HC
  go_upto_region 9 with (first | (refine wsP rfl 25 (.tmp 44) (.tmp 42) rfl Y 0 _ (w21 wa2 M2.W.length wc2 la2 M2.L.length lc2 M2.F d false e s ra' R.length rc') _ rfl rfl _ KY_2_2_36.out (by kernel_rfl) (Nat.le_of_ble_eq_true rfl) (by kernel_rfl) rfl ?_; intro u_3_2_39 a1 a2 a3 a4; have KX_3_2_39 := hid (a2 X _ (by omega) KX_2_2_36.out); have KY_3_2_39 := hid a1; have KT_3_2_39 := hid (a2 T _ (by omega) KT_2_2_36.out); have HB_3_2_39 := hid (a3 _ _ hVY HB_2_2_36.out); have KJ_3_2_39 := hid (a2 Jb _ (by omega) KJ_2_2_36.out); have HM_3_2_39 := hid (HM_2_2_36.out.keepNe hwY hlY a2); clear a1 a2 a3 a4 KX_2_2_36 KY_2_2_36 KT_2_2_36 HB_2_2_36 KJ_2_2_36 HM_2_2_36; (try simp only [Act.put])) | (refine wsP rfl 46 (.tmp 45) (.tmp 43) rfl Y 13 _ (w21 wa2 M2.W.length wc2 la2 M2.L.length lc2 M2.F d false e s2 ra' R.length rc') _ rfl rfl _ KY_3_2_39.out (by kernel_rfl) (Nat.le_of_ble_eq_true rfl) (by kernel_rfl) rfl ?_; intro u_4_2_39 a1 a2 a3 a4; have KX_4_2_39 := hid (a2 X _ (by omega) KX_3_2_39.out); have KY_4_2_39 := hid a1; have KT_4_2_39 := hid (a2 T _ (by omega) KT_3_2_39.out); have HB_4_2_39 := hid (a3 _ _ hVY HB_3_2_39.out); have KJ_4_2_39 := hid (a2 Jb _ (by omega) KJ_3_2_39.out); have HM_4_2_39 := hid (HM_3_2_39.out.keepNe hwY hlY a2); clear a1 a2 a3 a4 KX_3_2_39 KY_3_2_39 KT_3_2_39 HB_3_2_39 KJ_3_2_39 HM_3_2_39; (try simp only [Act.put])))
  clear y4
  have y13 := clD (i := 13) KY_4_2_39.out rfl
  by_cases h4 : s2.ph = 4
  ·skip
   have q4 : (s2.ph != 4) = false := by simp [h4]
   have HWO := hid (writeG_so (head := w.head) (e := e) (R := R) hdne HSE.out h4)
   have j0 := clD (i := 0) KJ_4_2_39.out rfl
   have y19 : u_4_2_39.cell? ⟨Y, 19, none⟩ = some (.bool s2.found) := clD (i := 19) KY_4_2_39.out rfl
   clear h4
   obtain ⟨fd, hfd⟩ := nm (s2.found)
   rw [hfd] at y19
   have HFD := hid hfd
   clear hfd
   cases cb with
   | true =>
    cases fd with
    | true =>
     go_upto_region 15 with (refine wsP rfl 4 (.tmp 64) (.const (.bool true)) rfl Y 4 _ (w21 wa2 M2.W.length wc2 la2 M2.L.length lc2 M2.F d true e s2 ra' R.length rc') _ rfl rfl _ KY_4_2_39.out (by kernel_rfl) (Nat.le_of_ble_eq_true rfl) (by kernel_rfl) rfl ?_; intro u_5_5_47 a1 a2 a3 a4; have KX_5_5_47 := hid (a2 X _ (by omega) KX_4_2_39.out); have KY_5_5_47 := hid a1; have KT_5_5_47 := hid (a2 T _ (by omega) KT_4_2_39.out); have HB_5_5_47 := hid (a3 _ _ hVY HB_4_2_39.out); have KJ_5_5_47 := hid (a2 Jb _ (by omega) KJ_4_2_39.out); have HM_5_5_47 := hid (HM_4_2_39.out.keepNe hwY hlY a2); clear a1 a2 a3 a4 KX_4_2_39 KY_4_2_39 KT_4_2_39 HB_4_2_39 KJ_4_2_39 HM_4_2_39; (try simp only [Act.put]))
     clear y13 y19 j0 q4
     have y16 := clD (i := 16) KY_5_5_47.out rfl
     have y17 := clD (i := 17) KY_5_5_47.out rfl
     go_upto_region 16 with (first | (refine wp_loadP rfl 42 (.tmp 68) rfl Jb 1 _ [.int .u64 n0, .int .u64 n1, .int .u64 n2, .int .u64 n3] rfl _ KJ_5_5_47.out rfl _ Tryz.underlying42 rfl (by kernel_rfl) ?_; intro v hv; subst hv) | (refine wsP rfl 44 (.tmp 74) (.tmp 73) rfl Y 5 _ (w21 wa2 M2.W.length wc2 la2 M2.L.length lc2 M2.F d true (putK s2.link (n0, n1, n2, n3) s2.node) s2 ra' R.length rc') _ rfl rfl _ KY_5_5_47.out (by kernel_rfl) (Nat.le_of_ble_eq_true rfl) (by kernel_rfl) rfl ?_; intro u_6_5_49 a1 a2 a3 a4; have KX_6_5_49 := hid (a2 X _ (by omega) KX_5_5_47.out); have KY_6_5_49 := hid a1; have KT_6_5_49 := hid (a2 T _ (by omega) KT_5_5_47.out); have HB_6_5_49 := hid (a3 _ _ hVY HB_5_5_47.out); have KJ_6_5_49 := hid (a2 Jb _ (by omega) KJ_5_5_47.out); have HM_6_5_49 := hid (HM_5_5_47.out.keepNe hwY hlY a2); clear a1 a2 a3 a4 KX_5_5_47 KY_5_5_47 KT_5_5_47 HB_5_5_47 KJ_5_5_47 HM_5_5_47; (try simp only [Act.put])))
     clear y16 y17
     have j0 := clD (i := 0) KJ_6_5_49.out rfl
     have y16 := clD (i := 16) KY_6_5_49.out rfl
     have y17 := clD (i := 17) KY_6_5_49.out rfl
     go_upto_region 18 with (refine wsP rfl 44 (.tmp 85) (.tmp 84) rfl Y 5 _ (w21 wa2 M2.W.length wc2 la2 M2.L.length lc2 M2.F d true (cutK s2.link s2.node) s2 ra' R.length rc') _ rfl rfl _ KY_6_5_49.out (by kernel_rfl) (Nat.le_of_ble_eq_true rfl) (by kernel_rfl) rfl ?_; intro u_7_5_52 a1 a2 a3 a4; have KX_7_5_52 := hid (a2 X _ (by omega) KX_6_5_49.out); have KY_7_5_52 := hid a1; have KT_7_5_52 := hid (a2 T _ (by omega) KT_6_5_49.out); have HB_7_5_52 := hid (a3 _ _ hVY HB_6_5_49.out); have KJ_7_5_52 := hid (a2 Jb _ (by omega) KJ_6_5_49.out); have HM_7_5_52 := hid (HM_6_5_49.out.keepNe hwY hlY a2); clear a1 a2 a3 a4 KX_6_5_49 KY_6_5_49 KT_6_5_49 HB_6_5_49 KJ_6_5_49 HM_6_5_49; (try simp only [Act.put]))
     clear y16 y17 j0
     go_wp2_with (first | (refine wlW rfl 49 (.tmp 3) rfl Y _ rfl _ KY_7_5_52.out _ Tryz.underlying49 rfl (by kernel_rfl) ?_; intro v hv; subst hv) | (refine wsP rfl 49 (.tmp 4) (.tmp 86) rfl T 0 _ (w21 wa2 M2.W.length wc2 la2 M2.L.length lc2 M2.F d true (cutK s2.link s2.node) s2 ra' R.length rc') _ rfl rfl _ KT_7_5_52.out (by kernel_rfl) (Nat.le_of_ble_eq_true rfl) (by kernel_rfl) rfl ?_; intro u_8_5_53 a1 a2 a3 a4; have KX_8_5_53 := hid (a2 X _ (by omega) KX_7_5_52.out); have KY_8_5_53 := hid (a2 Y _ (by omega) KY_7_5_52.out); have KT_8_5_53 := hid a1; have HB_8_5_53 := hid (a3 _ _ hVT HB_7_5_52.out); have KJ_8_5_53 := hid (a2 Jb _ (by omega) KJ_7_5_52.out); have HM_8_5_53 := hid (HM_7_5_52.out.keepNe hwT hlT a2); clear a1 a2 a3 a4 KX_7_5_52 KY_7_5_52 KT_7_5_52 HB_7_5_52 KJ_7_5_52 HM_7_5_52; (try simp only [Act.put])))
     refine bodyPost_ret (Write_result KT_8_5_53.out rfl rfl) rfl ?_
     rw [HWO.out, overG_cut HP.out rfl HFD.out]
     exact ⟨_, _, _, _, _, _, rfl, ⟨HM_8_5_53.out, HRV.out.grow HB_8_5_53.out⟩, HB_8_5_53.out, KWA.out, KLA.out, rfl, rfl⟩
    | false =>
     have y3 := clD (i := 3) KY_4_2_39.out rfl
     go_upto_region 13 with (refine wsP rfl 3 (.tmp 60) (.tmp 59) rfl Y 3 _ (w21 wa2 M2.W.length wc2 la2 M2.L.length lc2 M2.F (d + 1) false e s2 ra' R.length rc') _ rfl rfl _ KY_4_2_39.out (by kernel_rfl) (Nat.le_of_ble_eq_true rfl) (by kernel_rfl) rfl ?_; intro u_5_5_58 a1 a2 a3 a4; have KX_5_5_58 := hid (a2 X _ (by omega) KX_4_2_39.out); have KY_5_5_58 := hid a1; have KT_5_5_58 := hid (a2 T _ (by omega) KT_4_2_39.out); have HB_5_5_58 := hid (a3 _ _ hVY HB_4_2_39.out); have KJ_5_5_58 := hid (a2 Jb _ (by omega) KJ_4_2_39.out); have HM_5_5_58 := hid (HM_4_2_39.out.keepNe hwY hlY a2); clear a1 a2 a3 a4 KX_4_2_39 KY_4_2_39 KT_4_2_39 HB_4_2_39 KJ_4_2_39 HM_4_2_39; (try simp only [Act.put]))
     clear y3 y13 y19 j0 q4
     have HNX := hid (next_any w ⟨M2, d + 1, false, e, s2, R⟩ wa la (some ⟨jb, jo, none⟩) ka wa2 la2 ra' wc lc jc kc w.J.length nk wc2 lc2 rc' u_5_5_58 (HJ.out.grow HB_5_5_58.out) rfl)
     obtain ⟨g2, hg2⟩ : ∃ x, beginsG w.J w.head ⟨M2, d + 1, false, e, s2, R⟩ = x := ⟨_, rfl⟩
     rw [hg2] at HNX
     have HG2 := hid hg2
     unfold walV wdV at HNX
     dsimp only at HNX
     clear hg2
     go_wp2_with (first | (refine wlW rfl 30 (.tmp 2) rfl X _ rfl _ KX_5_5_58.out _ Tryz.underlying30 rfl (by kernel_rfl) ?_; intro v hv; subst hv) | (refine wlW rfl 49 (.tmp 3) rfl Y _ rfl _ KY_5_5_58.out _ Tryz.underlying49 rfl (by kernel_rfl) ?_; intro v hv; subst hv))
     refine HNX.out.mono ?_
     rintro e9 u_6_5_62 ⟨rfl, hbn⟩
     have KX_6_5_62 := hid (klD KX_5_5_58.out hbn)
     have KY_6_5_62 := hid (klD KY_5_5_58.out hbn)
     have KT_6_5_62 := hid (klD KT_5_5_58.out hbn)
     have HB_6_5_62 := hid (HB_5_5_58.out.trans (hbn.mono HB_5_5_58.out.size))
     have KJ_6_5_62 := hid (klD KJ_5_5_58.out hbn)
     have HM_6_5_62 := hid (HM_5_5_58.out.grow hbn)
     clear KX_5_5_58 KY_5_5_58 KT_5_5_58 HB_5_5_58 KJ_5_5_58 HM_5_5_58
     clear HNX hbn
     go_wp2_with (refine wsP rfl 49 (.tmp 4) (.tmp 63) rfl T 0 _ (w21 wa2 g2.M.W.length wc2 la2 g2.M.L.length lc2 g2.M.F g2.done g2.edits g2.ed g2.wr ra' g2.R.length rc') _ rfl rfl _ KT_6_5_62.out (by kernel_rfl) (Nat.le_of_ble_eq_true rfl) (by kernel_rfl) rfl ?_; intro u_7_5_64 a1 a2 a3 a4; have KX_7_5_64 := hid (a2 X _ (by omega) KX_6_5_62.out); have KY_7_5_64 := hid (a2 Y _ (by omega) KY_6_5_62.out); have KT_7_5_64 := hid a1; have HB_7_5_64 := hid (a3 _ _ hVT HB_6_5_62.out); have KJ_7_5_64 := hid (a2 Jb _ (by omega) KJ_6_5_62.out); have HM_7_5_64 := hid (HM_6_5_62.out.keepNe hwT hlT a2); clear a1 a2 a3 a4 KX_6_5_62 KY_6_5_62 KT_6_5_62 HB_6_5_62 KJ_6_5_62 HM_6_5_62; (try simp only [Act.put]))
     refine bodyPost_ret (Write_result KT_7_5_64.out rfl rfl) rfl ?_
     rw [HWO.out, overG_done HP.out (by rw [HFD.out]; simp)]
     have h1 := beginsG_M w.J w.head ⟨M2, d + 1, false, e, s2, R⟩
     rw [HG2.out] at h1 ⊢
     exact ⟨_, _, _, _, _, _, rfl, ⟨by rw [h1.1]; exact HM_7_5_64.out, by rw [h1.2]; exact HRV.out.grow HB_7_5_64.out⟩, HB_7_5_64.out, KWA.out, KLA.out, rfl, rfl⟩
   | false =>
    cases fd with
    | true =>
     have y3 := clD (i := 3) KY_4_2_39.out rfl
     go_upto_region 13 with (refine wsP rfl 3 (.tmp 60) (.tmp 59) rfl Y 3 _ (w21 wa2 M2.W.length wc2 la2 M2.L.length lc2 M2.F (d + 1) false e s2 ra' R.length rc') _ rfl rfl _ KY_4_2_39.out (by kernel_rfl) (Nat.le_of_ble_eq_true rfl) (by kernel_rfl) rfl ?_; intro u_5_5_70 a1 a2 a3 a4; have KX_5_5_70 := hid (a2 X _ (by omega) KX_4_2_39.out); have KY_5_5_70 := hid a1; have KT_5_5_70 := hid (a2 T _ (by omega) KT_4_2_39.out); have HB_5_5_70 := hid (a3 _ _ hVY HB_4_2_39.out); have KJ_5_5_70 := hid (a2 Jb _ (by omega) KJ_4_2_39.out); have HM_5_5_70 := hid (HM_4_2_39.out.keepNe hwY hlY a2); clear a1 a2 a3 a4 KX_4_2_39 KY_4_2_39 KT_4_2_39 HB_4_2_39 KJ_4_2_39 HM_4_2_39; (try simp only [Act.put]))
     clear y3 y13 y19 j0 q4
     have HNX := hid (next_any w ⟨M2, d + 1, false, e, s2, R⟩ wa la (some ⟨jb, jo, none⟩) ka wa2 la2 ra' wc lc jc kc w.J.length nk wc2 lc2 rc' u_5_5_70 (HJ.out.grow HB_5_5_70.out) rfl)
     obtain ⟨g2, hg2⟩ : ∃ x, beginsG w.J w.head ⟨M2, d + 1, false, e, s2, R⟩ = x := ⟨_, rfl⟩
     rw [hg2] at HNX
     have HG2 := hid hg2
     unfold walV wdV at HNX
     dsimp only at HNX
     clear hg2
     go_wp2_with (first | (refine wlW rfl 30 (.tmp 2) rfl X _ rfl _ KX_5_5_70.out _ Tryz.underlying30 rfl (by kernel_rfl) ?_; intro v hv; subst hv) | (refine wlW rfl 49 (.tmp 3) rfl Y _ rfl _ KY_5_5_70.out _ Tryz.underlying49 rfl (by kernel_rfl) ?_; intro v hv; subst hv))
     refine HNX.out.mono ?_
     rintro e9 u_6_5_74 ⟨rfl, hbn⟩
     have KX_6_5_74 := hid (klD KX_5_5_70.out hbn)
     have KY_6_5_74 := hid (klD KY_5_5_70.out hbn)
     have KT_6_5_74 := hid (klD KT_5_5_70.out hbn)
     have HB_6_5_74 := hid (HB_5_5_70.out.trans (hbn.mono HB_5_5_70.out.size))
     have KJ_6_5_74 := hid (klD KJ_5_5_70.out hbn)
     have HM_6_5_74 := hid (HM_5_5_70.out.grow hbn)
     clear KX_5_5_70 KY_5_5_70 KT_5_5_70 HB_5_5_70 KJ_5_5_70 HM_5_5_70
     clear HNX hbn
     go_wp2_with (refine wsP rfl 49 (.tmp 4) (.tmp 63) rfl T 0 _ (w21 wa2 g2.M.W.length wc2 la2 g2.M.L.length lc2 g2.M.F g2.done g2.edits g2.ed g2.wr ra' g2.R.length rc') _ rfl rfl _ KT_6_5_74.out (by kernel_rfl) (Nat.le_of_ble_eq_true rfl) (by kernel_rfl) rfl ?_; intro u_7_5_76 a1 a2 a3 a4; have KX_7_5_76 := hid (a2 X _ (by omega) KX_6_5_74.out); have KY_7_5_76 := hid (a2 Y _ (by omega) KY_6_5_74.out); have KT_7_5_76 := hid a1; have HB_7_5_76 := hid (a3 _ _ hVT HB_6_5_74.out); have KJ_7_5_76 := hid (a2 Jb _ (by omega) KJ_6_5_74.out); have HM_7_5_76 := hid (HM_6_5_74.out.keepNe hwT hlT a2); clear a1 a2 a3 a4 KX_6_5_74 KY_6_5_74 KT_6_5_74 HB_6_5_74 KJ_6_5_74 HM_6_5_74; (try simp only [Act.put]))
     refine bodyPost_ret (Write_result KT_7_5_76.out rfl rfl) rfl ?_
     rw [HWO.out, overG_done HP.out (by rw [HFD.out]; simp)]
     have h1 := beginsG_M w.J w.head ⟨M2, d + 1, false, e, s2, R⟩
     rw [HG2.out] at h1 ⊢
     exact ⟨_, _, _, _, _, _, rfl, ⟨by rw [h1.1]; exact HM_7_5_76.out, by rw [h1.2]; exact HRV.out.grow HB_7_5_76.out⟩, HB_7_5_76.out, KWA.out, KLA.out, rfl, rfl⟩
    | false =>
     go_upto_region 15 with (refine wsP rfl 4 (.tmp 64) (.const (.bool true)) rfl Y 4 _ (w21 wa2 M2.W.length wc2 la2 M2.L.length lc2 M2.F d true e s2 ra' R.length rc') _ rfl rfl _ KY_4_2_39.out (by kernel_rfl) (Nat.le_of_ble_eq_true rfl) (by kernel_rfl) rfl ?_; intro u_5_5_79 a1 a2 a3 a4; have KX_5_5_79 := hid (a2 X _ (by omega) KX_4_2_39.out); have KY_5_5_79 := hid a1; have KT_5_5_79 := hid (a2 T _ (by omega) KT_4_2_39.out); have HB_5_5_79 := hid (a3 _ _ hVY HB_4_2_39.out); have KJ_5_5_79 := hid (a2 Jb _ (by omega) KJ_4_2_39.out); have HM_5_5_79 := hid (HM_4_2_39.out.keepNe hwY hlY a2); clear a1 a2 a3 a4 KX_4_2_39 KY_4_2_39 KT_4_2_39 HB_4_2_39 KJ_4_2_39 HM_4_2_39; (try simp only [Act.put]))
     clear y13 y19 j0 q4
     have y16 := clD (i := 16) KY_5_5_79.out rfl
     have y17 := clD (i := 17) KY_5_5_79.out rfl
     go_upto_region 16 with (first | (refine wp_loadP rfl 42 (.tmp 68) rfl Jb 1 _ [.int .u64 n0, .int .u64 n1, .int .u64 n2, .int .u64 n3] rfl _ KJ_5_5_79.out rfl _ Tryz.underlying42 rfl (by kernel_rfl) ?_; intro v hv; subst hv) | (refine wsP rfl 44 (.tmp 74) (.tmp 73) rfl Y 5 _ (w21 wa2 M2.W.length wc2 la2 M2.L.length lc2 M2.F d true (putK s2.link (n0, n1, n2, n3) s2.node) s2 ra' R.length rc') _ rfl rfl _ KY_5_5_79.out (by kernel_rfl) (Nat.le_of_ble_eq_true rfl) (by kernel_rfl) rfl ?_; intro u_6_5_81 a1 a2 a3 a4; have KX_6_5_81 := hid (a2 X _ (by omega) KX_5_5_79.out); have KY_6_5_81 := hid a1; have KT_6_5_81 := hid (a2 T _ (by omega) KT_5_5_79.out); have HB_6_5_81 := hid (a3 _ _ hVY HB_5_5_79.out); have KJ_6_5_81 := hid (a2 Jb _ (by omega) KJ_5_5_79.out); have HM_6_5_81 := hid (HM_5_5_79.out.keepNe hwY hlY a2); clear a1 a2 a3 a4 KX_5_5_79 KY_5_5_79 KT_5_5_79 HB_5_5_79 KJ_5_5_79 HM_5_5_79; (try simp only [Act.put])))
     clear y16 y17
     have j0 := clD (i := 0) KJ_6_5_81.out rfl
     go_wp2_with (first | (refine wlW rfl 49 (.tmp 3) rfl Y _ rfl _ KY_6_5_81.out _ Tryz.underlying49 rfl (by kernel_rfl) ?_; intro v hv; subst hv) | (refine wsP rfl 49 (.tmp 4) (.tmp 86) rfl T 0 _ (w21 wa2 M2.W.length wc2 la2 M2.L.length lc2 M2.F d true (putK s2.link (n0, n1, n2, n3) s2.node) s2 ra' R.length rc') _ rfl rfl _ KT_6_5_81.out (by kernel_rfl) (Nat.le_of_ble_eq_true rfl) (by kernel_rfl) rfl ?_; intro u_7_5_83 a1 a2 a3 a4; have KX_7_5_83 := hid (a2 X _ (by omega) KX_6_5_81.out); have KY_7_5_83 := hid (a2 Y _ (by omega) KY_6_5_81.out); have KT_7_5_83 := hid a1; have HB_7_5_83 := hid (a3 _ _ hVT HB_6_5_81.out); have KJ_7_5_83 := hid (a2 Jb _ (by omega) KJ_6_5_81.out); have HM_7_5_83 := hid (HM_6_5_81.out.keepNe hwT hlT a2); clear a1 a2 a3 a4 KX_6_5_81 KY_6_5_81 KT_6_5_81 HB_6_5_81 KJ_6_5_81 HM_6_5_81; (try simp only [Act.put])))
     refine bodyPost_ret (Write_result KT_7_5_83.out rfl rfl) rfl ?_
     rw [HWO.out, overG_put HP.out rfl HFD.out]
     exact ⟨_, _, _, _, _, _, rfl, ⟨HM_7_5_83.out, HRV.out.grow HB_7_5_83.out⟩, HB_7_5_83.out, KWA.out, KLA.out, rfl, rfl⟩
  ·skip
   have q4 : (s2.ph != 4) = true := by simp [h4]
   have H4 := hid h4
   clear h4
   go_wp2_with (first | (refine wlW rfl 49 (.tmp 3) rfl Y _ rfl _ KY_4_2_39.out _ Tryz.underlying49 rfl (by kernel_rfl) ?_; intro v hv; subst hv) | (refine wsP rfl 49 (.tmp 4) (.tmp 50) rfl T 0 _ (w21 wa2 M2.W.length wc2 la2 M2.L.length lc2 M2.F d false e s2 ra' R.length rc') _ rfl rfl _ KT_4_2_39.out (by kernel_rfl) (Nat.le_of_ble_eq_true rfl) (by kernel_rfl) rfl ?_; intro u_5_3_88 a1 a2 a3 a4; have KX_5_3_88 := hid (a2 X _ (by omega) KX_4_2_39.out); have KY_5_3_88 := hid (a2 Y _ (by omega) KY_4_2_39.out); have KT_5_3_88 := hid a1; have HB_5_3_88 := hid (a3 _ _ hVT HB_4_2_39.out); have KJ_5_3_88 := hid (a2 Jb _ (by omega) KJ_4_2_39.out); have HM_5_3_88 := hid (HM_4_2_39.out.keepNe hwT hlT a2); clear a1 a2 a3 a4 KX_4_2_39 KY_4_2_39 KT_4_2_39 HB_4_2_39 KJ_4_2_39 HM_4_2_39; (try simp only [Act.put])))
   refine bodyPost_ret (Write_result KT_5_3_88.out rfl rfl) rfl ?_
   rw [writeG_sn hdne HSE.out H4.out]
   exact ⟨_, _, _, _, _, _, rfl, ⟨HM_5_3_88.out, HRV.out.grow HB_5_3_88.out⟩, HB_5_3_88.out, KWA.out, KLA.out, rfl, rfl⟩
end Go.Proofs.YtipohagcppfgiaaGreat
