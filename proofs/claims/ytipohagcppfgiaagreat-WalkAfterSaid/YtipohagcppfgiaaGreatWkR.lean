/- Layer 17, several texts in one. -/
import Derived.Test.YtipohagcppfgiaaGreatWkD
import Derived.Test.YtipohagcppfgiaaGreatLsZ
import Derived.Test.YtipohagcppfgiaaGreatMemRef
import Derived.Test.YtipohagcppfgiaaGreatLsRef5
import Derived.Test.YtipohagcppfgiaaGreatWkQ
namespace Go.Proofs.YtipohagcppfgiaaGreat
open Go.RowKit
open Go.Proofs
set_option linter.unusedVariables false
attribute [local go_sem] Oper.semAt_some
/-- Where all are, as a value. -/
abbrev wdV (wa : Option Addr) (wc : Nat) (la : Option Addr) (lc : Nat) (ra : Option Addr) (rc : Nat) (g : Gst) : Value := .agg (w21 wa g.M.W.length wc la g.M.L.length lc g.M.F g.done g.edits g.ed g.wr ra g.R.length rc)
/-- .. in memory. -/
structure WdL (W : World) (wa : Option Addr) (wc : Nat) (la : Option Addr) (lc : Nat) (ra : Option Addr) (rc : Nat) (g : Gst) : Prop where
 mem : MemL W wa wc la lc g.M
 rds : Leads W ra g.R.length rc (skcells g.R)
theorem WdL.grow {W W' : World} {wa : Option Addr} {wc : Nat} {la : Option Addr} {lc : Nat} {ra : Option Addr} {rc : Nat} {g : Gst} (h : WdL W wa wc la lc ra rc g) (hb : Below W.heap.size W W') : WdL W' wa wc la lc ra rc g := ⟨h.mem.grow hb, h.rds.grow hb⟩
def GivesD (g : Gst) (V : World) (e : Ending) (W : World) : Prop := ∃ wa wc la lc ra rc, e = .returned (wdV wa wc la lc ra rc g) ∧ WdL W wa wc la lc ra rc g ∧ Below V.heap.size V W
theorem next_result {W : World} {b : Nat} {vs : Array Value} {tmps : Array Value} (h : W.heap[b]? = some (.cells vs 49 (0, 0))) (hs : vs.size = 21) (q4 : tmps[4]?.getD undef = .pointer (some ⟨b, 0, none⟩)) :
  (results Tryz.f38 tmps).run Tryz.prog W = .ok (.agg vs) W := by
 have hl := run_loadVar_row (P := Tryz.prog) W b 49 49 vs (0, 0) _ h Tryz.underlying49 rfl (by rw [hs]; kernel_rfl)
 have ha : (asAddr (.pointer (some ⟨b, 0, none⟩))).run Tryz.prog W = .ok ⟨b, 0, none⟩ W := rfl
 simp [results, Tryz.results38, q4, ha, hl]
set_option maxRecDepth 100000 in
set_option maxHeartbeats 8000000 in
theorem next_any (w : Wal) (g : Gst) (wa la ja ka wa' la' ra' : Option Addr) (wc lc jc kc nj nk wc' lc' rc' : Nat) (V : World) (hj : Leads V ja nj jc (jbcells w.J)) (hnj : w.J.length = nj) :
  Calls Tryz.prog 38 #[walV wa wc la lc ja nj jc ka nk kc w, wdV wa' wc' la' lc' ra' rc' g] V (Ret (wdV wa' wc' la' lc' ra' rc' (beginsG w.J w.head g)) V) := by
 obtain ⟨M, d, eb, e, s, R⟩ := g
 obtain ⟨hd, hhd⟩ := nm (w.head)
 obtain ⟨wl, hwl'⟩ := nm (w.M.W.length)
 obtain ⟨ll, hll'⟩ := nm (w.M.L.length)
 obtain ⟨F, hf⟩ := nm (w.M.F)
 obtain ⟨J, hJ⟩ := nm (w.J)
 rw [hJ] at hj hnj
 unfold walV
 rw [hhd, hwl', hll', hf, hJ]
 clear hhd hwl' hll' hf hJ
 have HGN : Hid (∀ j, J[d]? = some j → beginsG J hd ⟨M, d, eb, e, s, R⟩ = ⟨M, d, false, zeroEd, seekK hd j.2.2.2.2 j.2.2.1, R⟩) := hid (fun j h => beginsG_some h)
 have HG0 : Hid (J[d]? = none → beginsG J hd ⟨M, d, eb, e, s, R⟩ = ⟨M, d, false, zeroEd, zeroSk, R⟩) := hid (fun h => beginsG_none h)
 obtain ⟨g', hg'⟩ : ∃ x, beginsG J hd ⟨M, d, eb, e, s, R⟩ = x := ⟨_, rfl⟩
 rw [hg'] at HGN HG0 ⊢
 clear hg'
 unfold wdV
 dsimp only
 obtain ⟨wn', hwn'⟩ := nm (M.W.length)
 obtain ⟨ln', hln'⟩ := nm (M.L.length)
 obtain ⟨F', hF'⟩ := nm (M.F)
 obtain ⟨rn', hrn'⟩ := nm (R.length)
 have HWN := hid hwn'
 have HLN := hid hln'
 have HFN := hid hF'
 have HRN := hid hrn'
 rw [hwn', hln', hF', hrn']
 clear hwn' hln' hF' hrn'
 obtain ⟨V1, hV1, hb1, hs1, hl1⟩ := laid V (wal8 wa wl wc la ll lc F hd ja nj jc ka nk kc) 30
 obtain ⟨X, hX⟩ := nm (V.heap.size)
 rw [hX] at hl1
 obtain ⟨V2, hV2, hb2, hs2, hl2⟩ := laid V1 (w21 wa' wn' wc' la' ln' lc' F' d eb e s ra' rn' rc') 49
 obtain ⟨Y, hY⟩ := nm (V1.heap.size)
 rw [hY] at hl2
 obtain ⟨V3, hV3, hb3, hs3, hl3⟩ := laid V2 (w21 none 0 0 none 0 0 false 0 false zeroEd zeroSk none 0 0) 49
 obtain ⟨T, hT⟩ := nm (V2.heap.size)
 rw [hT] at hl3
 have hXY : X < Y := by omega
 have hYT : Y < T := by omega
 have hVY : V.heap.size ≤ Y := by omega
 have hVT : V.heap.size ≤ T := by omega
 have KX0 := hid (klD (klD hl1 hb2) hb3)
 have KY0 := hid (klD hl2 hb3)
 have KT0 := hid hl3
 have HB0 := hid (step (step hb1 hb2) hb3)
 have hV3' : V2.alloc (.cells #[.slice none 0 0, .slice none 0 0, .bool false, .int .i64 0, .bool false, .int .i64 0, .bool false, .int .u64 0, .int .u64 0, .int .u64 0, .int .u64 0, .int .u64 0, .int .u64 0, .int .i64 0, .int .u64 0, .int .u64 0, .int .u64 0, .int .u64 0, .int .u64 0, .bool false, .slice none 0 0] 49) = V3 := hV3
 have HJ := hid hj
 have HN := hid hnj
 have hjl := hj.len
 clear hV3 hb1 hs1 hl1 hb2 hs2 hl2 hb3 hs3 hl3 hj hnj
 go_enter Tryz.func38, Tryz.ntmps38
 go_upto_region 2 with (first | (refine wsP rfl 4 (.tmp 8) (.const (.bool false)) rfl Y 4 _ (w21 wa' wn' wc' la' ln' lc' F' d false e s ra' rn' rc') _ rfl rfl _ KY0.out (by kernel_rfl) (Nat.le_of_ble_eq_true rfl) (by kernel_rfl) rfl ?_; intro u1 a1 a2 a3 a4; have KY1 := hid a1; have KX1 := hid (a2 X _ (by omega) KX0.out); have KT1 := hid (a2 T _ (by omega) KT0.out); have HB1 := hid (a3 _ _ hVY HB0.out); clear a1 a2 a3 a4 KY0 KX0 KT0 HB0; (try simp only [Act.put])) | (refine wsP rfl 44 (.tmp 9) (.tmp 6) rfl Y 5 _ (w21 wa' wn' wc' la' ln' lc' F' d false zeroEd s ra' rn' rc') _ rfl rfl _ KY1.out (by kernel_rfl) (Nat.le_of_ble_eq_true rfl) (by kernel_rfl) rfl ?_; intro u2 a1 a2 a3 a4; have KY2 := hid a1; have KX2 := hid (a2 X _ (by omega) KX1.out); have KT2 := hid (a2 T _ (by omega) KT1.out); have HB2 := hid (a3 _ _ hVY HB1.out); clear a1 a2 a3 a4 KY1 KX1 KT1 HB1; (try simp only [Act.put])) | (refine wsP rfl 46 (.tmp 10) (.tmp 7) rfl Y 13 _ (w21 wa' wn' wc' la' ln' lc' F' d false zeroEd zeroSk ra' rn' rc') _ rfl rfl _ KY2.out (by kernel_rfl) (Nat.le_of_ble_eq_true rfl) (by kernel_rfl) rfl ?_; intro u3 a1 a2 a3 a4; have KY3 := hid a1; have KX3 := hid (a2 X _ (by omega) KX2.out); have KT3 := hid (a2 T _ (by omega) KT2.out); have HB3 := hid (a3 _ _ hVY HB2.out); clear a1 a2 a3 a4 KY2 KX2 KT2 HB2; (try simp only [Act.put])))
 clear hV1 hV2 hV3' hX hY hT
 have y3 := clD (i := 3) KY3.out rfl
 have x4 := clD (i := 4) KX3.out rfl
 by_cases hlt : d < nj
 ·have tl : decide (((d : Nat) : Int) < ((nj : Nat) : Int)) = true := decide_eq_true (by omega)
  have tl' : decide (d < nj) = true := decide_eq_true hlt
  obtain ⟨⟨cb, n0, n1, n2, n3⟩, hp⟩ : ∃ x, J[d]? = some x := ⟨_, List.getElem?_eq_getElem (by rw [HN.out]; exact hlt)⟩
  have HP := hid (HGN.out _ hp)
  obtain ⟨jb, jo, rfl, hcc⟩ : ∃ b o, ja = some ⟨b, o, none⟩ ∧ ∀ i v, (jbcells J)[i]? = some v → ∀ W, Below V.heap.size V W → W.cell? ⟨b, o + i, none⟩ = some v := by
   obtain ⟨_, _, ⟨q, _⟩ | ⟨b, off, e, h3, h4⟩⟩ := HJ.out
   ·omega
   ·exact ⟨b, off, e, fun i v hv W hW => (hW.cell (p := ⟨b, off + i, none⟩) h3).trans (h4 i v hv)⟩
  have hat : ∀ i, i < 5 → (jbcells J)[d * 5 + i]? = (jb5 (cb, n0, n1, n2, n3))[i]? := fun i hi => jbcell_at hp i hi
  have HRA : Hid (u3.rangeAt jb (jo + d * 5 + 1) [.int .u64 n0, .int .u64 n1, .int .u64 n2, .int .u64 n3]) := hid (fun j v hv => by
   have hj4 : j < 4 := (List.getElem?_eq_some_iff.1 hv).1
   have := hcc (d * 5 + (j + 1)) v (by rw [hat (j + 1) (by omega)]; exact hv) u3 HB3.out
   rw [show jo + d * 5 + 1 + j = jo + (d * 5 + (j + 1)) by omega]
   exact this)
  dsimp only at HP
  clear hcc hat hp HGN HG0 HJ HN
  obtain ⟨V4, hV4, hb4, hs4, hl4⟩ := laid u3 #[.int .u64 0, .int .u64 0, .int .u64 0, .int .u64 0] 42
  obtain ⟨Nb, hNb⟩ := nm (u3.heap.size)
  rw [hNb] at hl4
  have hTN : T < Nb := by have := llD KT3.out; omega
  have KN4 := hid hl4
  have KX4 := hid (klD KX3.out hb4)
  have KY4 := hid (klD KY3.out hb4)
  have KT4 := hid (klD KT3.out hb4)
  have HB4 := hid (HB3.out.trans (hb4.mono HB3.out.size))
  have hVN : V.heap.size ≤ Nb := by omega
  clear hb4 hs4 hl4 KX3 KY3 KT3 HB3
  go_upto_region 4 with (first | (refine wpList_load_mid rfl 42 (.tmp 22) rfl jb (jo + d * 5 + 1) rfl [.int .u64 n0, .int .u64 n1, .int .u64 n2, .int .u64 n3] _ HRA.out Tryz.underlying42 rfl (by kernel_rfl) ?_) | (refine wsP rfl 42 (.tmp 5) (.tmp 23) rfl Nb 0 _ [.int .u64 n0, .int .u64 n1, .int .u64 n2, .int .u64 n3].toArray _ rfl rfl _ KN4.out (by kernel_rfl) (Nat.le_of_ble_eq_true rfl) (by kernel_rfl) rfl ?_; intro u5 a1 a2 a3 a4; have KN5 := hid a1; have KX5 := hid (a2 X _ (by omega) KX4.out); have KY5 := hid (a2 Y _ (by omega) KY4.out); have KT5 := hid (a2 T _ (by omega) KT4.out); have HB5 := hid (a3 _ _ hVN HB4.out); clear a1 a2 a3 a4 KN4 KX4 KY4 KT4 HB4; (try simp only [Act.put])))
  clear x4 y3 hV4 hNb
  have m3 := clD (i := 3) KN5.out rfl
  have m1 := clD (i := 1) KN5.out rfl
  have x3 := clD (i := 3) KX5.out rfl
  go_upto_region 5 with (refine wsP rfl 46 (.tmp 31) (.tmp 30) rfl Y 13 _ (w21 wa' wn' wc' la' ln' lc' F' d false zeroEd (seekK hd n3 n1) ra' rn' rc') _ rfl rfl _ KY5.out (by kernel_rfl) (Nat.le_of_ble_eq_true rfl) (by kernel_rfl) rfl ?_; intro u6 a1 a2 a3 a4; have KY6 := hid a1; have KX6 := hid (a2 X _ (by omega) KX5.out); have KT6 := hid (a2 T _ (by omega) KT5.out); have HB6 := hid (a3 _ _ hVY HB5.out); clear a1 a2 a3 a4 KY5 KX5 KT5 HB5; (try simp only [Act.put]))
  clear m3 m1 x3
  go_wp2_with (first | (refine wlW rfl 49 (.tmp 3) rfl Y _ rfl _ KY6.out _ Tryz.underlying49 rfl (by kernel_rfl) ?_; intro v hv; subst hv) | (refine wsP rfl 49 (.tmp 4) (.tmp 32) rfl T 0 _ (w21 wa' wn' wc' la' ln' lc' F' d false zeroEd (seekK hd n3 n1) ra' rn' rc') _ rfl rfl _ KT6.out (by kernel_rfl) (Nat.le_of_ble_eq_true rfl) (by kernel_rfl) rfl ?_; intro uz a1 a2 a3 a4; have KTz := hid a1; have HBz := hid (a3 _ _ hVT HB6.out); clear a1 a2 a3 a4; (try simp only [Act.put])))
  refine bodyPost_ret (next_result KTz.out rfl rfl) rfl ?_
  rw [HP.out]
  exact ⟨by rw [HWN.out, HLN.out, HFN.out, HRN.out], HBz.out⟩
 ·have tl : decide (((d : Nat) : Int) < ((nj : Nat) : Int)) = false := decide_eq_false (by omega)
  have tl' : decide (d < nj) = false := decide_eq_false hlt
  have HP := hid (HG0.out (List.getElem?_eq_none (by rw [HN.out]; omega)))
  clear HGN HG0 HJ HN
  go_upto_region 5 with (fail)
  clear x4 y3
  go_wp2_with (first | (refine wlW rfl 49 (.tmp 3) rfl Y _ rfl _ KY3.out _ Tryz.underlying49 rfl (by kernel_rfl) ?_; intro v hv; subst hv) | (refine wsP rfl 49 (.tmp 4) (.tmp 32) rfl T 0 _ (w21 wa' wn' wc' la' ln' lc' F' d false zeroEd zeroSk ra' rn' rc') _ rfl rfl _ KT3.out (by kernel_rfl) (Nat.le_of_ble_eq_true rfl) (by kernel_rfl) rfl ?_; intro uz a1 a2 a3 a4; have KTz := hid a1; have HBz := hid (a3 _ _ hVT HB3.out); clear a1 a2 a3 a4; (try simp only [Act.put])))
  refine bodyPost_ret (next_result KTz.out rfl rfl) rfl ?_
  rw [HP.out]
  exact ⟨by rw [HWN.out, HLN.out, HFN.out, HRN.out], HBz.out⟩
end Go.Proofs.YtipohagcppfgiaaGreat
namespace Go.Proofs.YtipohagcppfgiaaGreat
open Go.RowKit
open Go.Proofs
set_option linter.unusedVariables false
attribute [local go_sem] Oper.semAt_some
theorem sameM_selfW (M : Mem) : sameM M M = true := by unfold sameM; simp
set_option maxRecDepth 100000 in
set_option maxHeartbeats 8000000 in
theorem rSameW_any (g : Gst) (wa1 la1 ra1 wa2 la2 ra2 : Option Addr) (wc1 lc1 rc1 wc2 lc2 rc2 : Nat) (V : World) (h1 : WdL V wa1 wc1 la1 lc1 ra1 rc1 g) (h2 : WdL V wa2 wc2 la2 lc2 ra2 rc2 g) (he : g.ed.Ok) (hs : g.wr.Ok) (hr : ∀ x ∈ g.R, x.Ok) :
  Calls Tryz.prog 14 #[wdV wa1 wc1 la1 lc1 ra1 rc1 g, wdV wa2 wc2 la2 lc2 ra2 rc2 g] V (Ret (.bool true) V) := by
 obtain ⟨M, d, eb, ⟨eph, ecu, eli, eat, eke, eva, eha, ene⟩, ⟨sph, sha, ske, sli, sno, sva, sfo⟩, R⟩ := g
 dsimp only at he hs hr
 have HRA1 : Hid (∀ i r, R[i]? = some r → ∀ W, Below V.heap.size V W → ∃ b o, ra1 = some ⟨b, o, none⟩ ∧ W.rangeAt b (o + i * 7) [.int .i64 r.ph, .int .u64 ((r.hash : Nat) : Int), .int .u64 ((r.key : Nat) : Int), .int .u64 ((r.link : Nat) : Int), .int .u64 ((r.node : Nat) : Int), .int .u64 ((r.val : Nat) : Int), .bool r.found]) := hid (fun i r hr W hW => by
  have hlt : i < R.length := (List.getElem?_eq_some_iff.1 hr).1
  obtain ⟨_, _, ⟨q, _⟩ | ⟨b, off, e, h3, h4⟩⟩ := h1.rds.grow hW
  ·exact absurd q (by dsimp only; omega)
  ·refine ⟨b, off, e, fun j v hv => ?_⟩
   have hj7 : j < 7 := (List.getElem?_eq_some_iff.1 hv).1
   have := h4 (i * 7 + j) v (by dsimp only; rw [skcell_at hr j hj7]; exact hv)
   rwa [← Nat.add_assoc] at this)
 have HRA2 : Hid (∀ i r, R[i]? = some r → ∀ W, Below V.heap.size V W → ∃ b o, ra2 = some ⟨b, o, none⟩ ∧ W.rangeAt b (o + i * 7) [.int .i64 r.ph, .int .u64 ((r.hash : Nat) : Int), .int .u64 ((r.key : Nat) : Int), .int .u64 ((r.link : Nat) : Int), .int .u64 ((r.node : Nat) : Int), .int .u64 ((r.val : Nat) : Int), .bool r.found]) := hid (fun i r hr W hW => by
  have hlt : i < R.length := (List.getElem?_eq_some_iff.1 hr).1
  obtain ⟨_, _, ⟨q, _⟩ | ⟨b, off, e, h3, h4⟩⟩ := h2.rds.grow hW
  ·exact absurd q (by dsimp only; omega)
  ·refine ⟨b, off, e, fun j v hv => ?_⟩
   have hj7 : j < 7 := (List.getElem?_eq_some_iff.1 hv).1
   have := h4 (i * 7 + j) v (by dsimp only; rw [skcell_at hr j hj7]; exact hv)
   rwa [← Nat.add_assoc] at this)
 have HSM := hid (fun (W : World) (hb : Below V.heap.size V W) => RefSame_any M M wa1 la1 wa2 la2 wc1 lc1 wc2 lc2 W (h1.mem.grow hb) (h2.mem.grow hb))
 rw [sameM_selfW] at HSM
 have heq := fun W => ed_eq ⟨eph, ecu, eli, eat, eke, eva, eha, ene⟩ ⟨eph, ecu, eli, eat, eke, eva, eha, ene⟩ he he W
 have hsq := fun W => sk_eq ⟨sph, sha, ske, sli, sno, sva, sfo⟩ ⟨sph, sha, ske, sli, sno, sva, sfo⟩ hs hs W
 rw [decide_eq_true rfl] at heq hsq
 dsimp only at heq hsq
 have hl1 := h1.rds.len
 have hl2 := h2.rds.len
 dsimp only at hl1 hl2
 unfold wdV
 dsimp only
 have HRO := hid hr
 obtain ⟨rn, hrn⟩ := nm (R.length)
 have HRN := hid hrn
 rw [hrn] at hl1 hl2 ⊢
 clear hrn
 obtain ⟨V1, hV1, hb1, hs1, hk1⟩ := laid V (w21 wa1 M.W.length wc1 la1 M.L.length lc1 M.F d eb ⟨eph, ecu, eli, eat, eke, eva, eha, ene⟩ ⟨sph, sha, ske, sli, sno, sva, sfo⟩ ra1 rn rc1) 49
 obtain ⟨X, hX⟩ := nm (V.heap.size)
 rw [hX] at hk1
 obtain ⟨V2, hV2, hb2, hs2, hk2⟩ := laid V1 (w21 wa2 M.W.length wc2 la2 M.L.length lc2 M.F d eb ⟨eph, ecu, eli, eat, eke, eva, eha, ene⟩ ⟨sph, sha, ske, sli, sno, sva, sfo⟩ ra2 rn rc2) 49
 obtain ⟨Y, hY⟩ := nm (V1.heap.size)
 rw [hY] at hk2
 have KX := hid (klD hk1 hb2)
 have KY := hid hk2
 have HB := hid (step hb1 hb2)
 clear hb1 hs1 hk1 hb2 hs2 hk2 h1 h2 he hs hr
 have x3 := clD (i := 3) KX.out rfl
 have y3 := clD (i := 3) KY.out rfl
 have x4 := clD (i := 4) KX.out rfl
 have y4 := clD (i := 4) KY.out rfl
 have x5 := clD (i := 5) KX.out rfl
 have y5 := clD (i := 5) KY.out rfl
 have x6 := clD (i := 6) KX.out rfl
 have y6 := clD (i := 6) KY.out rfl
 have x7 := clD (i := 7) KX.out rfl
 have y7 := clD (i := 7) KY.out rfl
 have x8 := clD (i := 8) KX.out rfl
 have y8 := clD (i := 8) KY.out rfl
 have x9 := clD (i := 9) KX.out rfl
 have y9 := clD (i := 9) KY.out rfl
 have x10 := clD (i := 10) KX.out rfl
 have y10 := clD (i := 10) KY.out rfl
 have x11 := clD (i := 11) KX.out rfl
 have y11 := clD (i := 11) KY.out rfl
 have x12 := clD (i := 12) KX.out rfl
 have y12 := clD (i := 12) KY.out rfl
 have x13 := clD (i := 13) KX.out rfl
 have y13 := clD (i := 13) KY.out rfl
 have x14 := clD (i := 14) KX.out rfl
 have y14 := clD (i := 14) KY.out rfl
 have x15 := clD (i := 15) KX.out rfl
 have y15 := clD (i := 15) KY.out rfl
 have x16 := clD (i := 16) KX.out rfl
 have y16 := clD (i := 16) KY.out rfl
 have x17 := clD (i := 17) KX.out rfl
 have y17 := clD (i := 17) KY.out rfl
 have x18 := clD (i := 18) KX.out rfl
 have y18 := clD (i := 18) KY.out rfl
 have x19 := clD (i := 19) KX.out rfl
 have y19 := clD (i := 19) KY.out rfl
 have x20 := clD (i := 20) KX.out rfl
 have y20 := clD (i := 20) KY.out rfl
 have q3 : (((d : Nat) : Int) != ((d : Nat) : Int)) = false := by simp
 have q5 : (((rn : Nat) : Int) != ((rn : Nat) : Int)) = false := by simp
 go_enter Tryz.func14, Tryz.ntmps14
 cases eb <;>
 ·go_upto_region 4 with (fail)
  go_loopg [45] rn (fun g i wr => ∃ k : Nat, g + k = rn ∧ i = .int .i64 k ∧ Hid (Below V2.heap.size V2 wr))
  case atStart => exact ⟨0, rfl, rfl, hid (Below.refl _ _)⟩
  case round =>
   clear x3 y3 x4 y4 x5 y5 x6 y6 x7 y7 x8 y8 x9 y9 x10 y10 x11 y11 x12 y12 x13 y13 x14 y14 x15 y15 x16 y16 x17 y17 x18 y18 x19 y19 x20 y20
   obtain ⟨k, hk, rfl, hbr⟩ := hrel
   have HK := hid hk
   have HBR := hid hbr.out
   have HBW := hid (HB.out.trans (HBR.out.mono HB.out.size))
   clear hk hbr
   by_cases hlt : k < rn
   ·have tl : decide (((k : Nat) : Int) < ((rn : Nat) : Int)) = true := decide_eq_true (by omega)
    obtain ⟨r, hr⟩ : ∃ x, R[k]? = some x := ⟨_, List.getElem?_eq_getElem (by rw [HRN.out]; exact hlt)⟩
    have hrq := fun W => sk_eq r r (HRO.out r (List.mem_of_getElem? hr)) (HRO.out r (List.mem_of_getElem? hr)) W
    rw [decide_eq_true rfl] at hrq
    obtain ⟨b1, o1, rfl, hc1⟩ := HRA1.out k r hr wr HBW.out
    have HC1 := hid hc1
    obtain ⟨w5, hw5, hb5, hs5, hl5⟩ := laid wr #[.int .i64 0, .int .u64 0, .int .u64 0, .int .u64 0, .int .u64 0, .int .u64 0, .bool false] 46
    obtain ⟨Sb, hSb⟩ := nm (wr.heap.size)
    rw [hSb] at hl5
    have KS5 := hid hl5
    have HB5 := hid hb5
    clear hb5 hs5 hl5 hc1
    go_upto_region 6 with (first | (refine wpList_load_mid rfl 46 (.tmp 48) rfl b1 (o1 + k * 7) rfl [.int .i64 r.ph, .int .u64 r.hash, .int .u64 r.key, .int .u64 r.link, .int .u64 r.node, .int .u64 r.val, .bool r.found] _ HC1.out Tryz.underlying46 rfl (by kernel_rfl) ?_) | (refine wsP rfl 46 (.tmp 6) (.tmp 49) rfl Sb 0 _ [.int .i64 r.ph, .int .u64 r.hash, .int .u64 r.key, .int .u64 r.link, .int .u64 r.node, .int .u64 r.val, .bool r.found].toArray _ rfl rfl _ KS5.out (by kernel_rfl) (Nat.le_of_ble_eq_true rfl) (by kernel_rfl) rfl ?_; intro w6 a1 a2 a3 a4; have KS6 := hid a1; have HB6 := hid (a3 _ _ (Nat.le_of_eq hSb) HB5.out); clear a1 a2 a3 a4 KS5 HB5; (try simp only [Act.put])))
    obtain ⟨D, hD⟩ := nm (World.drew w6)
    have hbD : Below w6.heap.size w6 D := by rw [← hD]; exact (Below.refl _ _).drew
    have HD := hid hD
    have HB7 := hid (HBR.out.trans ((HB6.out.trans (hbD.mono HB6.out.size)).mono HBR.out.size))
    have KS7 := hid (klD KS6.out hbD)
    have KY7 := hid (klD KY.out HB7.out)
    obtain ⟨b2, o2, rfl, -⟩ := HRA2.out k r hr wr HBW.out
    have HC2 : Hid (∀ z : Ext D, z.v.rangeAt b2 (o2 + k * 7) [.int .i64 r.ph, .int .u64 r.hash, .int .u64 r.key, .int .u64 r.link, .int .u64 r.node, .int .u64 r.val, .bool r.found]) := hid (fun z => by
     obtain ⟨b, o, e, h⟩ := HRA2.out k r hr z.v (HB.out.trans ((HB7.out.trans (z.b.mono HB7.out.size)).mono HB.out.size))
     cases e
     exact h)
    clear hD hbD hw5 hSb hr
    haveI : Nonempty (Ext D) := ⟨⟨D, Below.refl _ _⟩⟩
    have y20 : ∀ z : Ext D, z.v.cell? ⟨Y, 20, none⟩ = some (.slice (some ⟨b2, o2, none⟩) rn rc2) := fun z => clD (i := 20) (klD KY7.out z.b) rfl
    refine rgm2 (fun W => ∃ z : Ext D, W = z.v) 7 (.q 0 (.q 1 (.q 2 (.q 3 (.q 4 (.q 5 (.q 6 (.done)))))))) (by kernel_rfl) (by kernel_rfl) (by rw [HD.out]; exact ⟨⟨D, Below.refl _ _⟩, rfl⟩) ?_
    rw [HD.out]
    refine m2q rfl rfl ?_
    refine wpQuiet_loadP rfl 46 (.tmp 6) rfl Sb 0 [.int .i64 r.ph, .int .u64 r.hash, .int .u64 r.key, .int .u64 r.link, .int .u64 r.node, .int .u64 r.val, .bool r.found] rfl (by rintro _ ⟨z, rfl⟩; exact rangeAt_part (klD KS7.out z.b) rfl) _ Tryz.underlying46 rfl (by kernel_rfl) ?_
    intro v hv
    subst hv
    refine wpQuiet_nil ?_
    simp only [Act.put, List.setIfInBounds_toArray, List.set_cons_succ, List.set_cons_zero]
    iterate 4 (refine m2q rfl rfl ?_; go_big_quiet_step (fail); refine wpQuiet_nil ?_)
    refine m2q rfl rfl ?_
    refine wpQuiet_loadP rfl 46 (.tmp 54) rfl b2 (o2 + k * 7) [.int .i64 r.ph, .int .u64 r.hash, .int .u64 r.key, .int .u64 r.link, .int .u64 r.node, .int .u64 r.val, .bool r.found] rfl (by rintro _ ⟨z, rfl⟩; exact HC2.out z) _ Tryz.underlying46 rfl (by kernel_rfl) ?_
    intro v hv
    subst hv
    refine wpQuiet_nil ?_
    simp only [Act.put, List.setIfInBounds_toArray, List.set_cons_succ, List.set_cons_zero]
    iterate 1 (refine m2q rfl rfl ?_; go_big_quiet_step (fail); refine wpQuiet_nil ?_)
    refine m2d ?_
    simp only [List.drop_succ_cons, List.drop_nil]
    go_wp2
    go_roundg (gk - 1)
    case measure => have := HK.out; omega
    case rel => exact ⟨k + 1, by have := HK.out; omega, by go_num, HB7⟩
   ·have tl : decide (((k : Nat) : Int) < ((rn : Nat) : Int)) = false := decide_eq_false (by omega)
    have KX8 := hid (klD KX.out HBR.out)
    have KY8 := hid (klD KY.out HBR.out)
    have HSW := hid (HSM.out wr HBW.out)
    unfold memV at HSW
    go_wp2_with (first | (refine wp_loadP rfl 25 (.tmp 58) rfl X 0 _ [.slice wa1 M.W.length wc1, .slice la1 M.L.length lc1, .bool M.F] rfl _ KX8.out rfl _ Tryz.underlying25 rfl (by kernel_rfl) ?_; intro v hv; subst hv) | (refine wp_loadP rfl 25 (.tmp 60) rfl Y 0 _ [.slice wa2 M.W.length wc2, .slice la2 M.L.length lc2, .bool M.F] rfl _ KY8.out rfl _ Tryz.underlying25 rfl (by kernel_rfl) ?_; intro v hv; subst hv))
    refine HSW.out.mono ?_
    rintro e9 w9 ⟨rfl, hb⟩
    have HB9 := hid (HBW.out.trans (hb.mono HBW.out.size))
    clear hb
    go_wp2
    go_ret
    exact ⟨rfl, HB9.out⟩
end Go.Proofs.YtipohagcppfgiaaGreat
namespace Go.Proofs.YtipohagcppfgiaaGreat
open Go.RowKit
open Go.Proofs
set_option linter.unusedVariables false
attribute [local go_sem] Oper.semAt_some
theorem key_jb {c : Bool} {x0 x1 x2 x3 : Nat} (h : x0 < 18446744073709551616 ∧ x1 < 18446744073709551616 ∧ x2 < 18446744073709551616 ∧ x3 < 18446744073709551616) : Tryz.prog.keyLits 3 66 [.bool c, .int .u64 x0, .int .u64 x1, .int .u64 x2, .int .u64 x3] = some [.bool c, .int .u64 x0, .int .u64 x1, .int .u64 x2, .int .u64 x3] := by
 have hc2 : Tryz.prog.cellsOf 4 = 1 := by kernel_rfl
 have hc3 : Tryz.prog.cellsOf 42 = 4 := by kernel_rfl
 have hc4 : Tryz.prog.cellsOf 66 = 5 := by kernel_rfl
 have ht := key_nd h
 unfold Program.keyLits
 simp only [Tryz.underlying66]
 simp [hc2, hc3, hc4, key_bool 1, ht]
theorem key_ky {x0 x1 : Nat} (h : x0 < 18446744073709551616 ∧ x1 < 18446744073709551616) : Tryz.prog.keyLits 2 68 [.int .u64 x0, .int .u64 x1] = some [.int .u64 x0, .int .u64 x1] := by
 have hc0 : Tryz.prog.cellsOf 26 = 1 := by kernel_rfl
 have hc1 : Tryz.prog.cellsOf 68 = 2 := by kernel_rfl
 unfold Program.keyLits
 simp only [Tryz.underlying68]
 simp [hc0, hc1]
 refine ⟨[[.int .u64 x0], [.int .u64 x1]], ?_, rfl⟩
 show List.mapM _ [0, 1] = _
 simp [key_u64 0 h.1, key_u64 0 h.2]
set_option maxRecDepth 100000 in
theorem jb_eq (c : Bool) (x0 x1 x2 x3 : Nat) (h : x0 < 18446744073709551616 ∧ x1 < 18446744073709551616 ∧ x2 < 18446744073709551616 ∧ x3 < 18446744073709551616) (w : World) :
  (Op.equalIn 10000 66 (.agg #[.bool c, .int .u64 x0, .int .u64 x1, .int .u64 x2, .int .u64 x3]) (.agg #[.bool c, .int .u64 x0, .int .u64 x1, .int .u64 x2, .int .u64 x3])).run Tryz.prog w = .ok true w := by
 have h1 := key_jb (c := c) h
 obtain ⟨r, hr, hiff⟩ := run_equalIn_deep (P := Tryz.prog) 9997 3 66 (by kernel_rfl) w 3 3 (.agg #[.bool c, .int .u64 x0, .int .u64 x1, .int .u64 x2, .int .u64 x3]) (.agg #[.bool c, .int .u64 x0, .int .u64 x1, .int .u64 x2, .int .u64 x3]) _ _ (by simp [Value.formed, Tryz.underlying66]; exact (by kernel_rfl : 5 = Tryz.prog.cellsOf 66)) (by simp [Value.formed, Tryz.underlying66]; exact (by kernel_rfl : 5 = Tryz.prog.cellsOf 66)) h1 h1
 rw [hr]
 congr 1
 rw [Bool.eq_iff_iff, hiff]
 simp
set_option maxRecDepth 100000 in
theorem ky_eq (x0 x1 : Nat) (h : x0 < 18446744073709551616 ∧ x1 < 18446744073709551616) (w : World) :
  (Op.equalIn 10000 68 (.agg #[.int .u64 x0, .int .u64 x1]) (.agg #[.int .u64 x0, .int .u64 x1])).run Tryz.prog w = .ok true w := by
 have h1 := key_ky h
 obtain ⟨r, hr, hiff⟩ := run_equalIn_deep (P := Tryz.prog) 9998 2 68 (by kernel_rfl) w 2 2 (.agg #[.int .u64 x0, .int .u64 x1]) (.agg #[.int .u64 x0, .int .u64 x1]) _ _ (by simp [Value.formed, Tryz.underlying68]; exact (by kernel_rfl : 2 = Tryz.prog.cellsOf 68)) (by simp [Value.formed, Tryz.underlying68]; exact (by kernel_rfl : 2 = Tryz.prog.cellsOf 68)) h1 h1
 rw [hr]
 congr 1
 rw [Bool.eq_iff_iff, hiff]
 simp
set_option maxRecDepth 100000 in
set_option maxHeartbeats 2000000 in
theorem EqJ_self (xs : List Jb) (a a' : Option Addr) (n cap cap' : Nat) (w : World) (hx : xs.length = n) (hxb : ∀ x ∈ xs, x.2.Ok) (h : Leads w a n cap (jbcells xs)) (h' : Leads w a' n cap' (jbcells xs)) :
  Calls Tryz.prog 42 #[.slice a n cap, .slice a' n cap'] w (Ret (.bool true) w) := by
 have hn := h.len.1
 have H := hid h
 have H' := hid h'
 have HX := hid hx
 have HXB := hid hxb
 have tq : (((n : Nat) : Int) != ((n : Nat) : Int)) = false := by simp
 clear h h' hx hxb
 go_enter Tryz.func42, Tryz.ntmps42
 go_wp2
 go_loopg [13] n (fun g i wr => ∃ k : Nat, g + k = n ∧ i = .int .i64 k ∧ Hid (Below w.heap.size w wr))
 case atStart => exact ⟨0, rfl, rfl, hid (Below.refl _ _)⟩
 case round =>
  obtain ⟨k, hk, rfl, hb⟩ := hrel
  have HK := hid hk
  clear hk
  by_cases hlt : k < n
  ·obtain ⟨⟨c, x0, x1, x2, x3⟩, hxk⟩ : ∃ x, xs[k]? = some x := ⟨_, List.getElem?_eq_getElem (by rw [HX.out]; exact hlt)⟩
   have hat : ∀ i, i < 5 → (jbcells xs)[k * 5 + i]? = ([.bool c, .int .u64 x0, .int .u64 x1, .int .u64 x2, .int .u64 x3] : List Value)[i]? := fun i hi => jbcell_at hxk i hi
   obtain ⟨b, off, rfl, hcx⟩ : ∃ b o, a = some ⟨b, o, none⟩ ∧ ∀ i v, (jbcells xs)[i]? = some v → ∀ W, Below w.heap.size w W → W.cell? ⟨b, o + i, none⟩ = some v := by
    obtain ⟨_, _, ⟨q, _⟩ | ⟨b, off, e, h3, h4⟩⟩ := H.out
    ·omega
    ·exact ⟨b, off, e, fun i v hv W hW => (hW.cell (p := ⟨b, off + i, none⟩) h3).trans (h4 i v hv)⟩
   obtain ⟨b', off', rfl, hcy⟩ : ∃ b o, a' = some ⟨b, o, none⟩ ∧ ∀ i v, (jbcells xs)[i]? = some v → ∀ W, Below w.heap.size w W → W.cell? ⟨b, o + i, none⟩ = some v := by
    obtain ⟨_, _, ⟨q, _⟩ | ⟨b, off, e, h3, h4⟩⟩ := H'.out
    ·omega
    ·exact ⟨b, off, e, fun i v hv W hW => (hW.cell (p := ⟨b, off + i, none⟩) h3).trans (h4 i v hv)⟩
   have HB1 := hid hb.out
   have heq := fun W => jb_eq c x0 x1 x2 x3 (HXB.out _ (List.mem_of_getElem? hxk)) W
   have f0 : ∀ z : Ext wr, z.v.cell? ⟨b, off + k * 5, none⟩ = some (.bool c) := fun z => hcx (k * 5 + 0) _ (hat 0 (by decide)) z.v (step HB1.out z.b)
   have g0 : ∀ z : Ext wr, z.v.cell? ⟨b', off' + k * 5, none⟩ = some (.bool c) := fun z => hcy (k * 5 + 0) _ (hat 0 (by decide)) z.v (step HB1.out z.b)
   have f1 : ∀ z : Ext wr, z.v.cell? ⟨b, off + k * 5 + 1, none⟩ = some (.int .u64 x0) := fun z => hcx (k * 5 + 1) _ (hat 1 (by decide)) z.v (step HB1.out z.b)
   have g1 : ∀ z : Ext wr, z.v.cell? ⟨b', off' + k * 5 + 1, none⟩ = some (.int .u64 x0) := fun z => hcy (k * 5 + 1) _ (hat 1 (by decide)) z.v (step HB1.out z.b)
   have f2 : ∀ z : Ext wr, z.v.cell? ⟨b, off + k * 5 + 2, none⟩ = some (.int .u64 x1) := fun z => hcx (k * 5 + 2) _ (hat 2 (by decide)) z.v (step HB1.out z.b)
   have g2 : ∀ z : Ext wr, z.v.cell? ⟨b', off' + k * 5 + 2, none⟩ = some (.int .u64 x1) := fun z => hcy (k * 5 + 2) _ (hat 2 (by decide)) z.v (step HB1.out z.b)
   have f3 : ∀ z : Ext wr, z.v.cell? ⟨b, off + k * 5 + 3, none⟩ = some (.int .u64 x2) := fun z => hcx (k * 5 + 3) _ (hat 3 (by decide)) z.v (step HB1.out z.b)
   have g3 : ∀ z : Ext wr, z.v.cell? ⟨b', off' + k * 5 + 3, none⟩ = some (.int .u64 x2) := fun z => hcy (k * 5 + 3) _ (hat 3 (by decide)) z.v (step HB1.out z.b)
   have f4 : ∀ z : Ext wr, z.v.cell? ⟨b, off + k * 5 + 4, none⟩ = some (.int .u64 x3) := fun z => hcx (k * 5 + 4) _ (hat 4 (by decide)) z.v (step HB1.out z.b)
   have g4 : ∀ z : Ext wr, z.v.cell? ⟨b', off' + k * 5 + 4, none⟩ = some (.int .u64 x3) := fun z => hcy (k * 5 + 4) _ (hat 4 (by decide)) z.v (step HB1.out z.b)
   go_upto_region 6 with (fail)
   clear hcx hcy hat hxk hb
   refine wp_region_ext (by kernel_rfl) (by kernel_rfl) ?_
   repeat (go_big_quiet_step (fail))
   refine wpQuiet_nil ?_
   rintro v8 ⟨x8, e8⟩
   have HB2 := hid (step HB1.out x8.b)
   rw [← e8] at HB2
   clear e8 x8
   go_wp2
   go_roundg (gk - 1)
   case measure => have := HK.out; omega
   case rel => exact ⟨k + 1, by have := HK.out; omega, by go_num, HB2⟩
  ·have e := HK.out
   obtain rfl : k = n := by omega
   clear e HK
   go_wp2
   go_ret
   exact ⟨rfl, hb.out⟩
set_option maxRecDepth 100000 in
set_option maxHeartbeats 2000000 in
theorem EqK_self (xs : List (Nat × Nat)) (a a' : Option Addr) (n cap cap' : Nat) (w : World) (hx : xs.length = n) (hxb : ∀ x ∈ xs, x.1 < 18446744073709551616 ∧ x.2 < 18446744073709551616) (h : Leads w a n cap (kycells xs)) (h' : Leads w a' n cap' (kycells xs)) :
  Calls Tryz.prog 43 #[.slice a n cap, .slice a' n cap'] w (Ret (.bool true) w) := by
 have hn := h.len.1
 have H := hid h
 have H' := hid h'
 have HX := hid hx
 have HXB := hid hxb
 have tq : (((n : Nat) : Int) != ((n : Nat) : Int)) = false := by simp
 clear h h' hx hxb
 go_enter Tryz.func43, Tryz.ntmps43
 go_wp2
 go_loopg [13] n (fun g i wr => ∃ k : Nat, g + k = n ∧ i = .int .i64 k ∧ Hid (Below w.heap.size w wr))
 case atStart => exact ⟨0, rfl, rfl, hid (Below.refl _ _)⟩
 case round =>
  obtain ⟨k, hk, rfl, hb⟩ := hrel
  have HK := hid hk
  clear hk
  by_cases hlt : k < n
  ·obtain ⟨⟨x0, x1⟩, hxk⟩ : ∃ x, xs[k]? = some x := ⟨_, List.getElem?_eq_getElem (by rw [HX.out]; exact hlt)⟩
   have hat : ∀ i, i < 2 → (kycells xs)[k * 2 + i]? = ([.int .u64 x0, .int .u64 x1] : List Value)[i]? := fun i hi => kycell_at hxk i hi
   obtain ⟨b, off, rfl, hcx⟩ : ∃ b o, a = some ⟨b, o, none⟩ ∧ ∀ i v, (kycells xs)[i]? = some v → ∀ W, Below w.heap.size w W → W.cell? ⟨b, o + i, none⟩ = some v := by
    obtain ⟨_, _, ⟨q, _⟩ | ⟨b, off, e, h3, h4⟩⟩ := H.out
    ·omega
    ·exact ⟨b, off, e, fun i v hv W hW => (hW.cell (p := ⟨b, off + i, none⟩) h3).trans (h4 i v hv)⟩
   obtain ⟨b', off', rfl, hcy⟩ : ∃ b o, a' = some ⟨b, o, none⟩ ∧ ∀ i v, (kycells xs)[i]? = some v → ∀ W, Below w.heap.size w W → W.cell? ⟨b, o + i, none⟩ = some v := by
    obtain ⟨_, _, ⟨q, _⟩ | ⟨b, off, e, h3, h4⟩⟩ := H'.out
    ·omega
    ·exact ⟨b, off, e, fun i v hv W hW => (hW.cell (p := ⟨b, off + i, none⟩) h3).trans (h4 i v hv)⟩
   have HB1 := hid hb.out
   have heq := fun W => ky_eq x0 x1 (HXB.out _ (List.mem_of_getElem? hxk)) W
   have f0 : ∀ z : Ext wr, z.v.cell? ⟨b, off + k * 2, none⟩ = some (.int .u64 x0) := fun z => hcx (k * 2 + 0) _ (hat 0 (by decide)) z.v (step HB1.out z.b)
   have g0 : ∀ z : Ext wr, z.v.cell? ⟨b', off' + k * 2, none⟩ = some (.int .u64 x0) := fun z => hcy (k * 2 + 0) _ (hat 0 (by decide)) z.v (step HB1.out z.b)
   have f1 : ∀ z : Ext wr, z.v.cell? ⟨b, off + k * 2 + 1, none⟩ = some (.int .u64 x1) := fun z => hcx (k * 2 + 1) _ (hat 1 (by decide)) z.v (step HB1.out z.b)
   have g1 : ∀ z : Ext wr, z.v.cell? ⟨b', off' + k * 2 + 1, none⟩ = some (.int .u64 x1) := fun z => hcy (k * 2 + 1) _ (hat 1 (by decide)) z.v (step HB1.out z.b)
   go_upto_region 6 with (fail)
   clear hcx hcy hat hxk hb
   refine wp_region_ext (by kernel_rfl) (by kernel_rfl) ?_
   repeat (go_big_quiet_step (fail))
   refine wpQuiet_nil ?_
   rintro v8 ⟨x8, e8⟩
   have HB2 := hid (step HB1.out x8.b)
   rw [← e8] at HB2
   clear e8 x8
   go_wp2
   go_roundg (gk - 1)
   case measure => have := HK.out; omega
   case rel => exact ⟨k + 1, by have := HK.out; omega, by go_num, HB2⟩
  ·have e := HK.out
   obtain rfl : k = n := by omega
   clear e HK
   go_wp2
   go_ret
   exact ⟨rfl, hb.out⟩
set_option maxRecDepth 100000 in
set_option maxHeartbeats 8000000 in
theorem same_any (w o : Wal) (wa la ja ka wa1 la1 ja1 ka1 : Option Addr) (wc lc jc kc nj0 nk0 wc1 lc1 jc1 kc1 nj nk : Nat) (V : World) (ho : ownW w = o) (h : WalL V wa wc la lc ja nj0 jc ka nk0 kc w) (h1 : WalL V wa1 wc1 la1 lc1 ja1 nj jc1 ka1 nk kc1 o) :
  Calls Tryz.prog 15 #[walV wa1 wc1 la1 lc1 ja1 nj jc1 ka1 nk kc1 o, walV wa wc la lc ja nj0 jc ka nk0 kc w] V (Ret (.bool true) V) := by
 have HOWN := hid (fun (W : World) (hb : Below V.heap.size V W) => wown_any w wa la ja ka wc lc jc kc nj0 nk0 W (h.grow hb))
 rw [ho] at HOWN
 have HOK := hid h1.ok
 have HH1 := hid h1
 have hnj := h1.nj
 have hnk := h1.nk
 unfold GivesWl at HOWN
 rw [hnj, hnk] at HOWN
 unfold walV at HOWN ⊢
 obtain ⟨hd0, hhd0⟩ := nm (w.head)
 obtain ⟨wl0, hwl0⟩ := nm (w.M.W.length)
 obtain ⟨ll0, hll0⟩ := nm (w.M.L.length)
 obtain ⟨F0, hf0⟩ := nm (w.M.F)
 rw [hhd0, hwl0, hll0, hf0] at HOWN ⊢
 have HSM := hid (fun (W : World) (wa2 la2 : Option Addr) (wc2 lc2 : Nat) (hb : Below V.heap.size V W) (h2 : MemL W wa2 wc2 la2 lc2 o.M) => RefSame_any o.M o.M wa1 la1 wa2 la2 wc1 lc1 wc2 lc2 W (h1.mem.grow hb) h2)
 rw [sameM_selfW] at HSM
 unfold memV at HSM
 obtain ⟨hd, hhd⟩ := nm (o.head)
 obtain ⟨wl, hwl⟩ := nm (o.M.W.length)
 obtain ⟨ll, hll⟩ := nm (o.M.L.length)
 obtain ⟨F, hf⟩ := nm (o.M.F)
 rw [hwl, hll, hf] at HSM
 rw [hhd, hwl, hll, hf] at HOWN ⊢
 obtain ⟨V1, hV1, hb1, hs1, hl1⟩ := laid V (wal8 wa1 wl wc1 la1 ll lc1 F hd ja1 nj jc1 ka1 nk kc1) 30
 obtain ⟨A, hA⟩ := nm (V.heap.size)
 rw [hA] at hl1
 obtain ⟨V2, hV2, hb2, hs2, hl2⟩ := laid V1 (wal8 wa wl0 wc la ll0 lc F0 hd0 ja nj0 jc ka nk0 kc) 30
 obtain ⟨X, hX⟩ := nm (V1.heap.size)
 rw [hX] at hl2
 have HA := hid (klD hl1 hb2)
 have HX := hid hl2
 have HB := hid (step hb1 hb2)
 clear h h1 hb1 hs1 hl1 hb2 hs2 hl2 hhd0 hwl0 hll0 hf0 hhd hwl hll hf ho hnj hnk
 go_enter Tryz.func15, Tryz.ntmps15
 go_wp2_with (refine wlW rfl 30 (.tmp 3) rfl X _ rfl _ HX.out _ Tryz.underlying30 rfl (by kernel_rfl) ?_; intro v hv; subst hv)
 refine (HOWN.out V2 HB.out).mono ?_
 rintro e w3 ⟨wa2, wc2, la2, lc2, ja2, jc2, ka2, kc2, rfl, hO⟩
 have HB3 := hid (HB.out.trans (hO.below.mono HB.out.size))
 have HA3 := hid (klD HA.out hO.below)
 have hO2 := hO
 obtain ⟨w4, hw4, hb4, hs4, hl4⟩ := laid w3 #[.slice none 0 0, .slice none 0 0, .bool false, .int .u64 0, .slice none 0 0, .slice none 0 0] 30
 obtain ⟨B, hB⟩ := nm (w3.heap.size)
 rw [hB] at hl4
 have KB4 := hid hl4
 have HB4 := hid hb4
 have HO3 := hid hO
 clear hO hO2 hb4 hs4 hl4 HOWN HX HA HB hV1 hA hV2 hX
 go_upto_region 2 with (refine wsP rfl 30 (.tmp 5) (.tmp 7) rfl B 0 _ (wal8 wa2 wl wc2 la2 ll lc2 F hd ja2 nj jc2 ka2 nk kc2) _ rfl rfl _ KB4.out (by kernel_rfl) (Nat.le_of_ble_eq_true rfl) (by kernel_rfl) rfl ?_; intro w5 a1 a2 a3 a4; have KB := hid a1; have hbx := a3 _ _ (Nat.le_of_eq hB) HB4.out; have HB5 := hid (HB3.out.trans (hbx.mono HB3.out.size)); have HO5 := hid (HO3.out.grow hbx); have HA5 := hid (klD HA3.out hbx); clear a1 a2 a3 a4 hbx KB4 HB4 HB3 HO3 HA3; (try simp only [Act.put]))
 clear hw4 hB
 go_wp2_with (first | (refine wp_loadP rfl 25 (.tmp 8) rfl A 0 _ [.slice wa1 wl wc1, .slice la1 ll lc1, .bool F] rfl _ HA5.out rfl _ Tryz.underlying25 rfl (by kernel_rfl) ?_; intro v hv; subst hv) | (refine wp_loadP rfl 25 (.tmp 10) rfl B 0 _ [.slice wa2 wl wc2, .slice la2 ll lc2, .bool F] rfl _ KB.out rfl _ Tryz.underlying25 rfl (by kernel_rfl) ?_; intro v hv; subst hv))
 refine (HSM.out w5 wa2 la2 wc2 lc2 HB5.out HO5.out.mem.memL).mono ?_
 rintro e w6 ⟨rfl, hb⟩
 have HA6 := hid (klD HA5.out hb)
 have KB6 := hid (klD KB.out hb)
 have HB6 := hid (HB5.out.trans (hb.mono HB5.out.size))
 have HO6 := hid (HO5.out.grow hb)
 clear hb HA5 KB HB5 HO5 HSM
 have x3 := clD (i := 3) HA6.out rfl
 have y3 := clD (i := 3) KB6.out rfl
 have x4 := clD (i := 4) HA6.out rfl
 have y4 := clD (i := 4) KB6.out rfl
 have te : (((hd : Nat) : Int) == ((hd : Nat) : Int)) = true := by simp
 have HEJ := hid (EqJ_self o.J ja1 ja2 nj jc1 jc2 w6 HO6.out.nj HOK.out.jok (HH1.out.j.grow HB6.out) (Leads.of_own1 HO6.out.j))
 go_wp2_with fail
 refine HEJ.out.mono ?_
 rintro e w7 ⟨rfl, hb⟩
 have HA7 := hid (klD HA6.out hb)
 have KB7 := hid (klD KB6.out hb)
 have HB7 := hid (HB6.out.trans (hb.mono HB6.out.size))
 have HO7 := hid (HO6.out.grow hb)
 clear hb HA6 KB6 HB6 HO6 HEJ x3 y3 x4 y4
 have x5 := clD (i := 5) HA7.out rfl
 have y5 := clD (i := 5) KB7.out rfl
 have HEK := hid (EqK_self o.K ka1 ka2 nk kc1 kc2 w7 HO7.out.nk HOK.out.kok (HH1.out.k.grow HB7.out) (Leads.of_own1 HO7.out.k))
 go_wp2_with fail
 refine HEK.out.mono ?_
 rintro e w8 ⟨rfl, hb⟩
 have HB8 := hid (HB7.out.trans (hb.mono HB7.out.size))
 clear hb HA7 KB7 HB7 HO7 HEK x5 y5
 go_wp2
 go_ret
 exact ⟨rfl, HB8.out⟩
end Go.Proofs.YtipohagcppfgiaaGreat
namespace Go.Proofs.YtipohagcppfgiaaGreat
open Go.RowKit
open Go.Proofs
set_option linter.unusedVariables false
attribute [local go_sem] Oper.semAt_some
theorem Begin_result {W : World} {b : Nat} {vs : Array Value} {tmps : Array Value} (h : W.heap[b]? = some (.cells vs 49 (0, 0))) (hs : vs.size = 21) (q4 : tmps[2]?.getD undef = .pointer (some ⟨b, 0, none⟩)) :
  (results Tryz.f12 tmps).run Tryz.prog W = .ok (.agg vs) W := by
 have hl := run_loadVar_row (P := Tryz.prog) W b 49 49 vs (0, 0) _ h Tryz.underlying49 rfl (by rw [hs]; kernel_rfl)
 have ha : (asAddr (.pointer (some ⟨b, 0, none⟩))).run Tryz.prog W = .ok ⟨b, 0, none⟩ W := rfl
 simp [results, Tryz.results12, q4, ha, hl]
/-- Where all are, at first. -/
def beginD (w : Wal) : Gst := beginsG w.J w.head ⟨w.M, 0, false, zeroEd, zeroSk, seeksK w.head w.K⟩
/-- As GivesD; the readers' row lies in the world. -/
def GivesDl (g : Gst) (V : World) (e : Ending) (W : World) : Prop := ∃ wa wc la lc ra rc, e = .returned (wdV wa wc la lc ra rc g) ∧ WdL W wa wc la lc ra rc g ∧ Below V.heap.size V W ∧ ∀ b off, ra = some ⟨b, off, none⟩ → b < W.heap.size
theorem seeksK_len (h : Nat) (ks : List (Nat × Nat)) : (seeksK h ks).length = ks.length := by unfold seeksK; rw [List.length_map]
set_option maxRecDepth 100000 in
set_option maxHeartbeats 16000000 in
theorem Begin_any (w : Wal) (wa la ja ka : Option Addr) (wc lc jc kc : Nat) (V : World) (h : WalL V wa wc la lc ja w.J.length jc ka w.K.length kc w) (hk10 : w.K.length ≤ 1000) :
  Calls Tryz.prog 12 #[walV wa wc la lc ja w.J.length jc ka w.K.length kc w] V (GivesDl (beginD w) V) := by
 unfold walV
 obtain ⟨V1, hV1, hb1, hs1, hl1⟩ := laid V (wal8 wa w.M.W.length wc la w.M.L.length lc w.M.F w.head ja w.J.length jc ka w.K.length kc) 30
 obtain ⟨X, hX⟩ := nm (V.heap.size)
 rw [hX] at hl1
 obtain ⟨V2, hV2, hb2, hs2, hl2⟩ := laid V1 (w21 none 0 0 none 0 0 false 0 false zeroEd zeroSk none 0 0) 49
 obtain ⟨T, hT⟩ := nm (V1.heap.size)
 rw [hT] at hl2
 obtain ⟨V3, hV3, hb3, hs3, hl3⟩ := laid V2 (w21 none 0 0 none 0 0 false 0 false zeroEd zeroSk none 0 0) 49
 obtain ⟨Y, hY⟩ := nm (V2.heap.size)
 rw [hY] at hl3
 have hV2' : V1.alloc (.cells #[.slice none 0 0, .slice none 0 0, .bool false, .int .i64 0, .bool false, .int .i64 0, .bool false, .int .u64 0, .int .u64 0, .int .u64 0, .int .u64 0, .int .u64 0, .int .u64 0, .int .i64 0, .int .u64 0, .int .u64 0, .int .u64 0, .int .u64 0, .int .u64 0, .bool false, .slice none 0 0] 49) = V2 := hV2
 have hV3' : V2.alloc (.cells #[.slice none 0 0, .slice none 0 0, .bool false, .int .i64 0, .bool false, .int .i64 0, .bool false, .int .u64 0, .int .u64 0, .int .u64 0, .int .u64 0, .int .u64 0, .int .u64 0, .int .i64 0, .int .u64 0, .int .u64 0, .int .u64 0, .int .u64 0, .int .u64 0, .bool false, .slice none 0 0] 49) = V3 := hV3
 have hXT : X < T := by omega
 have hTY : T < Y := by omega
 have hVX : V.heap.size ≤ X := by omega
 have hVY : V.heap.size ≤ Y := by omega
 have hVT : V.heap.size ≤ T := by omega
 have KX2 := hid (klD hl1 hb2)
 have KX3 := hid (klD (klD hl1 hb2) hb3)
 have KT3 := hid (klD hl2 hb3)
 have KY3 := hid hl3
 have HB3 := hid (step (step hb1 hb2) hb3)
 have HWL := hid h
 have hjl := h.j.len
 have hkl := h.k.len
 clear hV2 hV3 hb1 hs1 hl1 hb2 hs2 hl2 hb3 hs3 hl3 h
 go_enter Tryz.func12, Tryz.ntmps12
 go_upto_region 2 with (first | (refine wp_loadP rfl 25 (.tmp 6) rfl X 0 _ [.slice wa w.M.W.length wc, .slice la w.M.L.length lc, .bool w.M.F] rfl _ KX2.out rfl _ Tryz.underlying25 rfl (by kernel_rfl) ?_; intro v hv; subst hv) | (refine wsP rfl 49 (.tmp 3) (.tmp 8) rfl Y 0 _ (w21 wa w.M.W.length wc la w.M.L.length lc w.M.F 0 false zeroEd zeroSk none 0 0) _ rfl rfl _ KY3.out (by kernel_rfl) (Nat.le_of_ble_eq_true rfl) (by kernel_rfl) rfl ?_; intro u4 a1 a2 a3 a4; have KY4 := hid a1; have KX4 := hid (a2 X _ (by omega) KX3.out); have KT4 := hid (a2 T _ (by omega) KT3.out); have HB4 := hid (a3 _ _ hVY HB3.out); clear a1 a2 a3 a4 KX2 KX3 KT3 KY3 HB3; (try simp only [Act.put])))
 clear hV1 hV2' hV3' hX hT hY
 have x5 := clD (i := 5) KX4.out rfl
 obtain ⟨nk, hnk⟩ := nm (w.K.length)
 rw [hnk] at x5 hkl hk10 KX4 HWL
 have HNK := hid hnk
 clear hnk
 go_upto_region 3 with (fail)
 clear x5
 go_loopg [12] nk (fun g i wr => ∃ (k : Nat) (ra : Option Addr) (rc : Nat), g + k = nk ∧ i = .int .i64 k ∧ Hid (wr.heap[Y]? = some (.cells (w21 wa w.M.W.length wc la w.M.L.length lc w.M.F 0 false zeroEd zeroSk ra k rc) 49 (0, 0))) ∧ Hid (wr.heap[X]? = some (.cells (wal8 wa w.M.W.length wc la w.M.L.length lc w.M.F w.head ja w.J.length jc ka nk kc) 30 (0, 0))) ∧ Hid (wr.heap[T]? = some (.cells (w21 none 0 0 none 0 0 false 0 false zeroEd zeroSk none 0 0) 49 (0, 0))) ∧ Hid (wr.ownsRow V.heap.size 46 7 (.slice ra k rc) k (skcells (seeksK w.head (w.K.take k)))) ∧ Hid (Below V.heap.size V wr))
 case atStart => exact ⟨0, none, 0, rfl, rfl, KY4, KX4, KT4, hid (World.ownsRow_nil _ _ _ _), HB4⟩
 case round =>
  clear KY4 KX4 KT4 HB4
  obtain ⟨k, ra, rc, hk, rfl, hKY, hKX, hKT, hR, hB⟩ := hrel
  have HK := hid hk
  clear hk
  by_cases hlt : k < nk
  ·have tl : decide (((k : Nat) : Int) < ((nk : Nat) : Int)) = true := decide_eq_true (by omega)
   obtain ⟨⟨h0, h1⟩, hp⟩ : ∃ x, w.K[k]? = some x := ⟨_, List.getElem?_eq_getElem (by rw [HNK.out]; exact hlt)⟩
   have HP := hid hp
   obtain ⟨kb, ko, rfl, hcc⟩ : ∃ b o, ka = some ⟨b, o, none⟩ ∧ ∀ i v, (kycells w.K)[i]? = some v → wr.cell? ⟨b, o + i, none⟩ = some v := by
    obtain ⟨_, _, ⟨q, _⟩ | ⟨b, off, e, _, h4⟩⟩ := HWL.out.k.grow hB.out
    ·omega
    ·exact ⟨b, off, e, h4⟩
   have c0 : wr.cell? ⟨kb, ko + k * 2, none⟩ = some (.int .u64 h0) := hcc (k * 2 + 0) _ (kycell_at hp 0 (by decide))
   have c1 : wr.cell? ⟨kb, ko + k * 2 + 1, none⟩ = some (.int .u64 h1) := hcc (k * 2 + 1) _ (kycell_at hp 1 (by decide))
   obtain ⟨u1, hu1, hbu, hsu, hlu⟩ := laid wr #[.int .u64 0, .int .u64 0] 68
   obtain ⟨B, hBn⟩ := nm (wr.heap.size)
   rw [hBn] at hlu
   have hXB : X < B := by have := llD hKX.out; omega
   have hYB : Y < B := by have := llD hKY.out; omega
   obtain ⟨u2, hu2, a1, a2, a3⟩ := put2 hlu (.int .u64 h0) (.int .u64 h1)
   obtain ⟨z0, zf0, z1, zf1⟩ := fcl2 hlu
   have hb12 : Below wr.heap.size wr u2 := a3 _ wr (by omega) hbu
   have KY2 := hid (klD hKY.out hb12)
   have KX2 := hid (klD hKX.out hb12)
   have KT2 := hid (klD hKT.out hb12)
   have R2 := hid (ogr hR.out hb12)
   have HB2 := hid (hB.out.trans (hb12.mono hB.out.size))
   have KB2 := hid a1
   have HU2 := hid hu2
   clear hu2 a1 a2 a3 hbu hsu hlu hcc hp hb12 hKY hKX hKT hR hB
   obtain ⟨gm, hgm⟩ : ∃ x, x = gk - 1 := ⟨_, rfl⟩
   have HGM := hid hgm
   clear hgm
   go_upto_region 5 with (fail)
   rw [← HU2.out]
   clear c0 c1 z0 z1 zf0 zf1 HU2 hu1
   have y20 := clD (i := 20) KY2.out rfl
   have b0 := clD (i := 0) KB2.out rfl
   have b1 := clD (i := 1) KB2.out rfl
   have x3 := clD (i := 3) KX2.out rfl
   obtain ⟨w6, hw6, hbn, hsn, hln⟩ := laid u2 #[.int .i64 0, .int .u64 h0, .int .u64 h1, .int .u64 w.head, .int .u64 0, .int .u64 0, .bool false] 46
   obtain ⟨AB, hAB⟩ := nm (u2.heap.size)
   rw [hAB] at hln
   have KA6 := hid hln
   have KY6 := hid (klD KY2.out hbn)
   have KX6 := hid (klD KX2.out hbn)
   have KT6 := hid (klD KT2.out hbn)
   have R6 := hid (ogr R2.out hbn)
   have HB6 := hid (HB2.out.trans (hbn.mono HB2.out.size))
   clear KY2 KX2 KT2 R2 HB2 KB2 hbn hsn hln hBn
   go_wp2_with ((with_reducible show wpList _ _ _ _ _ _); refine waM elemSk rfl (.tmp 17) (.tmp 25) rfl V.heap.size (.slice ra k rc) k _ rfl R6.out ⟨AB, 0, none⟩ 1 1 (sk7l (seekK w.head h0 h1)) rfl ?c1 ?c2 ?c3 ?c4 ?c5 ?c6)
   case c1 => rfl
   case c2 =>
    intro j u hj
    exact cell_add (by rw [Nat.zero_add]; exact clD KA6.out (by simpa [sk7l, seekK] using hj))
   case c3 => intro u hu; simp only [sk7l, List.mem_cons, List.mem_nil_iff, or_false] at hu; rcases hu with rfl | rfl | rfl | rfl | rfl | rfl | rfl <;> rfl
   case c4 => omega
   case c5 => exact HB6.out.size
   case c6 =>
    intro v' w7 hown hgr hmv
    obtain ⟨ra', rc', rfl, -⟩ := Leads.of_own hown
    have KY7 := hid (kgr KY6.out hgr (fun e => own_neT R6.out KY6.out (by decide) Y e rfl))
    have KX7 := hid (kgr KX6.out hgr (fun e => own_neT R6.out KX6.out (by decide) X e rfl))
    have KT7 := hid (kgr KT6.out hgr (fun e => own_neT R6.out KT6.out (by decide) T e rfl))
    have HB7 := hid (HB6.out.trans (own_below R6.out hgr HB6.out.size))
    have R7 := hid hown
    clear hown hgr hmv KY6 KX6 KT6 R6 KA6 HB6 y20 b0 b1 x3 hw6 hAB
    go_wp2_with (refine wsP rfl 47 (.tmp 27) (.tmp 26) rfl Y 20 _ (w21 wa w.M.W.length wc la w.M.L.length lc w.M.F 0 false zeroEd zeroSk ra' (k + 1) rc') _ rfl rfl _ KY7.out (by kernel_rfl) (Nat.le_of_ble_eq_true rfl) (by kernel_rfl) rfl ?_; intro u9 a1 a2 a3 a4; have KY9 := hid a1; have KX9 := hid (a2 X _ (by omega) KX7.out); have KT9 := hid (a2 T _ (by omega) KT7.out); have R9 := hid (okp R7.out fun j o hj ho => a2 j o (own_neT R7.out KY7.out (by decide) j hj) ho); have HB9 := hid (a3 _ _ hVY HB7.out); clear a1 a2 a3 a4 KY7 KX7 KT7 R7 HB7; (try simp only [Act.put]))
    go_roundg gm
    case measure => have := HGM.out; have := HK.out; omega
    case rel => exact ⟨k + 1, _, _, by have := HGM.out; have := HK.out; omega, rfl, KY9, KX9, KT9, hid (by rw [take_snoc HP.out]; unfold seeksK; rw [List.map_append]; unfold skcells at R9 ⊢; rw [List.flatMap_append]; have := R9.out; simpa [seeksK, skcells] using this), HB9⟩
  ·have tl : decide (((k : Nat) : Int) < ((nk : Nat) : Int)) = false := decide_eq_false (by omega)
   obtain rfl : k = nk := by have := HK.out; omega
   have HTK : Hid (w.K.take k = w.K) := hid (List.take_of_length_le (by rw [HNK.out]; exact Nat.le_refl _))
   have R2 : Hid (wr.ownsRow V.heap.size 46 7 (.slice ra k rc) k (skcells (seeksK w.head w.K))) := hid (by have := hR.out; rwa [HTK.out] at this)
   have HNX := hid (next_any w ⟨w.M, 0, false, zeroEd, zeroSk, seeksK w.head w.K⟩ wa la ja ka wa la ra wc lc jc kc w.J.length k wc lc rc wr (HWL.out.j.grow hB.out) rfl)
   have HG2 : Hid (beginD w = beginsG w.J w.head ⟨w.M, 0, false, zeroEd, zeroSk, seeksK w.head w.K⟩) := hid rfl
   obtain ⟨g2, hg2⟩ : ∃ x, beginsG w.J w.head ⟨w.M, 0, false, zeroEd, zeroSk, seeksK w.head w.K⟩ = x := ⟨_, rfl⟩
   have HGM : Hid (g2.M = w.M ∧ g2.R = seeksK w.head w.K) := hid (by rw [← hg2]; exact ⟨rfl, rfl⟩)
   rw [hg2] at HNX HG2
   unfold walV wdV at HNX
   dsimp only at HNX
   rw [seeksK_len, HNK.out] at HNX
   have KX8 := hid hKX.out
   have KY8 := hid hKY.out
   have KT8 := hid hKT.out
   have HB8 := hid hB.out
   clear hg2 hKX hKY hKT hR hB
   go_wp2_with (first | (refine wlW rfl 30 (.tmp 1) rfl X _ rfl _ KX8.out _ Tryz.underlying30 rfl (by kernel_rfl) ?_; intro v hv; subst hv) | (refine wlW rfl 49 (.tmp 3) rfl Y _ rfl _ KY8.out _ Tryz.underlying49 rfl (by kernel_rfl) ?_; intro v hv; subst hv))
   refine HNX.out.mono ?_
   rintro e9 w9 ⟨rfl, hbn⟩
   have KT9 := hid (klD KT8.out hbn)
   have HB9 := hid (HB8.out.trans (hbn.mono HB8.out.size))
   have R9 := hid (ogr R2.out hbn)
   clear hbn HNX KT8 HB8 R2 KX8 KY8
   go_wp2_with (refine wsP rfl 49 (.tmp 2) (.tmp 31) rfl T 0 _ (w21 wa g2.M.W.length wc la g2.M.L.length lc g2.M.F g2.done g2.edits g2.ed g2.wr ra g2.R.length rc) _ rfl rfl _ KT9.out (by kernel_rfl) (Nat.le_of_ble_eq_true rfl) (by kernel_rfl) rfl ?_; intro ua a1 a2 a3 a4; have KTa := hid a1; have Ra := hid (okp R9.out fun j o hj ho => a2 j o (own_neT R9.out KT9.out (by decide) j hj) ho); have HBa := hid (a3 _ _ hVT HB9.out); clear a1 a2 a3 a4 KT9 R9 HB9; (try simp only [Act.put]))
   refine bodyPost_ret (Begin_result KTa.out rfl rfl) rfl ?_
   rw [HG2.out]
   exact ⟨_, _, _, _, _, _, rfl, ⟨by rw [HGM.out.1]; exact HWL.out.mem.grow HBa.out, by rw [HGM.out.2, seeksK_len, HNK.out]; exact Leads.of_own1 Ra.out⟩, HBa.out, fun b off e => by subst e; exact own_lt Ra.out b rfl⟩
end Go.Proofs.YtipohagcppfgiaaGreat
namespace Go.Proofs.YtipohagcppfgiaaGreat
open Go.RowKit
open Go.Proofs
set_option linter.unusedVariables false
attribute [local go_sem] Oper.semAt_some
theorem rhas_any (l : List Nat) (a : Option Addr) (n cap q : Nat) (V : World) (h : Leads V a n cap (ncells l)) (hn : l.length = n) :
  Calls Tryz.prog 29 #[.slice a n cap, .int .i64 q] V (fun e W => e = .returned (.bool (decide (q ∈ l))) ∧ W = V) := by
 have hl := h.len
 have H := hid h
 have HN := hid hn
 clear h hn
 go_enter Tryz.func29, Tryz.ntmps29
 go_wp2
 go_loopg [9] n (fun g i wr => ∃ k : Nat, g + k = n ∧ i = .int .i64 (k : Nat) ∧ Hid (∀ x ∈ l.take k, x ≠ q) ∧ wr = V)
 case atStart => exact ⟨0, rfl, rfl, hid (by simp), rfl⟩
 case round =>
  obtain ⟨k, hk, rfl, hs, hwr⟩ := hrel
  subst hwr
  have HK := hid hk
  clear hk
  by_cases hlt : k < n
  ·obtain ⟨x, hxk⟩ : ∃ x, l[k]? = some x := ⟨_, List.getElem?_eq_getElem (by rw [HN.out]; exact hlt)⟩
   obtain ⟨b, off, rfl, -, hc⟩ := H.out.at hlt (ncell_at hxk)
   have f1 := hc _ (Below.refl _ _)
   have HX := hid hxk
   clear hc hxk
   by_cases he : x = q
   ·subst he
    have HE : Hid (decide (x ∈ l) = true) := hid (decide_eq_true (List.mem_of_getElem? HX.out))
    go_wp2
    go_ret
    exact ⟨retb HE.out.symm, rfl⟩
   ·have t0 : (((x : Nat) : Int) == ((q : Nat) : Int)) = false := by simp; omega
    have HTK : Hid (∀ y ∈ l.take (k + 1), y ≠ q) := hid (by
     rw [take_snoc HX.out]
     intro y hy
     rcases List.mem_append.1 hy with hy | hy
     ·exact hs.out y hy
     ·rw [List.mem_singleton] at hy; subst hy; exact he)
    clear he
    go_wp2
    go_roundg (gk - 1)
    case measure => have := HK.out; omega
    case rel => exact ⟨k + 1, by have := HK.out; omega, by go_num, HTK, rfl⟩
  ·have e := HK.out
   obtain rfl : k = n := by omega
   have HE : Hid (decide (q ∈ l) = false) := hid (decide_eq_false fun hm => by
    have := hs.out
    rw [List.take_of_length_le (by rw [HN.out]; exact Nat.le_refl _)] at this
    exact this q hm rfl)
   clear hs e HK
   go_wp2
   go_ret
   exact ⟨retb HE.out.symm, rfl⟩
theorem WBegin_result {W : World} {b : Nat} {vs : Array Value} {u3 : Value} {tmps : Array Value} (h : W.heap[b]? = some (.cells vs 49 (0, 0))) (hs : vs.size = 21) (q4 : tmps[2]?.getD undef = .pointer (some ⟨b, 0, none⟩)) (q5 : tmps[3]?.getD undef = u3) :
  (results Tryz.f17 tmps).run Tryz.prog W = .ok (.tuple #[.agg vs, u3]) W := by
 have hl := run_loadVar_row (P := Tryz.prog) W b 49 49 vs (0, 0) _ h Tryz.underlying49 rfl (by rw [hs]; kernel_rfl)
 have ha : (asAddr (.pointer (some ⟨b, 0, none⟩))).run Tryz.prog W = .ok ⟨b, 0, none⟩ W := rfl
 simp [results, Tryz.results17, q4, q5, ha, hl]
set_option maxRecDepth 100000 in
set_option maxHeartbeats 8000000 in
theorem WBegin_any (w : Wal) (wa la ja ka : Option Addr) (wc lc jc kc nj nk : Nat) (V : World) (h : WalL V wa wc la lc ja nj jc ka nk kc w) :
  Calls Tryz.prog 17 #[walV wa wc la lc ja nj jc ka nk kc w] V (fun e W => ∃ v, e = .returned (.tuple #[v, .int .i64 (((playP w []).2 : Nat) : Int)]) ∧ GivesW (playP w []).1 V v W) := by
 unfold walV
 obtain ⟨V1, hV1, hb1, hs1, hl1⟩ := laid V (wal8 wa w.M.W.length wc la w.M.L.length lc w.M.F w.head ja nj jc ka nk kc) 30
 obtain ⟨X, hX⟩ := nm (V.heap.size)
 rw [hX] at hl1
 obtain ⟨V2, hV2, hb2, hs2, hl2⟩ := laid V1 (w21 none 0 0 none 0 0 false 0 false zeroEd zeroSk none 0 0) 49
 obtain ⟨Y, hY⟩ := nm (V1.heap.size)
 rw [hY] at hl2
 have hXY : X < Y := by omega
 have hVY : V.heap.size ≤ Y := by omega
 have HX := hid (klD hl1 hb2)
 have HY := hid hl2
 have HB := hid (step hb1 hb2)
 have hV2' : V1.alloc (.cells #[.slice none 0 0, .slice none 0 0, .bool false, .int .i64 0, .bool false, .int .i64 0, .bool false, .int .u64 0, .int .u64 0, .int .u64 0, .int .u64 0, .int .u64 0, .int .u64 0, .int .i64 0, .int .u64 0, .int .u64 0, .int .u64 0, .int .u64 0, .int .u64 0, .bool false, .slice none 0 0] 49) = V2 := hV2
 have HP := hid (Play_any w [] none wa la ja ka 0 0 wc lc jc kc nj nk V2 (h.grow HB.out) ⟨Nat.le_refl _, Nat.zero_le _, .inl ⟨rfl, rfl⟩⟩ rfl (fun n hn => by cases hn) (by decide))
 unfold walV at HP
 obtain ⟨⟨g, E⟩, hg⟩ : ∃ x, playP w [] = x := ⟨_, rfl⟩
 rw [hg] at HP ⊢
 clear hV2 h hb1 hs1 hl1 hb2 hs2 hl2 hg
 go_enter Tryz.func17, Tryz.ntmps17
 go_wp2_with (refine wlW rfl 30 (.tmp 1) rfl X _ rfl _ HX.out _ Tryz.underlying30 rfl (by kernel_rfl) ?_; intro v hv; subst hv)
 refine HP.out.mono ?_
 rintro e w3 ⟨v3, rfl, hg⟩
 obtain ⟨wa', wc', la', lc', ra', rc', rfl, hmo, hrd, hb3⟩ := hg
 have HY3 := hid (klD HY.out hb3)
 have HB3 := hid (HB.out.trans (hb3.mono HB.out.size))
 have HM3 := hid hmo
 have HR3 := hid hrd
 have hV2s := HB.out.size
 clear hmo hrd hb3 HY HP
 go_wp2_with (refine wsP rfl 49 (.tmp 2) (.tmp 6) rfl Y 0 _ (w21 wa' g.M.W.length wc' la' g.M.L.length lc' g.M.F g.done g.edits g.ed g.wr ra' g.R.length rc') _ rfl rfl _ HY3.out (by kernel_rfl) (Nat.le_of_ble_eq_true rfl) (by kernel_rfl) rfl ?_; intro u9 a1 a2 a3 a4; have KY9 := hid a1; have RM9 := hid (MemO.far2 HM3.out HY3.out (by decide) (by decide) a2); have RR9 := hid (okp HR3.out fun k o hk ho => a2 k o (own_neT HR3.out HY3.out (by decide) k hk) ho); have RB9 := hid (a3 V.heap.size V hVY HB3.out); clear a1 a2 a3 a4 HM3 HR3 HY3; (try simp only [Act.put]))
 refine bodyPost_ret (WBegin_result KY9.out rfl rfl rfl) rfl ?_
 exact ⟨_, rfl, ⟨_, _, _, _, _, _, rfl, RM9.out.base hV2s, own_base RR9.out hV2s, RB9.out⟩⟩
set_option maxRecDepth 100000 in
set_option maxHeartbeats 4000000 in
theorem rwords_any (n : Nd) (V : World) (hn : n.Ok) :
  Calls Tryz.prog 28 #[ndV n] V (fun e W => ∃ a c, e = .returned (.slice a 4 c) ∧ Leads W a 4 c (ncells [posL n.1 0, posL n.1 1, posL n.1 2, posL n.1 3]) ∧ Below V.heap.size V W ∧ ∃ b off, a = some ⟨b, off, none⟩ ∧ V.heap.size ≤ b) := by
 obtain ⟨n0, n1, n2, n3⟩ := n
 have h0 : n0 < 18446744073709551616 := hn.1
 unfold ndV
 obtain ⟨V1, hV1, hb1, hs1, hl1⟩ := laid V #[.int .u64 n0, .int .u64 n1, .int .u64 n2, .int .u64 n3] 42
 obtain ⟨X, hX⟩ := nm (V.heap.size)
 rw [hX] at hl1
 obtain ⟨V2, hV2, hb2, hs2, hl2⟩ := laid V1 #[.int .u64 n0, .int .u64 n1, .int .u64 n2, .int .u64 n3] 42
 obtain ⟨Y, hY⟩ := nm (V1.heap.size)
 rw [hY] at hl2
 have HX1 := hid hl1
 have HB := hid (step hb1 hb2)
 have HVS := hid HB.out.size
 have HW := hid (Words_any 0 [(n0, n1, n2, n3)] (some ⟨Y, 0, none⟩) 1 1 V2 (by decide) (Leads.of_own1 (own_lit (base := 0) (size := 4) hl2 (Nat.zero_le _) (by decide) rfl rfl)) rfl (by decide) (fun x hx => by rw [List.mem_singleton] at hx; rw [hx]; exact h0))
 have HL : Hid ((wordsL 0 [(n0, n1, n2, n3)]).length = 5 ∧ (ncells (wordsL 0 [(n0, n1, n2, n3)])).drop 1 = ncells [posL n0 0, posL n0 1, posL n0 2, posL n0 3]) := hid ⟨rfl, rfl⟩
 rw [HL.out.1] at HW
 clear hb1 hs1 hl1 hb2 hs2 hl2 hn
 go_enter Tryz.func28, Tryz.ntmps28
 go_wp2_with (refine wlW rfl 42 (.tmp 1) rfl X _ rfl _ HX1.out _ Tryz.underlying42 rfl (by kernel_rfl) ?_; intro v hv; subst hv)
 refine HW.out.mono ?_
 rintro e w3 ⟨v, rfl, hrow, hb3⟩
 obtain ⟨a, c, rfl, hl⟩ := Leads.of_own hrow
 have hbs : ∀ b off, a = some ⟨b, off, none⟩ → V2.heap.size ≤ b := by
  rintro b off rfl
  rcases hrow.2 with ⟨q, -⟩ | ⟨g, cap, cur, hv, hg, -⟩
  ·cases q
  ·cases hv; exact hg
 have HLL := hid hl
 have HB3 := hid (HB.out.trans (hb3.mono HB.out.size))
 have hlen := hl.len
 have hc5 := hl.1
 clear hrow hl hb3 HW HX1 HB
 obtain ⟨b, off, rfl, -, -⟩ : ∃ b o, a = some ⟨b, o, none⟩ ∧ True ∧ True := by
  obtain ⟨_, _, ⟨q, _⟩ | ⟨b, off, e, h3, h4⟩⟩ := HLL.out
  ·omega
  ·exact ⟨b, off, e, trivial, trivial⟩
 have HVV : Hid (V.heap.size ≤ b) := hid (Nat.le_trans HVS.out (hbs b off rfl))
 clear hbs HVS
 go_wp2
 go_ret
 exact ⟨_, _, rfl, by have := HLL.out.vdrop (k := 1) (by rw [ncells_len]; exact HL.out.1) (by decide); rwa [HL.out.2] at this, HB3.out, b, off + 1, rfl, HVV.out⟩
end Go.Proofs.YtipohagcppfgiaaGreat
namespace Go.Proofs.YtipohagcppfgiaaGreat
open Go.RowKit
open Go.Proofs
set_option linter.unusedVariables false
attribute [local go_sem] Oper.semAt_some
theorem takeP_bad {M : Mem} {p j : Nat} {met : List Nat} (hj : j < 4) (h : freeB M met (posL p j) = false) : takeP M p ([0, 1, 2, 3].drop j) met = none := by
 match j, hj with
 | 0, _ => show (if freeB M met (posL p 0) = true then _ else none) = none; rw [h]; rfl
 | 1, _ => show (if freeB M met (posL p 1) = true then _ else none) = none; rw [h]; rfl
 | 2, _ => show (if freeB M met (posL p 2) = true then _ else none) = none; rw [h]; rfl
 | 3, _ => show (if freeB M met (posL p 3) = true then _ else none) = none; rw [h]; rfl
theorem takeP_good {M : Mem} {p j : Nat} {met : List Nat} (hj : j < 4) (h : freeB M met (posL p j) = true) : takeP M p ([0, 1, 2, 3].drop j) met = takeP M p ([0, 1, 2, 3].drop (j + 1)) (met ++ [posL p j]) := by
 match j, hj with
 | 0, _ => show (if freeB M met (posL p 0) = true then _ else none) = _; rw [h]; rfl
 | 1, _ => show (if freeB M met (posL p 1) = true then _ else none) = _; rw [h]; rfl
 | 2, _ => show (if freeB M met (posL p 2) = true then _ else none) = _; rw [h]; rfl
 | 3, _ => show (if freeB M met (posL p 3) = true then _ else none) = _; rw [h]; rfl
theorem takeW_P {M : Mem} (hok : okM M = true) (p : Nat) (met : List Nat) : takeW M p 4 met = takeP M p [0, 1, 2, 3] met := by
 obtain ⟨h1, h2, h3, h4⟩ := okM_spec hok
 unfold takeW
 by_cases hp : 4096 ≤ p
 ·rw [if_pos hp]
  have e : posL p 0 = 4096 := by unfold posL; omega
  have hf : freeB M met (posL p 0) = false := by
   rw [e]; unfold freeB liveN
   rw [List.getElem?_eq_none (by omega)]
   rfl
  exact (takeP_bad (j := 0) (by decide) hf).symm
 ·rw [if_neg hp]
  have e : ∀ k, posL p k = p + k := fun k => by unfold posL; omega
  unfold takeP takeP takeP takeP takeP takeN takeN takeN takeN takeN
  simp only [e, Nat.add_zero, Nat.add_assoc, Nat.reduceAdd]
theorem moved_ne {w : World} {v v' : Value} {b : Nat} (hm : Moved w v v') (h : v.ownBlock ≠ some b) (hb : b < w.heap.size) : v'.ownBlock ≠ some b := by
 rcases hm with e | h'
 ·rw [e]; exact h
 ·intro e; have := h' b e; omega
theorem Leads.grownB {w w' : World} {b off n cap : Nat} {cs : List Value} {r : Option Nat} (h : Leads w (some ⟨b, off, none⟩) n cap cs) (hg : w.grownBy w' r) (hne : r ≠ some b) : Leads w' (some ⟨b, off, none⟩) n cap cs := by
 obtain ⟨h1, h2, h | ⟨b', off', e, h4, h5⟩⟩ := h
 ·exact ⟨h1, h2, .inl h⟩
 ·cases e
  refine ⟨h1, h2, .inr ⟨b, off, rfl, Nat.lt_of_lt_of_le h4 hg.size, fun i v hv => ?_⟩⟩
  have hh := h5 i v hv
  have hb := hg.block b h4 (fun he => hne he.symm)
  unfold World.cell? at hh ⊢
  dsimp only at hh ⊢
  rw [hb]; exact hh
structure Wy (V : World) (X : Nat) (cs : Array Value) (met : List Nat) (n : Nat) (v5 : Value) (W : World) : Prop where
 bx : W.heap[X]? = some (.cells cs 30 (0, 0))
 r5 : W.ownsRow V.heap.size 3 1 v5 n (ncells met)
 below : Below V.heap.size V W
 len : met.length = n
theorem Wy.grow {V W W' : World} {X n : Nat} {cs : Array Value} {met : List Nat} {v5 : Value} (h : Wy V X cs met n v5 W) (hb : Below W.heap.size W W') : Wy V X cs met n v5 W' := ⟨klD h.bx hb, ogr h.r5 hb, h.below.trans (hb.mono h.below.size), h.len⟩
theorem Wy.app {V W W' : World} {X q n : Nat} {cs : Array Value} {met : List Nat} {v5 v5' : Value} (h : Wy V X cs met n v5 W) (ho : W'.ownsRow V.heap.size 3 1 v5' (n + 1) (ncells met ++ [.int .i64 q])) (hg : W.grownBy W' v5.ownBlock) : Wy V X cs (met ++ [q]) (n + 1) v5' W' := by
 refine ⟨kgr h.bx hg (own_ne h.r5 h.bx (by decide)), ?_, h.below.trans (own_below h.r5 hg h.below.size), by rw [List.length_append, h.len]; rfl⟩
 rw [ncells_app]
 exact ho
def whyT : Option (List Nat) → Nat
 | none => 2
 | some _ => 0
def whyL (w : Wal) : Option (List Nd) → Nat
 | none => 250
 | some xs => if 16 < w.J.length ∨ 8 < w.K.length then 2 else whyT (takesJ w.M w.J (wordsL w.head xs))
theorem whyP_main {w : Wal} (h1 : okM w.M = true) (h2 : w.M.F = false) : whyP w = whyL w (nodesR w.M w.head) := by
 unfold whyP
 rw [if_neg (by rw [h1, h2]; simp)]
 cases nodesR w.M w.head with
 | none => rfl
 | some xs =>
  unfold whyL
  dsimp only
  split
  ·rfl
  ·cases takesJ w.M w.J (wordsL w.head xs) <;> rfl
set_option maxRecDepth 100000 in
set_option maxHeartbeats 16000000 in
theorem Why_any (w : Wal) (wa la ja ka : Option Addr) (wc lc jc kc nj nk : Nat) (V : World) (h : WalL V wa wc la lc ja nj jc ka nk kc w) :
  Calls Tryz.prog 7 #[walV wa wc la lc ja nj jc ka nk kc w] V (Ret (.int .i64 ((whyP w : Nat) : Int)) V) := by
 obtain ⟨hd, hhd⟩ := nm (w.head)
 obtain ⟨wl, hwl'⟩ := nm (w.M.W.length)
 obtain ⟨ll, hll'⟩ := nm (w.M.L.length)
 obtain ⟨F, hf⟩ := nm (w.M.F)
 obtain ⟨V1, hV1, hb1, hs1, hl1⟩ := laid V (wal8 wa wl wc la ll lc F hd ja nj jc ka nk kc) 30
 obtain ⟨X, hX⟩ := nm (V.heap.size)
 rw [hX] at hl1
 have HX := hid hl1
 have HB := hid hb1
 have HWL := hid h
 have HVX : Hid (V.heap.size ≤ X) := hid (by omega)
 have HRT := hid (RefRight_any w.M wa la wc lc V1 (h.mem.grow hb1))
 have HRN := hid (fun (hok : okM w.M = true) (W : World) (hb : Below V.heap.size V W) => rNodes_any w.M wa la wc lc w.head W (h.mem.grow hb) hok h.hh h.wok)
 obtain ⟨ok, hok⟩ := nm (okM w.M)
 have HOK := hid hok
 have HF := hid hf
 have HH := hid hhd
 have HLL := hid hll'
 have HWW := hid hwl'
 have hjl := h.j.len
 have hkl := h.k.len
 have hwwl := h.mem.w.len
 have hlll := h.mem.l.len
 have HNJ := hid h.nj
 have HNK := hid h.nk
 unfold memV at HRT HRN
 unfold walV
 rw [hwl', hll', hf] at HRT HRN
 rw [hok] at HRT
 rw [hhd] at HRN
 rw [hwl'] at hwwl
 rw [hll'] at hlll
 rw [hhd, hwl', hll', hf]
 obtain ⟨E, hE⟩ := nm (whyP w)
 rw [hE]
 have HE := hid hE
 clear h hb1 hs1 hl1 hhd hwl' hll' hf hok hE
 go_enter Tryz.func7, Tryz.ntmps7
 go_wp2_with (refine wp_loadP rfl 25 (.tmp 10) rfl X 0 _ [.slice wa wl wc, .slice la ll lc, .bool F] rfl _ HX.out rfl _ Tryz.underlying25 rfl (by kernel_rfl) ?_; intro v hv; subst hv)
 refine HRT.out.mono ?_
 rintro e w3 ⟨rfl, hb3⟩
 have HX3 := hid (klD HX.out hb3)
 have HB3 := hid (step HB.out hb3)
 have x2 : w3.cell? ⟨X, 2, none⟩ = some (.bool F) := clD (i := 2) HX3.out rfl
 clear hb3 HX HB HRT hV1 hX
 cases ok with
 | false =>
  have HR : Hid (E = 120) := hid (by rw [← HE.out]; unfold whyP; rw [if_pos (.inl HOK.out)])
  go_wp2
  go_ret
  rw [HR.out]
  exact ⟨rfl, HB3.out⟩
 | true =>
 cases F with
 | true =>
  have HR : Hid (E = 120) := hid (by rw [← HE.out]; unfold whyP; rw [if_pos (.inr HF.out)])
  go_wp2
  go_ret
  rw [HR.out]
  exact ⟨rfl, HB3.out⟩
 | false =>
 have HRN3 := hid (HRN.out HOK.out w3 HB3.out)
 have x3 : w3.cell? ⟨X, 3, none⟩ = some (.int .u64 hd) := clD (i := 3) HX3.out rfl
 have HE2 : Hid (E = whyL w (nodesR w.M hd)) := hid (by rw [← HE.out, ← HH.out]; exact whyP_main HOK.out HF.out)
 clear HRN HE
 go_wp2_with (refine wp_loadP rfl 25 (.tmp 20) rfl X 0 _ [.slice wa wl wc, .slice la ll lc, .bool false] rfl _ HX3.out rfl _ Tryz.underlying25 rfl (by kernel_rfl) ?_; intro v hv; subst hv)
 refine HRN3.out.mono ?_
 rintro e w4 ⟨v4, b4, rfl, hb4, hn4, hs4⟩
 have HX4 := hid (klD HX3.out hb4)
 have HB4 := hid (step HB3.out hb4)
 clear hb4 x2 x3 HRN3
 obtain ⟨RN, hRN⟩ := nm (nodesR w.M hd)
 rw [hRN] at hn4 hs4
 have HE3 := hid HE2.out
 rw [hRN] at HE3
 have HRNE := hid hRN
 clear hRN HE2
 cases RN with
 | none =>
  obtain ⟨rfl, rfl⟩ := hn4 rfl
  have HR : Hid (E = 250) := hid HE3.out
  clear hn4 hs4
  go_wp2
  go_ret
  rw [HR.out]
  exact ⟨rfl, HB4.out⟩
 | some xs =>
 obtain ⟨rfl, hrow⟩ := hs4 xs rfl
 obtain ⟨xa, xc, rfl, hxl⟩ := Leads.of_own hrow
 have HXL := hid hxl
 have HE4 : Hid (E = if 16 < w.J.length ∨ 8 < w.K.length then 2 else whyT (takesJ w.M w.J (wordsL hd xs))) := hid (by rw [← HH.out]; exact HE3.out)
 obtain ⟨xn, hxn⟩ := nm (xs.length)
 have HXN := hid hxn
 rw [hxn] at HXL hxl ⊢
 have hxlen := hxl.len
 have HXI : Hid (xn ≤ 1023 ∧ ∀ x ∈ xs, x.1 < 18446744073709551616) := hid (by
  have hp := nodesP_some HOK.out HRNE.out
  have h1 := nodesP_nodes (M := w.M) (head := hd) HWL.out.wok
  rw [hp] at h1
  refine ⟨?_, fun x hx => (h1 rfl x hx).2.1⟩
  have hc := chain_of HRNE.out
  have := nodesW_len HOK.out (nodesR_some HRNE.out).1
  omega)
 have x4 : w4.cell? ⟨X, 4, none⟩ = some (.slice ja nj jc) := clD (i := 4) HX4.out rfl
 have x5 : w4.cell? ⟨X, 5, none⟩ = some (.slice ka nk kc) := clD (i := 5) HX4.out rfl
 clear hn4 hs4 hrow hxl hxn HE3
 by_cases hj16 : 16 < nj
 ·have t1 : decide (((nj : Nat) : Int) > 16) = true := decide_eq_true (by omega)
  have t2 : decide ((16 : Int) < ((nj : Nat) : Int)) = true := decide_eq_true (by omega)
  have HR : Hid (E = 2) := hid (by rw [HE4.out, if_pos (.inl (by rw [HNJ.out]; exact hj16))])
  clear hj16
  go_wp2
  go_ret
  rw [HR.out]
  exact ⟨rfl, HB4.out⟩
 have t1 : decide (((nj : Nat) : Int) > 16) = false := decide_eq_false (by omega)
 have t2 : decide ((16 : Int) < ((nj : Nat) : Int)) = false := decide_eq_false (by omega)
 by_cases hk8 : 8 < nk
 ·have t3 : decide (((nk : Nat) : Int) > 8) = true := decide_eq_true (by omega)
  have t4 : decide ((8 : Int) < ((nk : Nat) : Int)) = true := decide_eq_true (by omega)
  have HR : Hid (E = 2) := hid (by rw [HE4.out, if_pos (.inr (by rw [HNK.out]; exact hk8))])
  clear hj16 hk8
  go_wp2
  go_ret
  rw [HR.out]
  exact ⟨rfl, HB4.out⟩
 have t3 : decide (((nk : Nat) : Int) > 8) = false := decide_eq_false (by omega)
 have t4 : decide ((8 : Int) < ((nk : Nat) : Int)) = false := decide_eq_false (by omega)
 obtain ⟨RES, hRES⟩ := nm (takesJ w.M w.J (wordsL hd xs))
 have HNO : Hid (RES = none → E = 2) := hid (fun e => by rw [HE4.out, if_neg (by rw [HNJ.out, HNK.out]; omega), hRES, e]; rfl)
 have HYES : Hid (∀ m, RES = some m → E = 0) := hid (fun m e => by rw [HE4.out, if_neg (by rw [HNJ.out, HNK.out]; omega), hRES, e]; rfl)
 have HRES := hid hRES
 have hj16' : nj ≤ 16 := by omega
 have x3 : w4.cell? ⟨X, 3, none⟩ = some (.int .u64 hd) := clD (i := 3) HX4.out rfl
 have HWD := hid (Words_any hd xs xa xn xc w4 (by rw [← HH.out]; exact HWL.out.hh) HXL.out HXN.out (by have := HXI.out.1; omega) HXI.out.2)
 clear hRES HE4 hj16 hk8
 go_wp2_with fail
 refine HWD.out.mono ?_
 rintro e w5 ⟨v5, rfl, hrow, hb5⟩
 obtain ⟨m0, hm0⟩ := nm ((wordsL hd xs).length)
 rw [hm0] at hrow
 have hm5 : m0 ≤ 5000 := by
  rw [← hm0]; unfold wordsL; rw [List.length_cons, flat4_len]; have := HXI.out.1; have := HXN.out; omega
 have HY5 : Hid (Wy V X (wal8 wa wl wc la ll lc false hd ja nj jc ka nk kc) (wordsL hd xs) m0 v5 w5) := hid ⟨klD HX4.out hb5, own_base hrow HB4.out.size, step HB4.out hb5, hm0⟩
 clear hrow hb5 hm0 x3 x4 x5 t1 t2 t3 t4 HWD HX4 HB4 HX3 HB3
 have x4 : w5.cell? ⟨X, 4, none⟩ = some (.slice ja nj jc) := clD (i := 4) HY5.out.bx rfl
 go_wp2
 clear x4
 go_loopg [5, 46] nj (fun g t5 t46 wr => ∃ (k m : Nat) (met : List Nat) (v5 : Value), g + k = nj ∧ t46 = .int .i64 k ∧ v5 = t5 ∧ Hid (Wy V X (wal8 wa wl wc la ll lc false hd ja nj jc ka nk kc) met m v5 wr) ∧ Hid (takesJ w.M (w.J.drop k) met = RES) ∧ Hid (m ≤ 5000 + 4 * k))
 case atStart => exact ⟨0, m0, _, _, rfl, rfl, rfl, HY5, HRES, hid (by omega)⟩
 case round =>
  clear HY5 HRES
  obtain ⟨k, m, met, v5, hk, rfl, rfl, hY, hT, hM⟩ := hrel
  have HK := hid hk
  clear hk
  by_cases hlt : k < nj
  ·have tl : decide (((k : Nat) : Int) < ((nj : Nat) : Int)) = true := decide_eq_true (by omega)
   obtain ⟨⟨cb, n0, n1, n2, n3⟩, hp⟩ : ∃ x, w.J[k]? = some x := ⟨_, List.getElem?_eq_getElem (by rw [HNJ.out]; exact hlt)⟩
   have HP := hid hp
   obtain ⟨jb, jo, rfl, hcc⟩ : ∃ b o, ja = some ⟨b, o, none⟩ ∧ ∀ i v, (jbcells w.J)[i]? = some v → ∀ W, Below V.heap.size V W → W.cell? ⟨b, o + i, none⟩ = some v := by
    obtain ⟨_, _, ⟨q, _⟩ | ⟨b, off, e, h3, h4⟩⟩ := HWL.out.j
    ·omega
    ·exact ⟨b, off, e, fun i v hv W hW => (hW.cell (p := ⟨b, off + i, none⟩) h3).trans (h4 i v hv)⟩
   have hat : ∀ i, i < 5 → (jbcells w.J)[k * 5 + i]? = (jb5 (cb, n0, n1, n2, n3))[i]? := fun i hi => jbcell_at hp i hi
   have HRA : Hid (wr.rangeAt jb (jo + k * 5) [.bool cb, .int .u64 n0, .int .u64 n1, .int .u64 n2, .int .u64 n3]) := hid (fun j v hv => by
    have hj5 : j < 5 := (List.getElem?_eq_some_iff.1 hv).1
    have := hcc (k * 5 + j) v (by rw [hat j hj5]; exact hv) wr hY.out.below
    rw [show jo + k * 5 + j = jo + (k * 5 + j) by omega]
    exact this)
   obtain ⟨w6, hw6, hb6, hs6, hl6⟩ := laid wr #[.bool false, .int .u64 0, .int .u64 0, .int .u64 0, .int .u64 0] 66
   obtain ⟨B, hB⟩ := nm (wr.heap.size)
   rw [hB] at hl6
   have KB6 := hid hl6
   have HB6 := hid hb6
   have HNK0 := hid ((HWL.out.jok _ (List.mem_of_getElem? hp)))
   clear hcc hat hp hb6 hs6 hl6
   go_upto_region 12 with (first | (refine wpList_load_mid rfl 66 (.tmp 48) rfl jb (jo + k * 5) rfl [.bool cb, .int .u64 n0, .int .u64 n1, .int .u64 n2, .int .u64 n3] _ HRA.out Tryz.underlying66 rfl (by kernel_rfl) ?_) | (refine wsP rfl 66 (.tmp 7) (.tmp 49) rfl B 0 _ [.bool cb, .int .u64 n0, .int .u64 n1, .int .u64 n2, .int .u64 n3].toArray _ rfl rfl _ KB6.out (by kernel_rfl) (Nat.le_of_ble_eq_true rfl) (by kernel_rfl) rfl ?_; intro w7 a1 a2 a3 a4; have KB7 := hid a1; have hbx := a3 _ _ (Nat.le_of_eq hB) HB6.out; have HY7 := hid (hY.out.grow hbx); clear a1 a2 a3 a4 hbx KB6 HB6 HRA; (try simp only [Act.put])))
   clear hw6 hB hY
   have b0 : w7.cell? ⟨B, 0, none⟩ = some (.bool cb) := clD (i := 0) KB7.out rfl
   have b1 : w7.cell? ⟨B, 1, none⟩ = some (.int .u64 n0) := clD (i := 1) KB7.out rfl
   cases cb with
   | true =>
    have HT2 : Hid (takesJ w.M (w.J.drop (k + 1)) met = RES) := hid (by rw [← takesJ_cut HP.out]; exact hT.out)
    clear hT
    go_wp2
    clear b0 b1
    go_roundg (gk - 1)
    case measure => have := HK.out; omega
    case rel => exact ⟨k + 1, m, met, _, by have := HK.out; omega, by go_num, rfl, HY7, HT2, hid (by have := hM.out; omega)⟩
   | false =>
    by_cases h0 : n0 = 0
    ·subst h0
     have HR : Hid (RES = none) := hid (by rw [← hT.out, takesJ_put HP.out, if_pos rfl])
     go_wp2
     go_ret
     rw [HNO.out HR.out]
     exact ⟨rfl, HY7.out.below⟩
    ·have HT2 : Hid ((takeP w.M n0 ([0, 1, 2, 3].drop 0) met).bind (takesJ w.M (w.J.drop (k + 1))) = RES) := hid (by
      have := hT.out
      rw [takesJ_put HP.out, if_neg h0, takeW_P HOK.out] at this
      exact this)
     have q0 : (((n0 : Nat) : Int) == 0) = false := by simp; omega
     have HWW2 := hid (fun W => rwords_any (n0, n1, n2, n3) W HNK0.out)
     unfold ndV at HWW2
     dsimp only at HWW2
     clear hT h0
     obtain ⟨G, hG⟩ : ∃ G, G = gk - 1 := ⟨_, rfl⟩
     have HG := hid hG
     clear hG
     go_wp2_with (refine wp_loadP rfl 42 (.tmp 56) rfl B 1 _ [.int .u64 n0, .int .u64 n1, .int .u64 n2, .int .u64 n3] rfl _ KB7.out rfl _ Tryz.underlying42 rfl (by kernel_rfl) ?_; intro v hv; subst hv)
     refine (HWW2.out _).mono ?_
     rintro e w8 ⟨a8, c8, rfl, hl8, hb8, pb, po, rfl, hpb⟩
     have HL8 := hid hl8
     have HY8 := hid (HY7.out.grow hb8)
     have HAP8 : Hid (v5.ownBlock ≠ some pb) := hid (fun e => by have := own_lt HY7.out.r5 pb e; omega)
     have hc8 := hl8.len
     have hc84 := hl8.1
     clear hl8 hb8 HWW2 hpb b0 b1 q0
     go_wp2
     go_loopg [5, 60] 4 (fun g t5 t60 wr => ∃ (i m2 : Nat) (met2 : List Nat) (v5 : Value), g + i = 4 ∧ t60 = .int .i64 i ∧ v5 = t5 ∧ Hid (Wy V X (wal8 wa wl wc la ll lc false hd (some ⟨jb, jo, none⟩) nj jc ka nk kc) met2 m2 v5 wr) ∧ Hid ((takeP w.M n0 ([0, 1, 2, 3].drop i) met2).bind (takesJ w.M (w.J.drop (k + 1))) = RES) ∧ Hid (m2 = m + i) ∧ Hid (v5.ownBlock ≠ some pb) ∧ Hid (Leads wr (some ⟨pb, po, none⟩) 4 c8 (ncells [posL n0 0, posL n0 1, posL n0 2, posL n0 3])))
     case atStart => exact ⟨0, m, _, _, rfl, rfl, rfl, HY8, HT2, hid rfl, HAP8, HL8⟩
     case round =>
      clear HY8 HT2 HAP8 HL8 HY7 KB7
      obtain ⟨i, m2, met2, v5, hi, rfl, rfl, hY, hT, hm2, hap, hL⟩ := hrel
      have HI := hid hi
      clear hi
      by_cases hit : i < 4
      ·obtain ⟨P, hP⟩ := nm (posL n0 i)
       have HPP := hid hP
       have hp46 : P ≤ 5000 := by rw [← hP]; unfold posL; omega
       have ti : decide (((i : Nat) : Int) < 4) = true := decide_eq_true (by omega)
       have c9 : wr.cell? ⟨pb, po + i, none⟩ = some (.int .i64 P) := by
        obtain ⟨_, _, ⟨q, _⟩ | ⟨b, off, e', h3, h4⟩⟩ := hL.out
        ·omega
        ·cases e'
         exact h4 i _ (ncell_at (by rw [← hP]; exact match i, hit with
          | 0, _ => rfl
          | 1, _ => rfl
          | 2, _ => rfl
          | 3, _ => rfl))
       have x0 : wr.cell? ⟨X, 0, none⟩ = some (.slice wa wl wc) := clD (i := 0) hY.out.bx rfl
       have x1 : wr.cell? ⟨X, 1, none⟩ = some (.slice la ll lc) := clD (i := 1) hY.out.bx rfl
       clear hP
       obtain ⟨va, vc, rfl, hvl⟩ := Leads.of_own hY.out.r5
       have HVL := hid hvl
       have hvlen := hvl.len
       clear hvl
       have HLW : Hid (ll = wl) := hid (by have := (okM_spec HOK.out).2.2.1; rw [HLL.out, HWW.out] at this; exact this)
       by_cases hge : wl ≤ P
       ·have tg : decide (((P : Nat) : Int) ≥ ((wl : Nat) : Int)) = true := decide_eq_true (by omega)
        have tg' : decide (((wl : Nat) : Int) ≤ ((P : Nat) : Int)) = true := decide_eq_true (by omega)
        have tg2 : decide (wl ≤ P) = true := decide_eq_true hge
        have HR : Hid (RES = none) := hid (by
         rw [← hT.out, takeP_bad hit (by
          rw [HPP.out]; unfold freeB liveN
          rw [List.getElem?_eq_none (by rw [HLL.out, HLW.out]; exact hge)]; rfl)]
         rfl)
        clear hge
        go_wp2
        go_ret
        rw [HNO.out HR.out]
        exact ⟨rfl, hY.out.below⟩
       ·have tg : decide (((P : Nat) : Int) ≥ ((wl : Nat) : Int)) = false := decide_eq_false (by omega)
        have tg' : decide (((wl : Nat) : Int) ≤ ((P : Nat) : Int)) = false := decide_eq_false (by omega)
        have tg2 : decide (wl ≤ P) = false := decide_eq_false hge
        have hPl : P < ll := by have := HLW.out; omega
        obtain ⟨bl, hbl⟩ : ∃ x, w.M.L[P]? = some x := ⟨_, List.getElem?_eq_getElem (by rw [HLL.out]; exact hPl)⟩
        obtain ⟨lb, lo, rfl, hlc⟩ : ∃ b o, la = some ⟨b, o, none⟩ ∧ wr.cell? ⟨b, o + P, none⟩ = some (.bool bl) := by
         obtain ⟨b, off, e, -, hc⟩ := HWL.out.mem.l.at (by rw [HLL.out]; exact hPl) (bcell_at hbl)
         exact ⟨b, off, e, hc wr hY.out.below⟩
        have HBL : Hid (liveN w.M P = bl) := hid (by unfold liveN; rw [hbl]; rfl)
        clear hbl hge
        cases bl with
        | false =>
         have HR : Hid (RES = none) := hid (by
          rw [← hT.out, takeP_bad hit (by rw [HPP.out]; unfold freeB; rw [HBL.out]; rfl)]
          rfl)
         go_wp2
         go_ret
         rw [HNO.out HR.out]
         exact ⟨rfl, hY.out.below⟩
        | true =>
         have HHA := hid (rhas_any met2 va m2 vc P wr HVL.out hY.out.len)
         obtain ⟨bh, hbh⟩ := nm (decide (P ∈ met2))
         rw [hbh] at HHA
         have HFB : Hid (freeB w.M met2 (posL n0 i) = !bh) := hid (by rw [HPP.out]; unfold freeB; rw [HBL.out, hbh]; rfl)
         clear hbh
         go_wp2_with fail
         refine HHA.out.mono ?_
         rintro e wq ⟨rfl, hwq⟩
         rw [hwq]
         clear hwq wq HHA
         cases bh with
         | true =>
          have HR : Hid (RES = none) := hid (by rw [← hT.out, takeP_bad hit (by rw [HFB.out]; rfl)]; rfl)
          go_wp2
          go_ret
          rw [HNO.out HR.out]
          exact ⟨rfl, hY.out.below⟩
         | false =>
          have HT3 : Hid ((takeP w.M n0 ([0, 1, 2, 3].drop (i + 1)) (met2 ++ [P])).bind (takesJ w.M (w.J.drop (k + 1))) = RES) := hid (by rw [← HPP.out, ← takeP_good hit (by rw [HFB.out]; rfl)]; exact hT.out)
          obtain ⟨w9, hw9, hb9, hs9, hl9⟩ := laid wr #[.int .i64 P] 3
          obtain ⟨Z, hZ⟩ := nm (wr.heap.size)
          rw [hZ] at hl9
          have HLZ := hid hl9
          have HYZ := hid (hY.out.grow hb9)
          have HLL9 := hid (hL.out.grow hb9)
          have hpb9 : pb < w9.heap.size := by
           obtain ⟨_, _, ⟨q, _⟩ | ⟨b, off, e', h3, h4⟩⟩ := HLL9.out
           ·omega
           ·cases e'; exact h3
          have hm6 : m2 + 1 ≤ 1000000 := by have := hm2.out; have := hM.out; omega
          clear hb9 hs9 hl9 hT hY hL HFB HVL
          go_wp2_with ((with_reducible show wpList _ _ _ _ _ _); refine waM elemInts rfl (.tmp 84) (.tmp 86) rfl V.heap.size (.slice va m2 vc) m2 (ncells met2) rfl HYZ.out.r5 ⟨Z, 0, none⟩ 1 1 [.int .i64 P] rfl rfl ?c1 ?c2 ?c3 ?c4 ?c5)
          case c1 => intro j u hj; refine cell_add (o := 0) (by rw [Nat.zero_add]; exact clD HLZ.out (by simpa using hj))
          case c2 => first | (intro u hu; simp at hu; subst hu; rfl) | omega
          try (case c3 => omega)
          try (case c4 => exact HYZ.out.below.size)
          case c5 =>
           intro v' w10 ho hg hmv
           have HY10 := hid (HYZ.out.app (q := P) (v5' := v') ho hg)
           have HL10 := hid (HLL9.out.grownB hg hap.out)
           have HAP10 := hid (moved_ne hmv hap.out hpb9)
           clear ho hg hmv HYZ HLZ HLL9 hap
           clear c9 x0 x1 hlc tg tg' tg2 hw9 hZ
           go_wp2
           go_roundg (gk - 1)
           case measure => have := HI.out; omega
           case rel => exact ⟨i + 1, m2 + 1, _, _, by have := HI.out; omega, by go_num, rfl, HY10, HT3, hid (by have := hm2.out; omega), HAP10, HL10⟩
      ·have e4 : i = 4 := by have := HI.out; omega
       subst e4
       have ti : decide ((((4 : Nat)) : Int) < 4) = false := by decide
       have HT9 : Hid (takesJ w.M (w.J.drop (k + 1)) met2 = RES) := hid hT.out
       clear hT hL hap
       go_wp2
       go_roundg G
       case measure => have := HK.out; have := HG.out; omega
       case rel => exact ⟨k + 1, m2, _, _, by have := HK.out; have := HG.out; omega, by go_num, rfl, hY, HT9, hid (by have := hm2.out; have := hM.out; omega)⟩
  ·have e := HK.out
   obtain rfl : k = nj := by omega
   have tl : decide (((k : Nat) : Int) < ((k : Nat) : Int)) = false := decide_eq_false (by omega)
   have HR : Hid (RES = some met) := hid (by have := hT.out; rw [List.drop_eq_nil_of_le (by rw [HNJ.out]; exact Nat.le_refl _)] at this; exact this.symm)
   clear hT
   go_wp2
   go_ret
   rw [HYES.out _ HR.out]
   exact ⟨rfl, hY.out.below⟩
end Go.Proofs.YtipohagcppfgiaaGreat
