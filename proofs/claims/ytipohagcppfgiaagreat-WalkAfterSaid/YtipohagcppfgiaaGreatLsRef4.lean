/- The document's lists (printed by gen_red.py): a step of who edits. -/
import Derived.Test.YtipohagcppfgiaaGreatLsRef3
namespace Go.Proofs.YtipohagcppfgiaaGreat
open Go.RowKit
open Go.Proofs
set_option linter.unusedVariables false
attribute [local go_sem] Oper.semAt_some
theorem EditStep_result {W : World} {b4 b5 : Nat} {v4 v5 : Array Value} {tmps : Array Value} (h4 : W.heap[b4]? = some (.cells v4 25 (0, 0))) (q4 : tmps[4]?.getD undef = .pointer (some ⟨b4, 0, none⟩)) (h5 : W.heap[b5]? = some (.cells v5 44 (0, 0))) (q5 : tmps[5]?.getD undef = .pointer (some ⟨b5, 0, none⟩)) (s4 : v4.size = 3 := by rfl) (s5 : v5.size = 8 := by rfl) :
  (results Tryz.f59 tmps).run Tryz.prog W = .ok (.tuple #[.agg v4, .agg v5]) W := by
 have l4 := run_loadVar_row (P := Tryz.prog) W b4 25 25 v4 (0, 0) _ h4 Tryz.underlying25 rfl (by rw [s4]; kernel_rfl)
 have l5 := run_loadVar_row (P := Tryz.prog) W b5 44 44 v5 (0, 0) _ h5 Tryz.underlying44 rfl (by rw [s5]; kernel_rfl)
 have ha : ∀ b : Nat, (asAddr (.pointer (some ⟨b, 0, none⟩))).run Tryz.prog W = .ok ⟨b, 0, none⟩ W := fun b => rfl
 simp [results, Tryz.results59, q4, q5, ha, l4, l5]
structure RY1 (T : TypeId) (Y : Nat) (csy : Array Value) where
 w : World
 by_ : w.heap[Y]? = some (.cells csy T (0, 0))
theorem ry1_y {T : TypeId} {Y : Nat} {csy : Array Value} (_ : Nonempty (RY1 T Y csy)) (i : Nat) (v : Value) (h : csy[i]? = some v) : ∀ z : RY1 T Y csy, z.w.cell? ⟨Y, i, none⟩ = some v := fun z => clD z.by_ h
def GivesRE (wa0 la0 : Option Addr) (R : Mem × Ede) (w : World) (e : Ending) (W : World) : Prop := ∃ wa wc la lc, e = .returned (.tuple #[memV wa wc la lc R.1, edV R.2]) ∧ MemL W wa wc la lc R.1 ∧ Below w.heap.size w W ∧ keptA w wa0 wa ∧ keptA w la0 la
set_option maxRecDepth 100000 in
set_option maxHeartbeats 16000000 in
theorem rEditStep_any (M : Mem) (s : Ede) (wa la : Option Addr) (wc lc : Nat) (V : World) (h : MemL V wa wc la lc M) (hok : okM M = true) (hs : s.Ok) (h0 : 0 ≤ s.ph) :
  Calls Tryz.prog 59 #[memV wa wc la lc M, edV s] V (GivesRE wa la ((editE M s).1, (editE M s).2.1) V) := by
 obtain ⟨ph, cuts, link, at_, key, val, hash, next⟩ := s
 dsimp only at h0
 obtain ⟨k, rfl⟩ : ∃ k : Nat, ph = ((k : Nat) : Int) := ⟨ph.toNat, by omega⟩
 obtain ⟨V1, hV1, hbV1, hsV1, hlV1⟩ := laid V #[.slice wa M.W.length wc, .slice la M.L.length lc, .bool M.F] 25
 obtain ⟨V2, hV2, hbV2, hsV2, hlV2⟩ := laid V1 #[.int .i64 k, .bool cuts, .int .u64 link, .int .u64 at_, .int .u64 key, .int .u64 val, .int .u64 hash, .int .u64 next] 44
 obtain ⟨V3, hV3, hbV3, hsV3, hlV3⟩ := laid V2 #[.slice none 0 0, .slice none 0 0, .bool false] 25
 obtain ⟨V4, hV4, hbV4, hsV4, hlV4⟩ := laid V3 #[.int .i64 0, .bool false, .int .u64 0, .int .u64 0, .int .u64 0, .int .u64 0, .int .u64 0, .int .u64 0] 44
 obtain ⟨V5, hV5, hbV5, hsV5, hlV5⟩ := laid V4 #[.int .i64 0, .int .i64 0, .int .u64 0, .int .u64 0] 112
 obtain ⟨X, hX⟩ := nm (V.heap.size)
 rw [hX] at hlV1
 obtain ⟨Y, hY⟩ := nm (V1.heap.size)
 rw [hY] at hlV2
 obtain ⟨Z, hZ⟩ := nm (V2.heap.size)
 rw [hZ] at hlV3
 obtain ⟨G, hG⟩ := nm (V3.heap.size)
 rw [hG] at hlV4
 obtain ⟨A, hA⟩ := nm (V4.heap.size)
 rw [hA] at hlV5
 obtain ⟨aw, al⟩ := h.low hok (X := X) (G := G) (by omega)
 have HB := step (step (step hbV1 hbV2) hbV3) hbV4
 have HS : Hid (Sq 44 #[.int .i64 0, .bool false, .int .u64 0, .int .u64 0, .int .u64 0, .int .u64 0, .int .u64 0, .int .u64 0] V X Y Z G wa wc la lc M #[.int .i64 k, .bool cuts, .int .u64 link, .int .u64 at_, .int .u64 key, .int .u64 val, .int .u64 hash, .int .u64 next] V5) := hid ((show Sq 44 #[.int .i64 0, .bool false, .int .u64 0, .int .u64 0, .int .u64 0, .int .u64 0, .int .u64 0, .int .u64 0] V X Y Z G wa wc la lc M #[.int .i64 k, .bool cuts, .int .u64 link, .int .u64 at_, .int .u64 key, .int .u64 val, .int .u64 hash, .int .u64 next] V4 from ⟨klD hlV1 (step (step hbV2 hbV3) hbV4), klD hlV2 (step hbV3 hbV4), klD hlV3 hbV4, hlV4, h.grow HB, aw, al, HB, by omega, by omega, by omega, by omega⟩).grow hbV5)
 have KA0 := hid hlV5
 have hGA : G < A := by omega
 have apA : apartA wa A ∧ apartA la A := by
  obtain ⟨a, b⟩ := h.lowA hok
  exact ⟨a.apart (by omega), b.apart (by omega)⟩
 have hVA : V.heap.size ≤ A := by omega
 have hVY : V.heap.size ≤ Y := by omega
 have hwl := h.w.len
 have hll := h.l.len
 have HSO := hid hs
 have HOK := hid hok
 have hk63 : k ≤ 9223372036854775807 := by have := hs.ph.2; dsimp only at this; omega
 unfold memV edV
 dsimp only
 clear h hok hs aw al HB hbV1 hsV1 hlV1 hbV2 hsV2 hlV2 hbV3 hsV3 hlV3 hbV4 hsV4 hlV4 hbV5 hsV5 hlV5
 go_enter Tryz.func59, Tryz.ntmps59
 go_upto_region 2 with (refine wsP rfl 112 (.tmp 6) (.tmp 9) rfl A 0 _ #[.int .i64 2, .int .i64 0, .int .u64 0, .int .u64 0] _ rfl rfl _ KA0.out (by kernel_rfl) (Nat.le_of_ble_eq_true rfl) (by kernel_rfl) rfl ?_; intro wA a1 a2 a3 a4; have KA := hid a1; have HY := hid (HS.out.keep hGA apA.1 apA.2 a2 (a3 _ _ hVA HS.out.below)); clear a1 a2 a3 a4 KA0 HS; (try simp only [Act.put]))
 clear hV1 hV2 hV3 hV4 hV5 hX hY hZ hG hA
 have y0 := clD (i := 0) HY.out.by_ rfl
 by_cases hk6 : 6 ≤ k
 ·have t0 : (((k : Nat) : Int) == 0) = false := by simp; omega
  have t1 : (((k : Nat) : Int) == 1) = false := by simp; omega
  have t2 : (((k : Nat) : Int) == 2) = false := by simp; omega
  have t3 : (((k : Nat) : Int) == 3) = false := by simp; omega
  have t4 : (((k : Nat) : Int) == 4) = false := by simp; omega
  have t5 : (((k : Nat) : Int) == 5) = false := by simp; omega
  have HR : Hid (editE M ⟨((k : Nat) : Int), cuts, link, at_, key, val, hash, next⟩ = (M, ⟨((k : Nat) : Int), cuts, link, at_, key, val, hash, next⟩, false)) := hid (by unfold editE; rw [if_pos (by dsimp only; omega)])
  go_upto_region 4 with (fail)
  clear y0 t0 t1 t2 t3 t4 t5
  obtain ⟨D, hD⟩ := nm (World.drew wA)
  have hbD : Below (wA).heap.size wA D := by rw [← hD]; exact (Below.refl _ _).drew
  have HSD := hid (HY.out.grow hbD)
  have HD := hid hD
  clear hD hbD HY
  haveI : Nonempty (RYX 44 X Y #[.slice wa M.W.length wc, .slice la M.L.length lc, .bool M.F] #[.int .i64 k, .bool cuts, .int .u64 link, .int .u64 at_, .int .u64 key, .int .u64 val, .int .u64 hash, .int .u64 next]) := ⟨⟨D, HSD.out.bx, HSD.out.by_⟩⟩
  refine rgm2 (fun W => ∃ z : RYX 44 X Y #[.slice wa M.W.length wc, .slice la M.L.length lc, .bool M.F] #[.int .i64 k, .bool cuts, .int .u64 link, .int .u64 at_, .int .u64 key, .int .u64 val, .int .u64 hash, .int .u64 next], W = z.w) 4 (.q 0 (.q 1 (.h 2 (.h 3 (.done))))) (by kernel_rfl) (by kernel_rfl) (by rw [HD.out]; exact ⟨⟨D, HSD.out.bx, HSD.out.by_⟩, rfl⟩) ?_
  rw [HD.out]
  refine m2q rfl rfl ?_
  refine wpQuiet_loadW rfl 25 (.tmp 2) rfl X _ rfl _ (by rintro _ ⟨z, rfl⟩; exact z.bx) _ Tryz.underlying25 rfl (by kernel_rfl) ?_
  intro v hv
  subst hv
  refine wpQuiet_nil ?_
  refine m2q rfl rfl ?_
  refine wpQuiet_loadW rfl 44 (.tmp 3) rfl Y _ rfl _ (by rintro _ ⟨z, rfl⟩; exact z.by_) _ Tryz.underlying44 rfl (by kernel_rfl) ?_
  intro v hv
  subst hv
  refine wpQuiet_nil ?_
  simp only [Act.put, List.setIfInBounds_toArray, List.set_cons_succ, List.set_cons_zero]
  refine m2h rfl fun R' hR' hO => ?_
  go_wp2_with (refine wsP rfl 25 (.tmp 4) (.tmp 15) rfl Z 0 _ #[.slice wa M.W.length wc, .slice la M.L.length lc, .bool M.F] _ rfl rfl _ HSD.out.bz (by kernel_rfl) (Nat.le_of_ble_eq_true rfl) (by kernel_rfl) rfl ?_; intro v1 a1 a2 a3 a4; have HSZ := hid (HSD.out.putZ a1 a2 a3); clear a1 a2 a3 a4; (try simp only [Act.put]))
  refine hR' _ _ ⟨⟨v1, HSZ.out.bx, HSZ.out.by_⟩, rfl⟩ ?_
  clear hR' hO R'
  refine m2h rfl fun R' hR' hO => ?_
  go_wp2_with (refine wsP rfl 44 (.tmp 5) (.tmp 16) rfl G 0 _ #[.int .i64 k, .bool cuts, .int .u64 link, .int .u64 at_, .int .u64 key, .int .u64 val, .int .u64 hash, .int .u64 next] _ rfl rfl _ HSZ.out.bg (by kernel_rfl) (Nat.le_of_ble_eq_true rfl) (by kernel_rfl) rfl ?_; intro v2 a1 a2 a3 a4; have HSF := hid (HSZ.out.putG a1 a2 a3); clear a1 a2 a3 a4; (try simp only [Act.put]))
  refine hR' _ _ ⟨⟨v2, HSF.out.2.2.2.2.1, HSF.out.2.2.2.2.2⟩, rfl⟩ ?_
  clear hR' hO R'
  refine m2d ?_
  simp only [List.drop_succ_cons, List.drop_nil]
  go_wp2
  refine bodyPost_ret (EditStep_result HSF.out.1 rfl HSF.out.2.1 rfl) rfl ?_
  rw [HR.out]
  exact ⟨wa, wc, la, lc, rfl, HSF.out.2.2.1, HSF.out.2.2.2.1, keptA.refl _ _, keptA.refl _ _⟩
 ·have hk5 : k < 6 := by omega
  obtain ⟨⟨M2, x, d⟩, hM2⟩ : ∃ X, stepM M (((k : Nat) : Int) != 4) (((needE ⟨((k : Nat) : Int), cuts, link, at_, key, val, hash, next⟩ k).2.1 : Nat) : Int) (needE ⟨((k : Nat) : Int), cuts, link, at_, key, val, hash, next⟩ k).2.2 = X := ⟨_, rfl⟩
  have HSE : Hid (editE M ⟨((k : Nat) : Int), cuts, link, at_, key, val, hash, next⟩ = (M2, (if d = true then ⟨nextE k, cuts, link, at_, key, val, hash, if ((k : Nat) : Int) = 4 then x else next⟩ else ⟨7, cuts, link, at_, key, val, hash, next⟩), true)) := hid (by
   unfold editE
   rw [if_neg (by dsimp only; omega)]
   dsimp only
   rw [Int.toNat_natCast, hM2])
  have HST := hid (fun W (hm : MemL W wa wc la lc M) => RefStep_any M wa la wc lc (((k : Nat) : Int) != 4) (needE ⟨((k : Nat) : Int), cuts, link, at_, key, val, hash, next⟩ k).1 (((needE ⟨((k : Nat) : Int), cuts, link, at_, key, val, hash, next⟩ k).2.1 : Nat) : Int) 0 (needE ⟨((k : Nat) : Int), cuts, link, at_, key, val, hash, next⟩ k).2.2 W hm HOK.out (by have := needE_le (s := ⟨((k : Nat) : Int), cuts, link, at_, key, val, hash, next⟩) k hk5; omega) (needE_st k hk5))
  rw [hM2] at HST
  unfold memV at HST
  have HPL : Hid (1 ≤ M2.W.length ∧ 1 ≤ M2.L.length) := hid (by have e1 := stepM_len M (((k : Nat) : Int) != 4) (((needE ⟨((k : Nat) : Int), cuts, link, at_, key, val, hash, next⟩ k).2.1 : Nat) : Int) (needE ⟨((k : Nat) : Int), cuts, link, at_, key, val, hash, next⟩ k).2.2; have e2 := stepM_L M (((k : Nat) : Int) != 4) (((needE ⟨((k : Nat) : Int), cuts, link, at_, key, val, hash, next⟩ k).2.1 : Nat) : Int) (needE ⟨((k : Nat) : Int), cuts, link, at_, key, val, hash, next⟩ k).2.2; rw [hM2] at e1 e2; dsimp only at e1 e2; obtain ⟨a, b, d, -⟩ := okM_spec HOK.out; rw [e2]; omega)
  clear hM2
  go_upto_block 0 with (fail)
  clear y0
  go_cut [7] (fun t7 W => t7 = .int .i64 (nextE k) ∧ Hid (Sq 44 #[.int .i64 0, .bool false, .int .u64 0, .int .u64 0, .int .u64 0, .int .u64 0, .int .u64 0, .int .u64 0] V X Y Z G wa wc la lc M #[.int .i64 k, .bool cuts, .int .u64 link, .int .u64 at_, .int .u64 key, .int .u64 val, .int .u64 hash, .int .u64 next] W) ∧ Hid (W.heap[A]? = some (.cells (ac4 (needE ⟨((k : Nat) : Int), cuts, link, at_, key, val, hash, next⟩ k)) 112 (0, 0))))
  case first =>
   clear HSE HST HPL
   rcases (by omega : k = 0 ∨ k = 1 ∨ k = 2 ∨ k = 3 ∨ k = 4 ∨ k = 5) with rfl | rfl | rfl | rfl | rfl | rfl
   ·skip
    obtain ⟨P, hP⟩ := nm (posL at_ 0)
    have HAT := hid (fun W => rat_any at_ 0 W HSO.out.at_ (by decide))
    rw [hP] at HAT
    have HPP := hid hP
    clear hP
    go_upto_region 6 with (fail)
    obtain ⟨D, hD⟩ := nm (World.drew wA)
    have hbD : Below wA.heap.size wA D := by rw [← hD]; exact (Below.refl _ _).drew
    replace KA := hid (klD KA.out hbD)
    replace HY := hid (HY.out.grow hbD)
    have HD := hid hD
    clear hD hbD
    haveI HNE : Nonempty (RY1 44 Y #[.int .i64 0, .bool cuts, .int .u64 link, .int .u64 at_, .int .u64 key, .int .u64 val, .int .u64 hash, .int .u64 next]) := ⟨⟨D, HY.out.by_⟩⟩
    have q3 := ry1_y HNE 3 (.int .u64 at_) rfl
    have q4 := ry1_y HNE 4 (.int .u64 key) rfl
    refine rgm2 (fun W => ∃ z : RY1 44 Y #[.int .i64 0, .bool cuts, .int .u64 link, .int .u64 at_, .int .u64 key, .int .u64 val, .int .u64 hash, .int .u64 next], W = z.w) 11 (.q 0 (.q 1 (.q 2 (.q 4 (.q 5 (.q 6 (.h 3 (.q 7 (.h 8 (.q 9 (.h 10 (.done)))))))))))) (by kernel_rfl) (by kernel_rfl) (by rw [HD.out]; exact ⟨⟨D, HY.out.by_⟩, rfl⟩) ?_
    rw [HD.out]
    iterate 6 (refine m2q rfl rfl ?_; go_big_quiet_step (fail); refine wpQuiet_nil ?_)
    refine m2h rfl fun R' hR' hO => ?_
    go_wp2_with fail
    refine (HAT.out _).mono ?_
    rintro e wq ⟨rfl, hwq⟩
    rw [hwq]
    clear hwq wq
    go_wp2
    refine hR' _ _ ⟨⟨_, HY.out.by_⟩, rfl⟩ ?_
    clear hR' hO R'
    iterate 1 (refine m2q rfl rfl ?_; go_big_quiet_step (fail); refine wpQuiet_nil ?_)
    refine m2h rfl fun R' hR' hO => ?_
    go_wp2_with (refine wsP rfl 3 (.tmp 26) (.tmp 22) rfl A 1 _ #[.int .i64 2, .int .i64 P, .int .u64 0, .int .u64 0] _ rfl rfl _ KA.out (by kernel_rfl) (Nat.le_of_ble_eq_true rfl) (by kernel_rfl) rfl ?_; intro ua a1 a2 a3 a4; replace KA := hid a1; replace HY := hid (HY.out.keep hGA apA.1 apA.2 a2 (a3 _ _ hVA HY.out.below)); clear a1 a2 a3 a4; (try simp only [Act.put]))
    refine hR' _ _ ⟨⟨_, HY.out.by_⟩, rfl⟩ ?_
    clear hR' hO R'
    iterate 1 (refine m2q rfl rfl ?_; go_big_quiet_step (fail); refine wpQuiet_nil ?_)
    refine m2h rfl fun R' hR' hO => ?_
    go_wp2_with (refine wsP rfl 26 (.tmp 27) (.tmp 25) rfl A 3 _ #[.int .i64 2, .int .i64 P, .int .u64 0, .int .u64 key] _ rfl rfl _ KA.out (by kernel_rfl) (Nat.le_of_ble_eq_true rfl) (by kernel_rfl) rfl ?_; intro ua a1 a2 a3 a4; replace KA := hid a1; replace HY := hid (HY.out.keep hGA apA.1 apA.2 a2 (a3 _ _ hVA HY.out.below)); clear a1 a2 a3 a4; (try simp only [Act.put]))
    refine hR' _ _ ⟨⟨_, HY.out.by_⟩, rfl⟩ ?_
    clear hR' hO R'
    refine m2d ?_
    simp only [List.drop_succ_cons, List.drop_nil]
    clear HNE q3 q4 HAT
    have KB := hid KA.out
    rw [← HPP.out] at KB
    go_wp2
    go_meet
    exact ⟨rfl, HY, KB⟩
   ·skip
    obtain ⟨P, hP⟩ := nm (posL at_ 1)
    have HAT := hid (fun W => rat_any at_ 1 W HSO.out.at_ (by decide))
    rw [hP] at HAT
    have HPP := hid hP
    clear hP
    go_upto_region 8 with (fail)
    obtain ⟨D, hD⟩ := nm (World.drew wA)
    have hbD : Below wA.heap.size wA D := by rw [← hD]; exact (Below.refl _ _).drew
    replace KA := hid (klD KA.out hbD)
    replace HY := hid (HY.out.grow hbD)
    have HD := hid hD
    clear hD hbD
    haveI HNE : Nonempty (RY1 44 Y #[.int .i64 1, .bool cuts, .int .u64 link, .int .u64 at_, .int .u64 key, .int .u64 val, .int .u64 hash, .int .u64 next]) := ⟨⟨D, HY.out.by_⟩⟩
    have q3 := ry1_y HNE 3 (.int .u64 at_) rfl
    have q5 := ry1_y HNE 5 (.int .u64 val) rfl
    refine rgm2 (fun W => ∃ z : RY1 44 Y #[.int .i64 1, .bool cuts, .int .u64 link, .int .u64 at_, .int .u64 key, .int .u64 val, .int .u64 hash, .int .u64 next], W = z.w) 11 (.q 0 (.q 1 (.q 2 (.q 4 (.q 5 (.q 6 (.h 3 (.q 7 (.h 8 (.q 9 (.h 10 (.done)))))))))))) (by kernel_rfl) (by kernel_rfl) (by rw [HD.out]; exact ⟨⟨D, HY.out.by_⟩, rfl⟩) ?_
    rw [HD.out]
    iterate 6 (refine m2q rfl rfl ?_; go_big_quiet_step (fail); refine wpQuiet_nil ?_)
    refine m2h rfl fun R' hR' hO => ?_
    go_wp2_with fail
    refine (HAT.out _).mono ?_
    rintro e wq ⟨rfl, hwq⟩
    rw [hwq]
    clear hwq wq
    go_wp2
    refine hR' _ _ ⟨⟨_, HY.out.by_⟩, rfl⟩ ?_
    clear hR' hO R'
    iterate 1 (refine m2q rfl rfl ?_; go_big_quiet_step (fail); refine wpQuiet_nil ?_)
    refine m2h rfl fun R' hR' hO => ?_
    go_wp2_with (refine wsP rfl 3 (.tmp 37) (.tmp 33) rfl A 1 _ #[.int .i64 2, .int .i64 P, .int .u64 0, .int .u64 0] _ rfl rfl _ KA.out (by kernel_rfl) (Nat.le_of_ble_eq_true rfl) (by kernel_rfl) rfl ?_; intro ua a1 a2 a3 a4; replace KA := hid a1; replace HY := hid (HY.out.keep hGA apA.1 apA.2 a2 (a3 _ _ hVA HY.out.below)); clear a1 a2 a3 a4; (try simp only [Act.put]))
    refine hR' _ _ ⟨⟨_, HY.out.by_⟩, rfl⟩ ?_
    clear hR' hO R'
    iterate 1 (refine m2q rfl rfl ?_; go_big_quiet_step (fail); refine wpQuiet_nil ?_)
    refine m2h rfl fun R' hR' hO => ?_
    go_wp2_with (refine wsP rfl 26 (.tmp 38) (.tmp 36) rfl A 3 _ #[.int .i64 2, .int .i64 P, .int .u64 0, .int .u64 val] _ rfl rfl _ KA.out (by kernel_rfl) (Nat.le_of_ble_eq_true rfl) (by kernel_rfl) rfl ?_; intro ua a1 a2 a3 a4; replace KA := hid a1; replace HY := hid (HY.out.keep hGA apA.1 apA.2 a2 (a3 _ _ hVA HY.out.below)); clear a1 a2 a3 a4; (try simp only [Act.put]))
    refine hR' _ _ ⟨⟨_, HY.out.by_⟩, rfl⟩ ?_
    clear hR' hO R'
    refine m2d ?_
    simp only [List.drop_succ_cons, List.drop_nil]
    clear HNE q3 q5 HAT
    have KB := hid KA.out
    rw [← HPP.out] at KB
    go_wp2
    go_meet
    exact ⟨rfl, HY, KB⟩
   ·skip
    obtain ⟨P, hP⟩ := nm (posL at_ 3)
    have HAT := hid (fun W => rat_any at_ 3 W HSO.out.at_ (by decide))
    rw [hP] at HAT
    have HPP := hid hP
    clear hP
    go_upto_region 10 with (fail)
    obtain ⟨D, hD⟩ := nm (World.drew wA)
    have hbD : Below wA.heap.size wA D := by rw [← hD]; exact (Below.refl _ _).drew
    replace KA := hid (klD KA.out hbD)
    replace HY := hid (HY.out.grow hbD)
    have HD := hid hD
    clear hD hbD
    haveI HNE : Nonempty (RY1 44 Y #[.int .i64 2, .bool cuts, .int .u64 link, .int .u64 at_, .int .u64 key, .int .u64 val, .int .u64 hash, .int .u64 next]) := ⟨⟨D, HY.out.by_⟩⟩
    have q3 := ry1_y HNE 3 (.int .u64 at_) rfl
    have q6 := ry1_y HNE 6 (.int .u64 hash) rfl
    refine rgm2 (fun W => ∃ z : RY1 44 Y #[.int .i64 2, .bool cuts, .int .u64 link, .int .u64 at_, .int .u64 key, .int .u64 val, .int .u64 hash, .int .u64 next], W = z.w) 11 (.q 0 (.q 1 (.q 2 (.q 4 (.q 5 (.q 6 (.h 3 (.q 7 (.h 8 (.q 9 (.h 10 (.done)))))))))))) (by kernel_rfl) (by kernel_rfl) (by rw [HD.out]; exact ⟨⟨D, HY.out.by_⟩, rfl⟩) ?_
    rw [HD.out]
    iterate 6 (refine m2q rfl rfl ?_; go_big_quiet_step (fail); refine wpQuiet_nil ?_)
    refine m2h rfl fun R' hR' hO => ?_
    go_wp2_with fail
    refine (HAT.out _).mono ?_
    rintro e wq ⟨rfl, hwq⟩
    rw [hwq]
    clear hwq wq
    go_wp2
    refine hR' _ _ ⟨⟨_, HY.out.by_⟩, rfl⟩ ?_
    clear hR' hO R'
    iterate 1 (refine m2q rfl rfl ?_; go_big_quiet_step (fail); refine wpQuiet_nil ?_)
    refine m2h rfl fun R' hR' hO => ?_
    go_wp2_with (refine wsP rfl 3 (.tmp 48) (.tmp 44) rfl A 1 _ #[.int .i64 2, .int .i64 P, .int .u64 0, .int .u64 0] _ rfl rfl _ KA.out (by kernel_rfl) (Nat.le_of_ble_eq_true rfl) (by kernel_rfl) rfl ?_; intro ua a1 a2 a3 a4; replace KA := hid a1; replace HY := hid (HY.out.keep hGA apA.1 apA.2 a2 (a3 _ _ hVA HY.out.below)); clear a1 a2 a3 a4; (try simp only [Act.put]))
    refine hR' _ _ ⟨⟨_, HY.out.by_⟩, rfl⟩ ?_
    clear hR' hO R'
    iterate 1 (refine m2q rfl rfl ?_; go_big_quiet_step (fail); refine wpQuiet_nil ?_)
    refine m2h rfl fun R' hR' hO => ?_
    go_wp2_with (refine wsP rfl 26 (.tmp 49) (.tmp 47) rfl A 3 _ #[.int .i64 2, .int .i64 P, .int .u64 0, .int .u64 hash] _ rfl rfl _ KA.out (by kernel_rfl) (Nat.le_of_ble_eq_true rfl) (by kernel_rfl) rfl ?_; intro ua a1 a2 a3 a4; replace KA := hid a1; replace HY := hid (HY.out.keep hGA apA.1 apA.2 a2 (a3 _ _ hVA HY.out.below)); clear a1 a2 a3 a4; (try simp only [Act.put]))
    refine hR' _ _ ⟨⟨_, HY.out.by_⟩, rfl⟩ ?_
    clear hR' hO R'
    refine m2d ?_
    simp only [List.drop_succ_cons, List.drop_nil]
    clear HNE q3 q6 HAT
    have KB := hid KA.out
    rw [← HPP.out] at KB
    go_wp2
    go_meet
    exact ⟨rfl, HY, KB⟩
   ·skip
    obtain ⟨P, hP⟩ := nm (posL at_ 2)
    have HAT := hid (fun W => rat_any at_ 2 W HSO.out.at_ (by decide))
    rw [hP] at HAT
    have HPP := hid hP
    clear hP
    go_upto_region 12 with (fail)
    obtain ⟨D, hD⟩ := nm (World.drew wA)
    have hbD : Below wA.heap.size wA D := by rw [← hD]; exact (Below.refl _ _).drew
    replace KA := hid (klD KA.out hbD)
    replace HY := hid (HY.out.grow hbD)
    have HD := hid hD
    clear hD hbD
    haveI HNE : Nonempty (RY1 44 Y #[.int .i64 3, .bool cuts, .int .u64 link, .int .u64 at_, .int .u64 key, .int .u64 val, .int .u64 hash, .int .u64 next]) := ⟨⟨D, HY.out.by_⟩⟩
    have q3 := ry1_y HNE 3 (.int .u64 at_) rfl
    have q7 := ry1_y HNE 7 (.int .u64 next) rfl
    refine rgm2 (fun W => ∃ z : RY1 44 Y #[.int .i64 3, .bool cuts, .int .u64 link, .int .u64 at_, .int .u64 key, .int .u64 val, .int .u64 hash, .int .u64 next], W = z.w) 11 (.q 0 (.q 1 (.q 2 (.q 4 (.q 5 (.h 3 (.q 6 (.h 7 (.q 8 (.h 9 (.q 10 (.done)))))))))))) (by kernel_rfl) (by kernel_rfl) (by rw [HD.out]; exact ⟨⟨D, HY.out.by_⟩, rfl⟩) ?_
    rw [HD.out]
    iterate 5 (refine m2q rfl rfl ?_; go_big_quiet_step (fail); refine wpQuiet_nil ?_)
    refine m2h rfl fun R' hR' hO => ?_
    go_wp2_with fail
    refine (HAT.out _).mono ?_
    rintro e wq ⟨rfl, hwq⟩
    rw [hwq]
    clear hwq wq
    go_wp2
    refine hR' _ _ ⟨⟨_, HY.out.by_⟩, rfl⟩ ?_
    clear hR' hO R'
    iterate 1 (refine m2q rfl rfl ?_; go_big_quiet_step (fail); refine wpQuiet_nil ?_)
    refine m2h rfl fun R' hR' hO => ?_
    go_wp2_with (refine wsP rfl 3 (.tmp 58) (.tmp 55) rfl A 1 _ #[.int .i64 2, .int .i64 P, .int .u64 0, .int .u64 0] _ rfl rfl _ KA.out (by kernel_rfl) (Nat.le_of_ble_eq_true rfl) (by kernel_rfl) rfl ?_; intro ua a1 a2 a3 a4; replace KA := hid a1; replace HY := hid (HY.out.keep hGA apA.1 apA.2 a2 (a3 _ _ hVA HY.out.below)); clear a1 a2 a3 a4; (try simp only [Act.put]))
    refine hR' _ _ ⟨⟨_, HY.out.by_⟩, rfl⟩ ?_
    clear hR' hO R'
    iterate 1 (refine m2q rfl rfl ?_; go_big_quiet_step (fail); refine wpQuiet_nil ?_)
    refine m2h rfl fun R' hR' hO => ?_
    go_wp2_with (refine wsP rfl 26 (.tmp 59) (.tmp 57) rfl A 3 _ #[.int .i64 2, .int .i64 P, .int .u64 0, .int .u64 next] _ rfl rfl _ KA.out (by kernel_rfl) (Nat.le_of_ble_eq_true rfl) (by kernel_rfl) rfl ?_; intro ua a1 a2 a3 a4; replace KA := hid a1; replace HY := hid (HY.out.keep hGA apA.1 apA.2 a2 (a3 _ _ hVA HY.out.below)); clear a1 a2 a3 a4; (try simp only [Act.put]))
    refine hR' _ _ ⟨⟨_, HY.out.by_⟩, rfl⟩ ?_
    clear hR' hO R'
    iterate 1 (refine m2q rfl rfl ?_; go_big_quiet_step (fail); refine wpQuiet_nil ?_)
    refine m2d ?_
    simp only [List.drop_succ_cons, List.drop_nil]
    clear HNE q3 q7 HAT
    have KB := hid KA.out
    rw [← HPP.out] at KB
    go_wp2
    go_meet
    exact ⟨rfl, HY, KB⟩
   ·skip
    obtain ⟨P, hP⟩ := nm (posL at_ 2)
    have HAT := hid (fun W => rat_any at_ 2 W HSO.out.at_ (by decide))
    rw [hP] at HAT
    have HPP := hid hP
    clear hP
    have y3 := clD (i := 3) HY.out.by_ rfl
    go_wp2_with fail
    refine (HAT.out _).mono ?_
    rintro e wq ⟨rfl, hwq⟩
    rw [hwq]
    clear hwq wq
    go_wp2_with (refine wsP rfl 112 (.tmp 6) (.tmp 66) rfl A 0 _ #[.int .i64 1, .int .i64 P, .int .u64 0, .int .u64 0] _ rfl rfl _ KA.out (by kernel_rfl) (Nat.le_of_ble_eq_true rfl) (by kernel_rfl) rfl ?_; intro ua a1 a2 a3 a4; replace KA := hid a1; replace HY := hid (HY.out.keep hGA apA.1 apA.2 a2 (a3 _ _ hVA HY.out.below)); clear a1 a2 a3 a4; (try simp only [Act.put]))
    have KB := hid KA.out
    rw [← HPP.out] at KB
    go_meet
    exact ⟨rfl, HY, KB⟩
   ·skip
    obtain ⟨P, hP⟩ := nm (posL link 0)
    have HAT := hid (fun W => rat_any link 0 W HSO.out.link (by decide))
    rw [hP] at HAT
    have HPP := hid hP
    clear hP
    go_upto_region 16 with (fail)
    obtain ⟨D, hD⟩ := nm (World.drew wA)
    have hbD : Below wA.heap.size wA D := by rw [← hD]; exact (Below.refl _ _).drew
    replace KA := hid (klD KA.out hbD)
    replace HY := hid (HY.out.grow hbD)
    have HD := hid hD
    clear hD hbD
    haveI HNE : Nonempty (RY1 44 Y #[.int .i64 5, .bool cuts, .int .u64 link, .int .u64 at_, .int .u64 key, .int .u64 val, .int .u64 hash, .int .u64 next]) := ⟨⟨D, HY.out.by_⟩⟩
    have q3 := ry1_y HNE 3 (.int .u64 at_) rfl
    have q2 := ry1_y HNE 2 (.int .u64 link) rfl
    refine rgm2 (fun W => ∃ z : RY1 44 Y #[.int .i64 5, .bool cuts, .int .u64 link, .int .u64 at_, .int .u64 key, .int .u64 val, .int .u64 hash, .int .u64 next], W = z.w) 10 (.q 0 (.q 1 (.q 3 (.q 4 (.q 5 (.h 2 (.q 6 (.h 7 (.q 8 (.h 9 (.done))))))))))) (by kernel_rfl) (by kernel_rfl) (by rw [HD.out]; exact ⟨⟨D, HY.out.by_⟩, rfl⟩) ?_
    rw [HD.out]
    iterate 5 (refine m2q rfl rfl ?_; go_big_quiet_step (fail); refine wpQuiet_nil ?_)
    refine m2h rfl fun R' hR' hO => ?_
    go_wp2_with fail
    refine (HAT.out _).mono ?_
    rintro e wq ⟨rfl, hwq⟩
    rw [hwq]
    clear hwq wq
    go_wp2
    refine hR' _ _ ⟨⟨_, HY.out.by_⟩, rfl⟩ ?_
    clear hR' hO R'
    iterate 1 (refine m2q rfl rfl ?_; go_big_quiet_step (fail); refine wpQuiet_nil ?_)
    refine m2h rfl fun R' hR' hO => ?_
    go_wp2_with (refine wsP rfl 3 (.tmp 75) (.tmp 71) rfl A 1 _ #[.int .i64 2, .int .i64 P, .int .u64 0, .int .u64 0] _ rfl rfl _ KA.out (by kernel_rfl) (Nat.le_of_ble_eq_true rfl) (by kernel_rfl) rfl ?_; intro ua a1 a2 a3 a4; replace KA := hid a1; replace HY := hid (HY.out.keep hGA apA.1 apA.2 a2 (a3 _ _ hVA HY.out.below)); clear a1 a2 a3 a4; (try simp only [Act.put]))
    refine hR' _ _ ⟨⟨_, HY.out.by_⟩, rfl⟩ ?_
    clear hR' hO R'
    iterate 1 (refine m2q rfl rfl ?_; go_big_quiet_step (fail); refine wpQuiet_nil ?_)
    refine m2h rfl fun R' hR' hO => ?_
    go_wp2_with (refine wsP rfl 26 (.tmp 76) (.tmp 74) rfl A 3 _ #[.int .i64 2, .int .i64 P, .int .u64 0, .int .u64 at_] _ rfl rfl _ KA.out (by kernel_rfl) (Nat.le_of_ble_eq_true rfl) (by kernel_rfl) rfl ?_; intro ua a1 a2 a3 a4; replace KA := hid a1; replace HY := hid (HY.out.keep hGA apA.1 apA.2 a2 (a3 _ _ hVA HY.out.below)); clear a1 a2 a3 a4; (try simp only [Act.put]))
    refine hR' _ _ ⟨⟨_, HY.out.by_⟩, rfl⟩ ?_
    clear hR' hO R'
    refine m2d ?_
    simp only [List.drop_succ_cons, List.drop_nil]
    clear HNE q3 q2 HAT
    have y1 := clD (i := 1) HY.out.by_ rfl
    cases cuts with
    | true =>
     have y7 := clD (i := 7) HY.out.by_ rfl
     go_wp2_with (refine wsP rfl 26 (.tmp 81) (.tmp 80) rfl A 3 _ #[.int .i64 2, .int .i64 P, .int .u64 0, .int .u64 next] _ rfl rfl _ KA.out (by kernel_rfl) (Nat.le_of_ble_eq_true rfl) (by kernel_rfl) rfl ?_; intro ua a1 a2 a3 a4; replace KA := hid a1; replace HY := hid (HY.out.keep hGA apA.1 apA.2 a2 (a3 _ _ hVA HY.out.below)); clear a1 a2 a3 a4; (try simp only [Act.put]))
     have KB := hid KA.out
     rw [← HPP.out] at KB
     go_meet
     exact ⟨rfl, HY, KB⟩
    | false =>
     have KB := hid KA.out
     rw [← HPP.out] at KB
     go_wp2
     go_meet
     exact ⟨rfl, HY, KB⟩
  case rest =>
   obtain ⟨rfl, hY2, hA2⟩ := hcut
   clear HY KA
   obtain ⟨⟨kd, ps, nw⟩, hnd⟩ : ∃ q, needE ⟨((k : Nat) : Int), cuts, link, at_, key, val, hash, next⟩ k = q := ⟨_, rfl⟩
   rw [hnd] at HST hA2
   have hYb := hY2.out.bx
   clear hnd
   go_wp2_with (first | (refine wlW rfl 25 (.tmp 2) rfl X _ rfl _ hY2.out.bx _ Tryz.underlying25 rfl (by kernel_rfl) ?_; intro v hv; subst hv) | (refine wlW rfl 112 (.tmp 6) rfl A _ rfl _ hA2.out _ Tryz.underlying112 rfl (by kernel_rfl) ?_; intro v hv; subst hv))
   refine (HST.out _ hY2.out.mem).mono ?_
   rintro e w5 ⟨wa2, wc2, la2, lc2, rfl, hm5, hb5, kw, kl⟩
   unfold memV
   have HS5 := hid (hY2.out.grow hb5)
   have hGD := llD hY2.out.bg
   have aw5 := hY2.out.aw.kept kw hGD
   have al5 := hY2.out.al.kept kl hGD
   have KWV := hid (kw.mono hY2.out.below.size)
   have KLV := hid (kl.mono hY2.out.below.size)
   have HM5 := hid hm5
   obtain ⟨w6, hw6, hb6, hs6, hl6⟩ := laid w5 #[.int .u64 0, .bool false] 108
   obtain ⟨Q, hQ⟩ := nm (w5.heap.size)
   rw [hQ] at hl6
   have HS6 := hid (HS5.out.grow hb6)
   have HM6 := hid (HM5.out.grow hb6)
   have KQ6 := hid hl6
   have hGQ : G < Q := by have := HS5.out.bg; have := llD this; omega
   have apQ : apartA wa2 Q ∧ apartA la2 Q := HM5.out.low' HPL.out (E := Q) (by omega)
   clear hm5 hb5 kw kl hb6 hs6 hl6 hY2 hA2 HS5 HM5 HST hGD hYb
   have hVX := HS6.out.ord
   go_upto_region 20 with (first
    | (refine wsP rfl 25 (.tmp 2) (.tmp 86) rfl X 0 _ #[.slice wa2 M2.W.length wc2, .slice la2 M2.L.length lc2, .bool M2.F] _ rfl rfl _ HS6.out.bx (by kernel_rfl) (Nat.le_of_ble_eq_true rfl) (by kernel_rfl) rfl ?_; intro w7 a1 a2 a3 a4; have HS7 := hid (HS6.out.putM HM6.out aw5 al5 a1 a2 a3); have KQ7 := hid (a2 Q _ (by omega) KQ6.out); clear a1 a2 a3 a4 HS6 HM6 KQ6; (try simp only [Act.put]))
    | (refine wsP rfl 108 (.tmp 8) (.tmp 87) rfl Q 0 _ #[.int .u64 x, .bool d] _ rfl rfl _ KQ7.out (by kernel_rfl) (Nat.le_of_ble_eq_true rfl) (by kernel_rfl) rfl ?_; intro w8 a1 a2 a3 a4; have HY := hid (HS7.out.keep hGQ apQ.1 apQ.2 a2 (a3 _ _ (by omega) HS7.out.below)); have KQ := hid a1; clear a1 a2 a3 a4 HS7 KQ7; (try simp only [Act.put])))
   clear hw6 hQ hVX apQ aw5 al5
   have g1 := clD (i := 1) KQ.out rfl
   cases d with
   | false =>
    go_upto_region 22 with (refine wsP rfl 3 (.tmp 91) (.const (.int .i64 7)) rfl Y 0 _ #[.int .i64 7, .bool cuts, .int .u64 link, .int .u64 at_, .int .u64 key, .int .u64 val, .int .u64 hash, .int .u64 next] _ rfl rfl _ HY.out.by_ (by kernel_rfl) (Nat.le_of_ble_eq_true rfl) (by kernel_rfl) rfl ?_; intro uy a1 a2 a3 a4; replace HY := hid (HY.out.putY a1 a2 a3); clear a1 a2 a3 a4; (try simp only [Act.put]))
    clear g1
    obtain ⟨D, hD⟩ := nm (World.drew uy)
    have hbD : Below (uy).heap.size uy D := by rw [← hD]; exact (Below.refl _ _).drew
    have HSD := hid (HY.out.grow hbD)
    have HD := hid hD
    clear hD hbD HY
    haveI : Nonempty (RYX 44 X Y #[.slice wa2 M2.W.length wc2, .slice la2 M2.L.length lc2, .bool M2.F] #[.int .i64 7, .bool cuts, .int .u64 link, .int .u64 at_, .int .u64 key, .int .u64 val, .int .u64 hash, .int .u64 next]) := ⟨⟨D, HSD.out.bx, HSD.out.by_⟩⟩
    refine rgm2 (fun W => ∃ z : RYX 44 X Y #[.slice wa2 M2.W.length wc2, .slice la2 M2.L.length lc2, .bool M2.F] #[.int .i64 7, .bool cuts, .int .u64 link, .int .u64 at_, .int .u64 key, .int .u64 val, .int .u64 hash, .int .u64 next], W = z.w) 4 (.q 0 (.q 1 (.h 2 (.h 3 (.done))))) (by kernel_rfl) (by kernel_rfl) (by rw [HD.out]; exact ⟨⟨D, HSD.out.bx, HSD.out.by_⟩, rfl⟩) ?_
    rw [HD.out]
    refine m2q rfl rfl ?_
    refine wpQuiet_loadW rfl 25 (.tmp 2) rfl X _ rfl _ (by rintro _ ⟨z, rfl⟩; exact z.bx) _ Tryz.underlying25 rfl (by kernel_rfl) ?_
    intro v hv
    subst hv
    refine wpQuiet_nil ?_
    refine m2q rfl rfl ?_
    refine wpQuiet_loadW rfl 44 (.tmp 3) rfl Y _ rfl _ (by rintro _ ⟨z, rfl⟩; exact z.by_) _ Tryz.underlying44 rfl (by kernel_rfl) ?_
    intro v hv
    subst hv
    refine wpQuiet_nil ?_
    simp only [Act.put, List.setIfInBounds_toArray, List.set_cons_succ, List.set_cons_zero]
    refine m2h rfl fun R' hR' hO => ?_
    go_wp2_with (refine wsP rfl 25 (.tmp 4) (.tmp 92) rfl Z 0 _ #[.slice wa2 M2.W.length wc2, .slice la2 M2.L.length lc2, .bool M2.F] _ rfl rfl _ HSD.out.bz (by kernel_rfl) (Nat.le_of_ble_eq_true rfl) (by kernel_rfl) rfl ?_; intro v1 a1 a2 a3 a4; have HSZ := hid (HSD.out.putZ a1 a2 a3); clear a1 a2 a3 a4; (try simp only [Act.put]))
    refine hR' _ _ ⟨⟨v1, HSZ.out.bx, HSZ.out.by_⟩, rfl⟩ ?_
    clear hR' hO R'
    refine m2h rfl fun R' hR' hO => ?_
    go_wp2_with (refine wsP rfl 44 (.tmp 5) (.tmp 93) rfl G 0 _ #[.int .i64 7, .bool cuts, .int .u64 link, .int .u64 at_, .int .u64 key, .int .u64 val, .int .u64 hash, .int .u64 next] _ rfl rfl _ HSZ.out.bg (by kernel_rfl) (Nat.le_of_ble_eq_true rfl) (by kernel_rfl) rfl ?_; intro v2 a1 a2 a3 a4; have HSF := hid (HSZ.out.putG a1 a2 a3); clear a1 a2 a3 a4; (try simp only [Act.put]))
    refine hR' _ _ ⟨⟨v2, HSF.out.2.2.2.2.1, HSF.out.2.2.2.2.2⟩, rfl⟩ ?_
    clear hR' hO R'
    refine m2d ?_
    simp only [List.drop_succ_cons, List.drop_nil]
    go_wp2
    refine bodyPost_ret (EditStep_result HSF.out.1 rfl HSF.out.2.1 rfl) rfl ?_
    rw [HSE.out, if_neg (by simp)]
    exact ⟨wa2, wc2, la2, lc2, rfl, HSF.out.2.2.1, HSF.out.2.2.2.1, KWV.out, KLV.out⟩
   | true =>
    have y0 := clD (i := 0) HY.out.by_ rfl
    have g0 := clD (i := 0) KQ.out rfl
    by_cases hk4 : k = 4
    ·subst hk4
     go_upto_region 26 with (first | (refine wsP rfl 26 (.tmp 99) (.tmp 98) rfl Y 7 _ #[.int .i64 4, .bool cuts, .int .u64 link, .int .u64 at_, .int .u64 key, .int .u64 val, .int .u64 hash, .int .u64 x] _ rfl rfl _ HY.out.by_ (by kernel_rfl) (Nat.le_of_ble_eq_true rfl) (by kernel_rfl) rfl ?_; intro uy a1 a2 a3 a4; replace HY := hid (HY.out.putY a1 a2 a3); clear a1 a2 a3 a4; (try simp only [Act.put])) | (refine wsP rfl 3 (.tmp 101) (.tmp 100) rfl Y 0 _ #[.int .i64 5, .bool cuts, .int .u64 link, .int .u64 at_, .int .u64 key, .int .u64 val, .int .u64 hash, .int .u64 x] _ rfl rfl _ HY.out.by_ (by kernel_rfl) (Nat.le_of_ble_eq_true rfl) (by kernel_rfl) rfl ?_; intro uy a1 a2 a3 a4; replace HY := hid (HY.out.putY a1 a2 a3); clear a1 a2 a3 a4; (try simp only [Act.put])))
     clear g1 g0 y0
     obtain ⟨D, hD⟩ := nm (World.drew uy)
     have hbD : Below (uy).heap.size uy D := by rw [← hD]; exact (Below.refl _ _).drew
     have HSD := hid (HY.out.grow hbD)
     have HD := hid hD
     clear hD hbD HY
     haveI : Nonempty (RYX 44 X Y #[.slice wa2 M2.W.length wc2, .slice la2 M2.L.length lc2, .bool M2.F] #[.int .i64 5, .bool cuts, .int .u64 link, .int .u64 at_, .int .u64 key, .int .u64 val, .int .u64 hash, .int .u64 x]) := ⟨⟨D, HSD.out.bx, HSD.out.by_⟩⟩
     refine rgm2 (fun W => ∃ z : RYX 44 X Y #[.slice wa2 M2.W.length wc2, .slice la2 M2.L.length lc2, .bool M2.F] #[.int .i64 5, .bool cuts, .int .u64 link, .int .u64 at_, .int .u64 key, .int .u64 val, .int .u64 hash, .int .u64 x], W = z.w) 4 (.q 0 (.q 1 (.h 2 (.h 3 (.done))))) (by kernel_rfl) (by kernel_rfl) (by rw [HD.out]; exact ⟨⟨D, HSD.out.bx, HSD.out.by_⟩, rfl⟩) ?_
     rw [HD.out]
     refine m2q rfl rfl ?_
     refine wpQuiet_loadW rfl 25 (.tmp 2) rfl X _ rfl _ (by rintro _ ⟨z, rfl⟩; exact z.bx) _ Tryz.underlying25 rfl (by kernel_rfl) ?_
     intro v hv
     subst hv
     refine wpQuiet_nil ?_
     refine m2q rfl rfl ?_
     refine wpQuiet_loadW rfl 44 (.tmp 3) rfl Y _ rfl _ (by rintro _ ⟨z, rfl⟩; exact z.by_) _ Tryz.underlying44 rfl (by kernel_rfl) ?_
     intro v hv
     subst hv
     refine wpQuiet_nil ?_
     simp only [Act.put, List.setIfInBounds_toArray, List.set_cons_succ, List.set_cons_zero]
     refine m2h rfl fun R' hR' hO => ?_
     go_wp2_with (refine wsP rfl 25 (.tmp 4) (.tmp 102) rfl Z 0 _ #[.slice wa2 M2.W.length wc2, .slice la2 M2.L.length lc2, .bool M2.F] _ rfl rfl _ HSD.out.bz (by kernel_rfl) (Nat.le_of_ble_eq_true rfl) (by kernel_rfl) rfl ?_; intro v1 a1 a2 a3 a4; have HSZ := hid (HSD.out.putZ a1 a2 a3); clear a1 a2 a3 a4; (try simp only [Act.put]))
     refine hR' _ _ ⟨⟨v1, HSZ.out.bx, HSZ.out.by_⟩, rfl⟩ ?_
     clear hR' hO R'
     refine m2h rfl fun R' hR' hO => ?_
     go_wp2_with (refine wsP rfl 44 (.tmp 5) (.tmp 103) rfl G 0 _ #[.int .i64 5, .bool cuts, .int .u64 link, .int .u64 at_, .int .u64 key, .int .u64 val, .int .u64 hash, .int .u64 x] _ rfl rfl _ HSZ.out.bg (by kernel_rfl) (Nat.le_of_ble_eq_true rfl) (by kernel_rfl) rfl ?_; intro v2 a1 a2 a3 a4; have HSF := hid (HSZ.out.putG a1 a2 a3); clear a1 a2 a3 a4; (try simp only [Act.put]))
     refine hR' _ _ ⟨⟨v2, HSF.out.2.2.2.2.1, HSF.out.2.2.2.2.2⟩, rfl⟩ ?_
     clear hR' hO R'
     refine m2d ?_
     simp only [List.drop_succ_cons, List.drop_nil]
     go_wp2
     refine bodyPost_ret (EditStep_result HSF.out.1 rfl HSF.out.2.1 rfl) rfl ?_
     rw [HSE.out]
     exact ⟨wa2, wc2, la2, lc2, rfl, HSF.out.2.2.1, HSF.out.2.2.2.1, KWV.out, KLV.out⟩
    ·have t4 : (((k : Nat) : Int) == 4) = false := by simp; omega
     have HN4 : Hid ((if ((k : Nat) : Int) = 4 then x else next) = next) := hid (if_neg (by omega))
     go_upto_region 26 with (refine wsP rfl 3 (.tmp 101) (.tmp 100) rfl Y 0 _ #[.int .i64 (nextE k), .bool cuts, .int .u64 link, .int .u64 at_, .int .u64 key, .int .u64 val, .int .u64 hash, .int .u64 next] _ rfl rfl _ HY.out.by_ (by kernel_rfl) (Nat.le_of_ble_eq_true rfl) (by kernel_rfl) rfl ?_; intro uy a1 a2 a3 a4; replace HY := hid (HY.out.putY a1 a2 a3); clear a1 a2 a3 a4; (try simp only [Act.put]))
     clear g1 g0 y0 t4
     obtain ⟨D, hD⟩ := nm (World.drew uy)
     have hbD : Below (uy).heap.size uy D := by rw [← hD]; exact (Below.refl _ _).drew
     have HSD := hid (HY.out.grow hbD)
     have HD := hid hD
     clear hD hbD HY
     haveI : Nonempty (RYX 44 X Y #[.slice wa2 M2.W.length wc2, .slice la2 M2.L.length lc2, .bool M2.F] #[.int .i64 (nextE k), .bool cuts, .int .u64 link, .int .u64 at_, .int .u64 key, .int .u64 val, .int .u64 hash, .int .u64 next]) := ⟨⟨D, HSD.out.bx, HSD.out.by_⟩⟩
     refine rgm2 (fun W => ∃ z : RYX 44 X Y #[.slice wa2 M2.W.length wc2, .slice la2 M2.L.length lc2, .bool M2.F] #[.int .i64 (nextE k), .bool cuts, .int .u64 link, .int .u64 at_, .int .u64 key, .int .u64 val, .int .u64 hash, .int .u64 next], W = z.w) 4 (.q 0 (.q 1 (.h 2 (.h 3 (.done))))) (by kernel_rfl) (by kernel_rfl) (by rw [HD.out]; exact ⟨⟨D, HSD.out.bx, HSD.out.by_⟩, rfl⟩) ?_
     rw [HD.out]
     refine m2q rfl rfl ?_
     refine wpQuiet_loadW rfl 25 (.tmp 2) rfl X _ rfl _ (by rintro _ ⟨z, rfl⟩; exact z.bx) _ Tryz.underlying25 rfl (by kernel_rfl) ?_
     intro v hv
     subst hv
     refine wpQuiet_nil ?_
     refine m2q rfl rfl ?_
     refine wpQuiet_loadW rfl 44 (.tmp 3) rfl Y _ rfl _ (by rintro _ ⟨z, rfl⟩; exact z.by_) _ Tryz.underlying44 rfl (by kernel_rfl) ?_
     intro v hv
     subst hv
     refine wpQuiet_nil ?_
     simp only [Act.put, List.setIfInBounds_toArray, List.set_cons_succ, List.set_cons_zero]
     refine m2h rfl fun R' hR' hO => ?_
     go_wp2_with (refine wsP rfl 25 (.tmp 4) (.tmp 102) rfl Z 0 _ #[.slice wa2 M2.W.length wc2, .slice la2 M2.L.length lc2, .bool M2.F] _ rfl rfl _ HSD.out.bz (by kernel_rfl) (Nat.le_of_ble_eq_true rfl) (by kernel_rfl) rfl ?_; intro v1 a1 a2 a3 a4; have HSZ := hid (HSD.out.putZ a1 a2 a3); clear a1 a2 a3 a4; (try simp only [Act.put]))
     refine hR' _ _ ⟨⟨v1, HSZ.out.bx, HSZ.out.by_⟩, rfl⟩ ?_
     clear hR' hO R'
     refine m2h rfl fun R' hR' hO => ?_
     go_wp2_with (refine wsP rfl 44 (.tmp 5) (.tmp 103) rfl G 0 _ #[.int .i64 (nextE k), .bool cuts, .int .u64 link, .int .u64 at_, .int .u64 key, .int .u64 val, .int .u64 hash, .int .u64 next] _ rfl rfl _ HSZ.out.bg (by kernel_rfl) (Nat.le_of_ble_eq_true rfl) (by kernel_rfl) rfl ?_; intro v2 a1 a2 a3 a4; have HSF := hid (HSZ.out.putG a1 a2 a3); clear a1 a2 a3 a4; (try simp only [Act.put]))
     refine hR' _ _ ⟨⟨v2, HSF.out.2.2.2.2.1, HSF.out.2.2.2.2.2⟩, rfl⟩ ?_
     clear hR' hO R'
     refine m2d ?_
     simp only [List.drop_succ_cons, List.drop_nil]
     go_wp2
     refine bodyPost_ret (EditStep_result HSF.out.1 rfl HSF.out.2.1 rfl) rfl ?_
     rw [HSE.out, if_pos (by trivial), HN4.out]
     exact ⟨wa2, wc2, la2, lc2, rfl, HSF.out.2.2.1, HSF.out.2.2.2.1, KWV.out, KLV.out⟩
end Go.Proofs.YtipohagcppfgiaaGreat
