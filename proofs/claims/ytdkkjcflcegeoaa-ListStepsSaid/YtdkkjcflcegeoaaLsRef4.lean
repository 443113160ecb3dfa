/- The document's lists (printed by gen_lsref4.py): a step of who edits. -/
import Derived.Test.YtdkkjcflcegeoaaLsRefQ
namespace Go.Proofs.Ytdkkjcflcegeoaa
open Go.RowKit
open Go.Proofs
set_option linter.unusedVariables false
attribute [local go_sem] Oper.semAt_some
theorem EditStep_result {W : World} {b4 b5 : Nat} {v4_0 v4_1 v4_2 v5_0 v5_1 v5_2 v5_3 v5_4 v5_5 v5_6 v5_7 : Value} {tmps : Array Value} (h4 : W.heap[b4]? = some (.cells #[v4_0, v4_1, v4_2] 25 (0, 0))) (q4 : tmps[4]?.getD undef = .pointer (some ⟨b4, 0, none⟩)) (h5 : W.heap[b5]? = some (.cells #[v5_0, v5_1, v5_2, v5_3, v5_4, v5_5, v5_6, v5_7] 53 (0, 0))) (q5 : tmps[5]?.getD undef = .pointer (some ⟨b5, 0, none⟩)) :
    (results Try.f27 tmps).run Try.prog W = .ok (.tuple #[.agg #[v4_0, v4_1, v4_2], .agg #[v5_0, v5_1, v5_2, v5_3, v5_4, v5_5, v5_6, v5_7]]) W := by
  have e4_0 := cell_laid (i := 0) (v := v4_0) h4 rfl
  have e4_1 := cell_laid (i := 1) (v := v4_1) h4 rfl
  have e4_2 := cell_laid (i := 2) (v := v4_2) h4 rfl
  have e5_0 := cell_laid (i := 0) (v := v5_0) h5 rfl
  have e5_1 := cell_laid (i := 1) (v := v5_1) h5 rfl
  have e5_2 := cell_laid (i := 2) (v := v5_2) h5 rfl
  have e5_3 := cell_laid (i := 3) (v := v5_3) h5 rfl
  have e5_4 := cell_laid (i := 4) (v := v5_4) h5 rfl
  have e5_5 := cell_laid (i := 5) (v := v5_5) h5 rfl
  have e5_6 := cell_laid (i := 6) (v := v5_6) h5 rfl
  have e5_7 := cell_laid (i := 7) (v := v5_7) h5 rfl
  simp [results, Try.results27, go_sem, e4_0, e4_1, e4_2, q4, e5_0, e5_1, e5_2, e5_3, e5_4, e5_5, e5_6, e5_7, q5]
def GivesRE (wa0 la0 : Option Addr) (R : Mem × Ede) (w : World) (e : Ending) (W : World) : Prop := ∃ wa wc la lc, e = .returned (.tuple #[memV wa wc la lc R.1, edV R.2]) ∧ MemL W wa wc la lc R.1 ∧ Below w.heap.size w W ∧ keptA w wa0 wa ∧ keptA w la0 la
/-- A world in which a variable lies so. -/
structure RY1 (T : TypeId) (Y : Nat) (csy : Array Value) where
  w : World
  by_ : w.heap[Y]? = some (.cells csy T (0, 0))
theorem ry1_y {T : TypeId} {Y : Nat} {csy : Array Value} (_ : Nonempty (RY1 T Y csy)) (i : Nat) (v : Value) (h : csy[i]? = some v) : ∀ z : RY1 T Y csy, z.w.cell? ⟨Y, i, none⟩ = some v := fun z => cell_laid z.by_ h

set_option maxRecDepth 100000 in
set_option maxHeartbeats 8000000 in
theorem redit0_any (M : Mem) (s : Ede) (wa la : Option Addr) (wc lc : Nat) (V : World) (h : MemL V wa wc la lc M) (hok : okM M = true) (hs : s.Ok) (hph : s.ph = 0) :
    Calls Try.prog 27 #[memV wa wc la lc M, edV s] V (GivesRE wa la ((editE M s).1, (editE M s).2.1) V) := by
  obtain ⟨ph, cuts, link, at_, key, val, hash, next⟩ := s
  obtain rfl : ph = 0 := hph
  obtain ⟨V1, hV1, hbV1, hsV1, hlV1⟩ := laid V #[.slice wa M.W.length wc, .slice la M.L.length lc, .bool M.F] 25
  obtain ⟨V2, hV2, hbV2, hsV2, hlV2⟩ := laid V1 #[.int .i64 0, .bool cuts, .int .u64 ((link : Nat) : Int), .int .u64 ((at_ : Nat) : Int), .int .u64 ((key : Nat) : Int), .int .u64 ((val : Nat) : Int), .int .u64 ((hash : Nat) : Int), .int .u64 ((next : Nat) : Int)] 53
  obtain ⟨V3, hV3, hbV3, hsV3, hlV3⟩ := laid V2 #[.slice none 0 0, .slice none 0 0, .bool false] 25
  obtain ⟨V4, hV4, hbV4, hsV4, hlV4⟩ := laid V3 #[.int .i64 0, .bool false, .int .u64 0, .int .u64 0, .int .u64 0, .int .u64 0, .int .u64 0, .int .u64 0] 53
  obtain ⟨V5, hV5, hbV5, hsV5, hlV5⟩ := laid V4 #[.int .i64 0, .int .i64 0, .int .u64 0, .int .u64 0] 73
  obtain ⟨X, hX⟩ : ∃ X, V.heap.size = X := ⟨_, rfl⟩
  rw [hX] at hlV1
  obtain ⟨Y, hY⟩ : ∃ X, V1.heap.size = X := ⟨_, rfl⟩
  rw [hY] at hlV2
  obtain ⟨Z, hZ⟩ : ∃ X, V2.heap.size = X := ⟨_, rfl⟩
  rw [hZ] at hlV3
  obtain ⟨G, hG⟩ : ∃ X, V3.heap.size = X := ⟨_, rfl⟩
  rw [hG] at hlV4
  obtain ⟨A, hA⟩ : ∃ X, V4.heap.size = X := ⟨_, rfl⟩
  rw [hA] at hlV5
  have KX := hid (keep_laid (keep_laid (keep_laid (keep_laid hlV1 hbV2) hbV3) hbV4) hbV5)
  have KY := hid (keep_laid (keep_laid (keep_laid hlV2 hbV3) hbV4) hbV5)
  have KZ := hid (keep_laid (keep_laid hlV3 hbV4) hbV5)
  have KG := hid (keep_laid hlV4 hbV5)
  have KA := hid hlV5
  have HB := hid (step (step (step (step hbV1 hbV2) hbV3) hbV4) hbV5)
  have hVX : V.heap.size ≤ X := by omega
  have hVY : V.heap.size ≤ Y := by omega
  have nXY : X < Y := by omega
  have hVZ : V.heap.size ≤ Z := by omega
  have nXZ : X < Z := by omega
  have nYZ : Y < Z := by omega
  have hVG : V.heap.size ≤ G := by omega
  have nXG : X < G := by omega
  have nYG : Y < G := by omega
  have nZG : Z < G := by omega
  have hVA : V.heap.size ≤ A := by omega
  have nXA : X < A := by omega
  have nYA : Y < A := by omega
  have nZA : Z < A := by omega
  have nGA : G < A := by omega
  clear hbV1 hsV1 hlV1 hbV2 hsV2 hlV2 hbV3 hsV3 hlV3 hbV4 hsV4 hlV4 hbV5 hsV5 hlV5
  obtain ⟨aw, al⟩ := h.low hok (X := X) (G := G) (by omega)
  have HLW := hid (h.lowA hok)
  have HS5 := hid (show Sq 53 #[.int .i64 0, .bool false, .int .u64 0, .int .u64 0, .int .u64 0, .int .u64 0, .int .u64 0, .int .u64 0] V X Y Z G wa wc la lc M #[.int .i64 0, .bool cuts, .int .u64 ((link : Nat) : Int), .int .u64 ((at_ : Nat) : Int), .int .u64 ((key : Nat) : Int), .int .u64 ((val : Nat) : Int), .int .u64 ((hash : Nat) : Int), .int .u64 ((next : Nat) : Int)] V5 from ⟨KX.out, KY.out, KZ.out, KG.out, h.grow HB.out, aw, al, HB.out, by omega⟩)
  obtain ⟨V6, hV6, a1, a2, a3⟩ := put4 KA.out (.int .i64 2) (.int .i64 0) (.int .u64 0) (.int .u64 0)
  have HS6 := hid (HS5.out.keep nGA (HLW.out.1.apart hVA) (HLW.out.2.apart hVA) a2 (a3 _ _ hVA HB.out))
  have KA6 := hid a1
  have HV6 := hid hV6
  clear hV6 a1 a2 a3
  have hwl := h.w.len
  have hll := h.l.len
  have HSO := hid hs
  have HOK := hid hok
  unfold memV edV
  dsimp only
  have y0 := cell_laid (i := 0) KY.out rfl
  obtain ⟨a0, af0, a1, af1, a2, af2, a3, af3⟩ := fcl4 KA.out
  obtain ⟨⟨M', x, d⟩, hX⟩ : ∃ X, stepM M true ((posL at_ 0 : Nat) : Int) key = X := ⟨_, rfl⟩
  have HSE : Hid (editE M (⟨0, cuts, link, at_, key, val, hash, next⟩ : Ede) = (M', (if d = true then (⟨1, cuts, link, at_, key, val, hash, next⟩ : Ede) else (⟨7, cuts, link, at_, key, val, hash, next⟩ : Ede)), true)) := hid (by
    have e0 : editE M (⟨0, cuts, link, at_, key, val, hash, next⟩ : Ede) = ((stepM M true ((posL at_ 0 : Nat) : Int) key).1, (if (stepM M true ((posL at_ 0 : Nat) : Int) key).2.2 = true then (⟨1, cuts, link, at_, key, val, hash, next⟩ : Ede) else (⟨7, cuts, link, at_, key, val, hash, next⟩ : Ede)), true) := by
      unfold editE; rw [if_neg (show ¬ ((6 : Int) ≤ 0) by decide)]; rfl
    rw [e0, hX])
  obtain ⟨P, hP⟩ : ∃ q, posL at_ 0 = q := ⟨_, rfl⟩
  have HAT := hid (fun W => rat_any at_ 0 W hs.at_ (by decide))
  rw [hP] at HAT
  have hp : P ≤ 5000 := by rw [← hP]; exact posL_le _ _ (by decide)
  have HST : Hid (∀ W, MemL W wa wc la lc M → Calls Try.prog 56 #[.agg #[.slice wa M.W.length wc, .slice la M.L.length lc, .bool M.F], .agg #[.int .i64 2, .int .i64 ((P : Nat) : Int), .int .u64 0, .int .u64 ((key : Nat) : Int)]] W (GivesR wa la M' x d W)) := hid (fun W hm => by
    have := RefStep_any M wa la wc lc true 2 ((posL at_ 0 : Nat) : Int) 0 key W hm hok (by rw [hP]; omega) rfl
    rw [hX, hP] at this
    exact this)
  have HLM : Hid (1 ≤ M'.W.length ∧ 1 ≤ M'.L.length) := hid (by have e1 := stepM_len M true ((posL at_ 0 : Nat) : Int) key; have e2 := stepM_L M true ((posL at_ 0 : Nat) : Int) key; rw [hX] at e1 e2; dsimp only at e1 e2; obtain ⟨a, b, d, -⟩ := okM_spec hok; rw [e2]; omega)
  clear h hok hs aw al KX KY KZ KG HB hX hP
  go_enter Try.func27, Try.ntmps27
  go_upto_region 2 with (fail)
  rw [← HV6.out]
  clear y0 a0 a1 a2 a3 af0 af1 af2 af3
  have y0 := cell_laid (i := 0) HS6.out.by_ rfl
  go_upto_region 6 with (fail)
  obtain ⟨D, hD⟩ : ∃ DX, V6.drew = DX := ⟨_, rfl⟩
  have hbD : Below V6.heap.size V6 D := by rw [← hD]; exact (Below.refl _ _).drew
  have HSD := hid (HS6.out.grow hbD)
  have KAD := hid (keep_laid KA6.out hbD)
  have HD := hid hD
  clear hD hbD
  obtain ⟨U1, hU1⟩ : ∃ W, D.setCell ⟨A, 1, none⟩ (.int .i64 ((P : Nat) : Int)) = W := ⟨_, rfl⟩
  have HSU1 := hid (HSD.out.keep (W' := U1) nGA (HLW.out.1.apart hVA) (HLW.out.2.apart hVA) (fun k o hk ho => by rw [← hU1]; exact other_laid ho hk _) (by rw [← hU1]; exact HSD.out.below.setCell (p := ⟨A, 1, none⟩) hVA _))
  have KA1 : Hid (U1.heap[A]? = some (.cells #[.int .i64 2, .int .i64 ((P : Nat) : Int), .int .u64 0, .int .u64 0] 73 (0, 0))) := hid (by rw [← hU1]; exact set_laid (i := 1) KAD.out _)
  obtain ⟨U2, hU2⟩ : ∃ W, U1.setCell ⟨A, 3, none⟩ (.int .u64 ((key : Nat) : Int)) = W := ⟨_, rfl⟩
  have HSU2 := hid (HSU1.out.keep (W' := U2) nGA (HLW.out.1.apart hVA) (HLW.out.2.apart hVA) (fun k o hk ho => by rw [← hU2]; exact other_laid ho hk _) (by rw [← hU2]; exact HSU1.out.below.setCell (p := ⟨A, 3, none⟩) hVA _))
  have KA2 : Hid (U2.heap[A]? = some (.cells #[.int .i64 2, .int .i64 ((P : Nat) : Int), .int .u64 0, .int .u64 ((key : Nat) : Int)] 73 (0, 0))) := hid (by rw [← hU2]; exact set_laid (i := 3) KA1.out _)
  have HU1 := hid hU1
  have HU2 := hid hU2
  clear hU1 hU2 y0
  haveI HNE : Nonempty (RY1 53 Y #[.int .i64 0, .bool cuts, .int .u64 ((link : Nat) : Int), .int .u64 ((at_ : Nat) : Int), .int .u64 ((key : Nat) : Int), .int .u64 ((val : Nat) : Int), .int .u64 ((hash : Nat) : Int), .int .u64 ((next : Nat) : Int)]) := ⟨⟨D, HSD.out.by_⟩⟩
  have q0 := ry1_y HNE 0 (.int .i64 0) rfl
  have q1 := ry1_y HNE 1 (.bool cuts) rfl
  have q2 := ry1_y HNE 2 (.int .u64 ((link : Nat) : Int)) rfl
  have q3 := ry1_y HNE 3 (.int .u64 ((at_ : Nat) : Int)) rfl
  have q4 := ry1_y HNE 4 (.int .u64 ((key : Nat) : Int)) rfl
  have q5 := ry1_y HNE 5 (.int .u64 ((val : Nat) : Int)) rfl
  have q6 := ry1_y HNE 6 (.int .u64 ((hash : Nat) : Int)) rfl
  have q7 := ry1_y HNE 7 (.int .u64 ((next : Nat) : Int)) rfl
  refine wp_region_mix2 (fun W => ∃ z : RY1 53 Y #[.int .i64 0, .bool cuts, .int .u64 ((link : Nat) : Int), .int .u64 ((at_ : Nat) : Int), .int .u64 ((key : Nat) : Int), .int .u64 ((val : Nat) : Int), .int .u64 ((hash : Nat) : Int), .int .u64 ((next : Nat) : Int)], W = z.w) 11 (.q 0 (.q 1 (.q 2 (.q 4 (.q 5 (.q 6 (.h 3 (.q 7 (.h 8 (.q 9 (.h 10 .done))))))))))) (by kernel_rfl) (by kernel_rfl) (by rw [HD.out]; exact ⟨⟨D, HSD.out.by_⟩, rfl⟩) ?_
  rw [HD.out]
  repeat (refine wpMix2_q rfl rfl ?_; go_big_quiet_step (fail); refine wpQuiet_nil ?_)
  refine wpMix2_h rfl fun R' hR' hO => ?_
  go_wp2_with fail
  refine (HAT.out D).mono ?_
  rintro e wq ⟨rfl, hwq⟩
  rw [hwq]
  clear hwq wq
  go_wp2
  refine hR' _ _ ⟨⟨D, HSD.out.by_⟩, rfl⟩ ?_
  clear hR' hO R'
  repeat (refine wpMix2_q rfl rfl ?_; go_big_quiet_step (fail); refine wpQuiet_nil ?_)
  have a1 := cell_laid (i := 1) KAD.out rfl
  have af1 := free_laid (i := 1) KAD.out
  refine wpMix2_h rfl fun R' hR' hO => ?_
  go_wp2
  rw [HU1.out]
  refine hR' _ _ ⟨⟨U1, HSU1.out.by_⟩, rfl⟩ ?_
  clear hR' hO R' a1 af1
  repeat (refine wpMix2_q rfl rfl ?_; go_big_quiet_step (fail); refine wpQuiet_nil ?_)
  have a3 := cell_laid (i := 3) KA1.out rfl
  have af3 := free_laid (i := 3) KA1.out
  refine wpMix2_h rfl fun R' hR' hO => ?_
  go_wp2
  rw [HU2.out]
  refine hR' _ _ ⟨⟨U2, HSU2.out.by_⟩, rfl⟩ ?_
  clear hR' hO R' a3 af3
  refine wpMix2_done ?_
  simp only [List.drop_succ_cons, List.drop_nil]
  clear q0 q1 q2 q3 q4 q5 q6 q7
  obtain ⟨p0, p1, p2⟩ := cells3 HSU2.out.bx
  obtain ⟨a0, a1, a2, a3⟩ := ncl4 KA2.out
  go_wp2_with fail
  refine (HST.out U2 HSU2.out.mem).mono ?_
  rintro e w5 ⟨wa', wc', la', lc', rfl, hm, hb5, kw, kl⟩
  have hG4 : G < U2.heap.size := lt_laid HSU2.out.bg
  have hVD := HSU2.out.below.size
  have hA4 : A < U2.heap.size := lt_laid KA2.out
  obtain ⟨w6, hw6, hb6, hs6, hl6⟩ := laid w5 #[.int .u64 0, .bool false] 69
  obtain ⟨B, hB⟩ : ∃ X, w5.heap.size = X := ⟨_, rfl⟩
  rw [hB] at hl6
  have ap : apartA wa' B ∧ apartA la' B := by
    have e1 := hm.w
    have e2 := hm.l
    constructor
    · rintro b off rfl rfl
      obtain ⟨_, _, ⟨q, _⟩ | ⟨b', o', q, q2, _⟩⟩ := e1
      · have := HLM.out; omega
      · cases q; omega
    · rintro b off rfl rfl
      obtain ⟨_, _, ⟨q, _⟩ | ⟨b', o', q, q2, _⟩⟩ := e2
      · have := HLM.out; omega
      · cases q; omega
  obtain ⟨w7, hw7, hS7, hk7⟩ := ((HSU2.out.grow hb5).grow hb6).putX (hm.grow hb6) (HSU2.out.aw.kept kw hG4) (HSU2.out.al.kept kl hG4)
  have hGB : G < B := by have := hb5.size; omega
  have hXB : X < B := by omega
  have hl7 := hk7 B _ (by omega) hl6
  obtain ⟨w8, hw8, b1, b2, b3⟩ := put_got hl7 (by decide) (by decide) (.int .u64 ((x : Nat) : Int)) (.bool d)
  have HS8 := hid (hS7.keep hGB ap.1 ap.2 b2 (b3.1 _ _ (by have := hVD; have := hb5.size; omega) hS7.below))
  have KB := hid b1
  have KW := hid (kw.mono hVD)
  have KL := hid (kl.mono hVD)
  have HW7 := hid hw7
  have HW8 := hid hw8
  have hwl' := hm.w.len
  have hll' := hm.l.len
  have hXnB : X ≠ B := by omega
  have hBnX : B ≠ X := by omega
  obtain ⟨x0, x1, x2⟩ := cells3 ((HSU2.out.grow hb5).grow hb6).bx
  have xf0 := free_laid (i := 0) ((HSU2.out.grow hb5).grow hb6).bx
  have xf1 := free_laid (i := 1) ((HSU2.out.grow hb5).grow hb6).bx
  have xf2 := free_laid (i := 2) ((HSU2.out.grow hb5).grow hb6).bx
  obtain ⟨g0, gf0, g1, gf1⟩ := fcl2 hl6
  clear hm hb5 kw kl hs6 hb6 hl6 hS7 hk7 hl7 b1 b2 b3 hw7 hw8 ap p0 p1 p2 a0 a1 a2 a3
  unfold memV
  go_upto_region 20 with (fail)
  rw [← HW7.out, ← HW8.out]
  clear x0 x1 x2 xf0 xf1 xf2 g0 g1 gf0 gf1
  cases d with
  | false =>
    obtain ⟨y0, yf0, y1, yf1, y2, yf2, y3, yf3, y4, yf4, y5, yf5, y6, yf6, y7, yf7⟩ := fcl8 HS8.out.by_
    obtain ⟨g0, g1⟩ := ncl2 KB.out
    obtain ⟨w9, hw9⟩ : ∃ W, (w8.setCell ⟨Y, 0, none⟩ (.int .i64 7)) = W := ⟨_, rfl⟩
    have HS9 : Hid (Sq 53 #[.int .i64 0, .bool false, .int .u64 0, .int .u64 0, .int .u64 0, .int .u64 0, .int .u64 0, .int .u64 0] V X Y Z G wa' wc' la' lc' M' #[.int .i64 7, .bool cuts, .int .u64 ((link : Nat) : Int), .int .u64 ((at_ : Nat) : Int), .int .u64 ((key : Nat) : Int), .int .u64 ((val : Nat) : Int), .int .u64 ((hash : Nat) : Int), .int .u64 ((next : Nat) : Int)] w9) := hid (by rw [← hw9]; exact (HS8.out.setY (i := 0) (v := .int .i64 7) (cs' := #[.int .i64 7, .bool cuts, .int .u64 ((link : Nat) : Int), .int .u64 ((at_ : Nat) : Int), .int .u64 ((key : Nat) : Int), .int .u64 ((val : Nat) : Int), .int .u64 ((hash : Nat) : Int), .int .u64 ((next : Nat) : Int)]) rfl))
    have HW9 := hid hw9
    clear hw9
    have HRES : Hid (editE M (⟨0, cuts, link, at_, key, val, hash, next⟩ : Ede) = (M', ⟨7, cuts, link, at_, key, val, hash, next⟩, true)) := hid (HSE.out.trans (by rw [if_neg (by decide)]))
    go_upto_region 22 with (fail)
    rw [HW9.out]
    clear y0 y1 y2 y3 y4 y5 y6 y7 yf0 yf1 yf2 yf3 yf4 yf5 yf6 yf7 g0 g1
    go_upto_region 22 with (fail)
    obtain ⟨D, hD⟩ : ∃ DX, (w9).drew = DX := ⟨_, rfl⟩
    have HSD := hid (HS9.out.grow (Below.refl _ _).drew)
    rw [hD] at HSD
    have HD := hid hD
    clear hD
    obtain ⟨U1, U2, hU1, hU2, d1, d2, d3, d4, d5, d6, d7, d8, d9⟩ := HSD.out.fin8 (by decide) (by decide)
    have HU1 := hid hU1
    have HU2 := hid hU2
    have D1 := hid d1
    have D2 := hid d2
    have D3 := hid d3
    have D4 := hid d4
    have D5 := hid d5
    have D6 := hid d6
    have D7 := hid d7
    have D8 := hid d8
    have D9 := hid d9
    clear hU1 hU2 d1 d2 d3 d4 d5 d6 d7 d8 d9
    haveI HNE : Nonempty (RYX 53 X Y #[.slice wa' M'.W.length wc', .slice la' M'.L.length lc', .bool M'.F] #[.int .i64 7, .bool cuts, .int .u64 ((link : Nat) : Int), .int .u64 ((at_ : Nat) : Int), .int .u64 ((key : Nat) : Int), .int .u64 ((val : Nat) : Int), .int .u64 ((hash : Nat) : Int), .int .u64 ((next : Nat) : Int)]) := ⟨⟨D, HSD.out.bx, HSD.out.by_⟩⟩
    have p0 := ryx_x HNE 0 (.slice wa' M'.W.length wc') rfl
    have p1 := ryx_x HNE 1 (.slice la' M'.L.length lc') rfl
    have p2 := ryx_x HNE 2 (.bool M'.F) rfl
    have q0 := ryx_y HNE 0 (.int .i64 7) rfl
    have q1 := ryx_y HNE 1 (.bool cuts) rfl
    have q2 := ryx_y HNE 2 (.int .u64 ((link : Nat) : Int)) rfl
    have q3 := ryx_y HNE 3 (.int .u64 ((at_ : Nat) : Int)) rfl
    have q4 := ryx_y HNE 4 (.int .u64 ((key : Nat) : Int)) rfl
    have q5 := ryx_y HNE 5 (.int .u64 ((val : Nat) : Int)) rfl
    have q6 := ryx_y HNE 6 (.int .u64 ((hash : Nat) : Int)) rfl
    have q7 := ryx_y HNE 7 (.int .u64 ((next : Nat) : Int)) rfl
    refine wp_region_mix2 (fun W => ∃ z : RYX 53 X Y #[.slice wa' M'.W.length wc', .slice la' M'.L.length lc', .bool M'.F] #[.int .i64 7, .bool cuts, .int .u64 ((link : Nat) : Int), .int .u64 ((at_ : Nat) : Int), .int .u64 ((key : Nat) : Int), .int .u64 ((val : Nat) : Int), .int .u64 ((hash : Nat) : Int), .int .u64 ((next : Nat) : Int)], W = z.w) 4 (.q 0 (.q 1 (.h 2 (.h 3 .done)))) (by kernel_rfl) (by kernel_rfl) (by rw [HD.out]; exact ⟨⟨D, HSD.out.bx, HSD.out.by_⟩, rfl⟩) ?_
    rw [HD.out]
    repeat (refine wpMix2_q rfl rfl ?_; go_big_quiet_step (fail); refine wpQuiet_nil ?_)
    obtain ⟨z0, zf0, z1, zf1, z2, zf2⟩ := fcl3 HSD.out.bz
    refine wpMix2_h rfl fun R' hR' hO => ?_
    go_wp2
    rw [← HU1.out]
    refine hR' _ _ ⟨⟨U1, D1.out, D2.out⟩, rfl⟩ ?_
    clear hR' hO R' z0 z1 z2 zf0 zf1 zf2
    obtain ⟨z0, zf0, z1, zf1, z2, zf2, z3, zf3, z4, zf4, z5, zf5, z6, zf6, z7, zf7⟩ := fcl8 D3.out
    refine wpMix2_h rfl fun R' hR' hO => ?_
    go_wp2
    rw [← HU2.out]
    refine hR' _ _ ⟨⟨U2, D4.out, D5.out⟩, rfl⟩ ?_
    clear hR' hO R' z0 z1 z2 z3 z4 z5 z6 z7 zf0 zf1 zf2 zf3 zf4 zf5 zf6 zf7
    refine wpMix2_done ?_
    simp only [List.drop_succ_cons, List.drop_nil]
    go_wp2
    refine bodyPost_ret (EditStep_result D6.out rfl D7.out rfl) rfl ?_
    rw [HRES.out]
    exact ⟨wa', wc', la', lc', rfl, D8.out, D9.out, KW.out, KL.out⟩
  | true =>
    obtain ⟨y0, yf0, y1, yf1, y2, yf2, y3, yf3, y4, yf4, y5, yf5, y6, yf6, y7, yf7⟩ := fcl8 HS8.out.by_
    obtain ⟨g0, g1⟩ := ncl2 KB.out
    obtain ⟨w9, hw9⟩ : ∃ W, (w8.setCell ⟨Y, 0, none⟩ (.int .i64 1)) = W := ⟨_, rfl⟩
    have HS9 : Hid (Sq 53 #[.int .i64 0, .bool false, .int .u64 0, .int .u64 0, .int .u64 0, .int .u64 0, .int .u64 0, .int .u64 0] V X Y Z G wa' wc' la' lc' M' #[.int .i64 1, .bool cuts, .int .u64 ((link : Nat) : Int), .int .u64 ((at_ : Nat) : Int), .int .u64 ((key : Nat) : Int), .int .u64 ((val : Nat) : Int), .int .u64 ((hash : Nat) : Int), .int .u64 ((next : Nat) : Int)] w9) := hid (by rw [← hw9]; exact (HS8.out.setY (i := 0) (v := .int .i64 1) (cs' := #[.int .i64 1, .bool cuts, .int .u64 ((link : Nat) : Int), .int .u64 ((at_ : Nat) : Int), .int .u64 ((key : Nat) : Int), .int .u64 ((val : Nat) : Int), .int .u64 ((hash : Nat) : Int), .int .u64 ((next : Nat) : Int)]) rfl))
    have HW9 := hid hw9
    clear hw9
    have HRES : Hid (editE M (⟨0, cuts, link, at_, key, val, hash, next⟩ : Ede) = (M', ⟨1, cuts, link, at_, key, val, hash, next⟩, true)) := hid (HSE.out.trans (by rw [if_pos rfl]))
    go_upto_region 26 with (fail)
    rw [HW9.out]
    clear y0 y1 y2 y3 y4 y5 y6 y7 yf0 yf1 yf2 yf3 yf4 yf5 yf6 yf7 g0 g1
    go_upto_region 26 with (fail)
    obtain ⟨D, hD⟩ : ∃ DX, (w9).drew = DX := ⟨_, rfl⟩
    have HSD := hid (HS9.out.grow (Below.refl _ _).drew)
    rw [hD] at HSD
    have HD := hid hD
    clear hD
    obtain ⟨U1, U2, hU1, hU2, d1, d2, d3, d4, d5, d6, d7, d8, d9⟩ := HSD.out.fin8 (by decide) (by decide)
    have HU1 := hid hU1
    have HU2 := hid hU2
    have D1 := hid d1
    have D2 := hid d2
    have D3 := hid d3
    have D4 := hid d4
    have D5 := hid d5
    have D6 := hid d6
    have D7 := hid d7
    have D8 := hid d8
    have D9 := hid d9
    clear hU1 hU2 d1 d2 d3 d4 d5 d6 d7 d8 d9
    haveI HNE : Nonempty (RYX 53 X Y #[.slice wa' M'.W.length wc', .slice la' M'.L.length lc', .bool M'.F] #[.int .i64 1, .bool cuts, .int .u64 ((link : Nat) : Int), .int .u64 ((at_ : Nat) : Int), .int .u64 ((key : Nat) : Int), .int .u64 ((val : Nat) : Int), .int .u64 ((hash : Nat) : Int), .int .u64 ((next : Nat) : Int)]) := ⟨⟨D, HSD.out.bx, HSD.out.by_⟩⟩
    have p0 := ryx_x HNE 0 (.slice wa' M'.W.length wc') rfl
    have p1 := ryx_x HNE 1 (.slice la' M'.L.length lc') rfl
    have p2 := ryx_x HNE 2 (.bool M'.F) rfl
    have q0 := ryx_y HNE 0 (.int .i64 1) rfl
    have q1 := ryx_y HNE 1 (.bool cuts) rfl
    have q2 := ryx_y HNE 2 (.int .u64 ((link : Nat) : Int)) rfl
    have q3 := ryx_y HNE 3 (.int .u64 ((at_ : Nat) : Int)) rfl
    have q4 := ryx_y HNE 4 (.int .u64 ((key : Nat) : Int)) rfl
    have q5 := ryx_y HNE 5 (.int .u64 ((val : Nat) : Int)) rfl
    have q6 := ryx_y HNE 6 (.int .u64 ((hash : Nat) : Int)) rfl
    have q7 := ryx_y HNE 7 (.int .u64 ((next : Nat) : Int)) rfl
    refine wp_region_mix2 (fun W => ∃ z : RYX 53 X Y #[.slice wa' M'.W.length wc', .slice la' M'.L.length lc', .bool M'.F] #[.int .i64 1, .bool cuts, .int .u64 ((link : Nat) : Int), .int .u64 ((at_ : Nat) : Int), .int .u64 ((key : Nat) : Int), .int .u64 ((val : Nat) : Int), .int .u64 ((hash : Nat) : Int), .int .u64 ((next : Nat) : Int)], W = z.w) 4 (.q 0 (.q 1 (.h 2 (.h 3 .done)))) (by kernel_rfl) (by kernel_rfl) (by rw [HD.out]; exact ⟨⟨D, HSD.out.bx, HSD.out.by_⟩, rfl⟩) ?_
    rw [HD.out]
    repeat (refine wpMix2_q rfl rfl ?_; go_big_quiet_step (fail); refine wpQuiet_nil ?_)
    obtain ⟨z0, zf0, z1, zf1, z2, zf2⟩ := fcl3 HSD.out.bz
    refine wpMix2_h rfl fun R' hR' hO => ?_
    go_wp2
    rw [← HU1.out]
    refine hR' _ _ ⟨⟨U1, D1.out, D2.out⟩, rfl⟩ ?_
    clear hR' hO R' z0 z1 z2 zf0 zf1 zf2
    obtain ⟨z0, zf0, z1, zf1, z2, zf2, z3, zf3, z4, zf4, z5, zf5, z6, zf6, z7, zf7⟩ := fcl8 D3.out
    refine wpMix2_h rfl fun R' hR' hO => ?_
    go_wp2
    rw [← HU2.out]
    refine hR' _ _ ⟨⟨U2, D4.out, D5.out⟩, rfl⟩ ?_
    clear hR' hO R' z0 z1 z2 z3 z4 z5 z6 z7 zf0 zf1 zf2 zf3 zf4 zf5 zf6 zf7
    refine wpMix2_done ?_
    simp only [List.drop_succ_cons, List.drop_nil]
    go_wp2
    refine bodyPost_ret (EditStep_result D6.out rfl D7.out rfl) rfl ?_
    rw [HRES.out]
    exact ⟨wa', wc', la', lc', rfl, D8.out, D9.out, KW.out, KL.out⟩
set_option maxRecDepth 100000 in
set_option maxHeartbeats 8000000 in
theorem redit1_any (M : Mem) (s : Ede) (wa la : Option Addr) (wc lc : Nat) (V : World) (h : MemL V wa wc la lc M) (hok : okM M = true) (hs : s.Ok) (hph : s.ph = 1) :
    Calls Try.prog 27 #[memV wa wc la lc M, edV s] V (GivesRE wa la ((editE M s).1, (editE M s).2.1) V) := by
  obtain ⟨ph, cuts, link, at_, key, val, hash, next⟩ := s
  obtain rfl : ph = 1 := hph
  obtain ⟨V1, hV1, hbV1, hsV1, hlV1⟩ := laid V #[.slice wa M.W.length wc, .slice la M.L.length lc, .bool M.F] 25
  obtain ⟨V2, hV2, hbV2, hsV2, hlV2⟩ := laid V1 #[.int .i64 1, .bool cuts, .int .u64 ((link : Nat) : Int), .int .u64 ((at_ : Nat) : Int), .int .u64 ((key : Nat) : Int), .int .u64 ((val : Nat) : Int), .int .u64 ((hash : Nat) : Int), .int .u64 ((next : Nat) : Int)] 53
  obtain ⟨V3, hV3, hbV3, hsV3, hlV3⟩ := laid V2 #[.slice none 0 0, .slice none 0 0, .bool false] 25
  obtain ⟨V4, hV4, hbV4, hsV4, hlV4⟩ := laid V3 #[.int .i64 0, .bool false, .int .u64 0, .int .u64 0, .int .u64 0, .int .u64 0, .int .u64 0, .int .u64 0] 53
  obtain ⟨V5, hV5, hbV5, hsV5, hlV5⟩ := laid V4 #[.int .i64 0, .int .i64 0, .int .u64 0, .int .u64 0] 73
  obtain ⟨X, hX⟩ : ∃ X, V.heap.size = X := ⟨_, rfl⟩
  rw [hX] at hlV1
  obtain ⟨Y, hY⟩ : ∃ X, V1.heap.size = X := ⟨_, rfl⟩
  rw [hY] at hlV2
  obtain ⟨Z, hZ⟩ : ∃ X, V2.heap.size = X := ⟨_, rfl⟩
  rw [hZ] at hlV3
  obtain ⟨G, hG⟩ : ∃ X, V3.heap.size = X := ⟨_, rfl⟩
  rw [hG] at hlV4
  obtain ⟨A, hA⟩ : ∃ X, V4.heap.size = X := ⟨_, rfl⟩
  rw [hA] at hlV5
  have KX := hid (keep_laid (keep_laid (keep_laid (keep_laid hlV1 hbV2) hbV3) hbV4) hbV5)
  have KY := hid (keep_laid (keep_laid (keep_laid hlV2 hbV3) hbV4) hbV5)
  have KZ := hid (keep_laid (keep_laid hlV3 hbV4) hbV5)
  have KG := hid (keep_laid hlV4 hbV5)
  have KA := hid hlV5
  have HB := hid (step (step (step (step hbV1 hbV2) hbV3) hbV4) hbV5)
  have hVX : V.heap.size ≤ X := by omega
  have hVY : V.heap.size ≤ Y := by omega
  have nXY : X < Y := by omega
  have hVZ : V.heap.size ≤ Z := by omega
  have nXZ : X < Z := by omega
  have nYZ : Y < Z := by omega
  have hVG : V.heap.size ≤ G := by omega
  have nXG : X < G := by omega
  have nYG : Y < G := by omega
  have nZG : Z < G := by omega
  have hVA : V.heap.size ≤ A := by omega
  have nXA : X < A := by omega
  have nYA : Y < A := by omega
  have nZA : Z < A := by omega
  have nGA : G < A := by omega
  clear hbV1 hsV1 hlV1 hbV2 hsV2 hlV2 hbV3 hsV3 hlV3 hbV4 hsV4 hlV4 hbV5 hsV5 hlV5
  obtain ⟨aw, al⟩ := h.low hok (X := X) (G := G) (by omega)
  have HLW := hid (h.lowA hok)
  have HS5 := hid (show Sq 53 #[.int .i64 0, .bool false, .int .u64 0, .int .u64 0, .int .u64 0, .int .u64 0, .int .u64 0, .int .u64 0] V X Y Z G wa wc la lc M #[.int .i64 1, .bool cuts, .int .u64 ((link : Nat) : Int), .int .u64 ((at_ : Nat) : Int), .int .u64 ((key : Nat) : Int), .int .u64 ((val : Nat) : Int), .int .u64 ((hash : Nat) : Int), .int .u64 ((next : Nat) : Int)] V5 from ⟨KX.out, KY.out, KZ.out, KG.out, h.grow HB.out, aw, al, HB.out, by omega⟩)
  obtain ⟨V6, hV6, a1, a2, a3⟩ := put4 KA.out (.int .i64 2) (.int .i64 0) (.int .u64 0) (.int .u64 0)
  have HS6 := hid (HS5.out.keep nGA (HLW.out.1.apart hVA) (HLW.out.2.apart hVA) a2 (a3 _ _ hVA HB.out))
  have KA6 := hid a1
  have HV6 := hid hV6
  clear hV6 a1 a2 a3
  have hwl := h.w.len
  have hll := h.l.len
  have HSO := hid hs
  have HOK := hid hok
  unfold memV edV
  dsimp only
  have y0 := cell_laid (i := 0) KY.out rfl
  obtain ⟨a0, af0, a1, af1, a2, af2, a3, af3⟩ := fcl4 KA.out
  obtain ⟨⟨M', x, d⟩, hX⟩ : ∃ X, stepM M true ((posL at_ 1 : Nat) : Int) val = X := ⟨_, rfl⟩
  have HSE : Hid (editE M (⟨1, cuts, link, at_, key, val, hash, next⟩ : Ede) = (M', (if d = true then (⟨2, cuts, link, at_, key, val, hash, next⟩ : Ede) else (⟨7, cuts, link, at_, key, val, hash, next⟩ : Ede)), true)) := hid (by
    have e0 : editE M (⟨1, cuts, link, at_, key, val, hash, next⟩ : Ede) = ((stepM M true ((posL at_ 1 : Nat) : Int) val).1, (if (stepM M true ((posL at_ 1 : Nat) : Int) val).2.2 = true then (⟨2, cuts, link, at_, key, val, hash, next⟩ : Ede) else (⟨7, cuts, link, at_, key, val, hash, next⟩ : Ede)), true) := by
      unfold editE; rw [if_neg (show ¬ ((6 : Int) ≤ 1) by decide)]; rfl
    rw [e0, hX])
  obtain ⟨P, hP⟩ : ∃ q, posL at_ 1 = q := ⟨_, rfl⟩
  have HAT := hid (fun W => rat_any at_ 1 W hs.at_ (by decide))
  rw [hP] at HAT
  have hp : P ≤ 5000 := by rw [← hP]; exact posL_le _ _ (by decide)
  have HST : Hid (∀ W, MemL W wa wc la lc M → Calls Try.prog 56 #[.agg #[.slice wa M.W.length wc, .slice la M.L.length lc, .bool M.F], .agg #[.int .i64 2, .int .i64 ((P : Nat) : Int), .int .u64 0, .int .u64 ((val : Nat) : Int)]] W (GivesR wa la M' x d W)) := hid (fun W hm => by
    have := RefStep_any M wa la wc lc true 2 ((posL at_ 1 : Nat) : Int) 0 val W hm hok (by rw [hP]; omega) rfl
    rw [hX, hP] at this
    exact this)
  have HLM : Hid (1 ≤ M'.W.length ∧ 1 ≤ M'.L.length) := hid (by have e1 := stepM_len M true ((posL at_ 1 : Nat) : Int) val; have e2 := stepM_L M true ((posL at_ 1 : Nat) : Int) val; rw [hX] at e1 e2; dsimp only at e1 e2; obtain ⟨a, b, d, -⟩ := okM_spec hok; rw [e2]; omega)
  clear h hok hs aw al KX KY KZ KG HB hX hP
  go_enter Try.func27, Try.ntmps27
  go_upto_region 2 with (fail)
  rw [← HV6.out]
  clear y0 a0 a1 a2 a3 af0 af1 af2 af3
  have y0 := cell_laid (i := 0) HS6.out.by_ rfl
  go_upto_region 8 with (fail)
  obtain ⟨D, hD⟩ : ∃ DX, V6.drew = DX := ⟨_, rfl⟩
  have hbD : Below V6.heap.size V6 D := by rw [← hD]; exact (Below.refl _ _).drew
  have HSD := hid (HS6.out.grow hbD)
  have KAD := hid (keep_laid KA6.out hbD)
  have HD := hid hD
  clear hD hbD
  obtain ⟨U1, hU1⟩ : ∃ W, D.setCell ⟨A, 1, none⟩ (.int .i64 ((P : Nat) : Int)) = W := ⟨_, rfl⟩
  have HSU1 := hid (HSD.out.keep (W' := U1) nGA (HLW.out.1.apart hVA) (HLW.out.2.apart hVA) (fun k o hk ho => by rw [← hU1]; exact other_laid ho hk _) (by rw [← hU1]; exact HSD.out.below.setCell (p := ⟨A, 1, none⟩) hVA _))
  have KA1 : Hid (U1.heap[A]? = some (.cells #[.int .i64 2, .int .i64 ((P : Nat) : Int), .int .u64 0, .int .u64 0] 73 (0, 0))) := hid (by rw [← hU1]; exact set_laid (i := 1) KAD.out _)
  obtain ⟨U2, hU2⟩ : ∃ W, U1.setCell ⟨A, 3, none⟩ (.int .u64 ((val : Nat) : Int)) = W := ⟨_, rfl⟩
  have HSU2 := hid (HSU1.out.keep (W' := U2) nGA (HLW.out.1.apart hVA) (HLW.out.2.apart hVA) (fun k o hk ho => by rw [← hU2]; exact other_laid ho hk _) (by rw [← hU2]; exact HSU1.out.below.setCell (p := ⟨A, 3, none⟩) hVA _))
  have KA2 : Hid (U2.heap[A]? = some (.cells #[.int .i64 2, .int .i64 ((P : Nat) : Int), .int .u64 0, .int .u64 ((val : Nat) : Int)] 73 (0, 0))) := hid (by rw [← hU2]; exact set_laid (i := 3) KA1.out _)
  have HU1 := hid hU1
  have HU2 := hid hU2
  clear hU1 hU2 y0
  haveI HNE : Nonempty (RY1 53 Y #[.int .i64 1, .bool cuts, .int .u64 ((link : Nat) : Int), .int .u64 ((at_ : Nat) : Int), .int .u64 ((key : Nat) : Int), .int .u64 ((val : Nat) : Int), .int .u64 ((hash : Nat) : Int), .int .u64 ((next : Nat) : Int)]) := ⟨⟨D, HSD.out.by_⟩⟩
  have q0 := ry1_y HNE 0 (.int .i64 1) rfl
  have q1 := ry1_y HNE 1 (.bool cuts) rfl
  have q2 := ry1_y HNE 2 (.int .u64 ((link : Nat) : Int)) rfl
  have q3 := ry1_y HNE 3 (.int .u64 ((at_ : Nat) : Int)) rfl
  have q4 := ry1_y HNE 4 (.int .u64 ((key : Nat) : Int)) rfl
  have q5 := ry1_y HNE 5 (.int .u64 ((val : Nat) : Int)) rfl
  have q6 := ry1_y HNE 6 (.int .u64 ((hash : Nat) : Int)) rfl
  have q7 := ry1_y HNE 7 (.int .u64 ((next : Nat) : Int)) rfl
  refine wp_region_mix2 (fun W => ∃ z : RY1 53 Y #[.int .i64 1, .bool cuts, .int .u64 ((link : Nat) : Int), .int .u64 ((at_ : Nat) : Int), .int .u64 ((key : Nat) : Int), .int .u64 ((val : Nat) : Int), .int .u64 ((hash : Nat) : Int), .int .u64 ((next : Nat) : Int)], W = z.w) 11 (.q 0 (.q 1 (.q 2 (.q 4 (.q 5 (.q 6 (.h 3 (.q 7 (.h 8 (.q 9 (.h 10 .done))))))))))) (by kernel_rfl) (by kernel_rfl) (by rw [HD.out]; exact ⟨⟨D, HSD.out.by_⟩, rfl⟩) ?_
  rw [HD.out]
  repeat (refine wpMix2_q rfl rfl ?_; go_big_quiet_step (fail); refine wpQuiet_nil ?_)
  refine wpMix2_h rfl fun R' hR' hO => ?_
  go_wp2_with fail
  refine (HAT.out D).mono ?_
  rintro e wq ⟨rfl, hwq⟩
  rw [hwq]
  clear hwq wq
  go_wp2
  refine hR' _ _ ⟨⟨D, HSD.out.by_⟩, rfl⟩ ?_
  clear hR' hO R'
  repeat (refine wpMix2_q rfl rfl ?_; go_big_quiet_step (fail); refine wpQuiet_nil ?_)
  have a1 := cell_laid (i := 1) KAD.out rfl
  have af1 := free_laid (i := 1) KAD.out
  refine wpMix2_h rfl fun R' hR' hO => ?_
  go_wp2
  rw [HU1.out]
  refine hR' _ _ ⟨⟨U1, HSU1.out.by_⟩, rfl⟩ ?_
  clear hR' hO R' a1 af1
  repeat (refine wpMix2_q rfl rfl ?_; go_big_quiet_step (fail); refine wpQuiet_nil ?_)
  have a3 := cell_laid (i := 3) KA1.out rfl
  have af3 := free_laid (i := 3) KA1.out
  refine wpMix2_h rfl fun R' hR' hO => ?_
  go_wp2
  rw [HU2.out]
  refine hR' _ _ ⟨⟨U2, HSU2.out.by_⟩, rfl⟩ ?_
  clear hR' hO R' a3 af3
  refine wpMix2_done ?_
  simp only [List.drop_succ_cons, List.drop_nil]
  clear q0 q1 q2 q3 q4 q5 q6 q7
  obtain ⟨p0, p1, p2⟩ := cells3 HSU2.out.bx
  obtain ⟨a0, a1, a2, a3⟩ := ncl4 KA2.out
  go_wp2_with fail
  refine (HST.out U2 HSU2.out.mem).mono ?_
  rintro e w5 ⟨wa', wc', la', lc', rfl, hm, hb5, kw, kl⟩
  have hG4 : G < U2.heap.size := lt_laid HSU2.out.bg
  have hVD := HSU2.out.below.size
  have hA4 : A < U2.heap.size := lt_laid KA2.out
  obtain ⟨w6, hw6, hb6, hs6, hl6⟩ := laid w5 #[.int .u64 0, .bool false] 69
  obtain ⟨B, hB⟩ : ∃ X, w5.heap.size = X := ⟨_, rfl⟩
  rw [hB] at hl6
  have ap : apartA wa' B ∧ apartA la' B := by
    have e1 := hm.w
    have e2 := hm.l
    constructor
    · rintro b off rfl rfl
      obtain ⟨_, _, ⟨q, _⟩ | ⟨b', o', q, q2, _⟩⟩ := e1
      · have := HLM.out; omega
      · cases q; omega
    · rintro b off rfl rfl
      obtain ⟨_, _, ⟨q, _⟩ | ⟨b', o', q, q2, _⟩⟩ := e2
      · have := HLM.out; omega
      · cases q; omega
  obtain ⟨w7, hw7, hS7, hk7⟩ := ((HSU2.out.grow hb5).grow hb6).putX (hm.grow hb6) (HSU2.out.aw.kept kw hG4) (HSU2.out.al.kept kl hG4)
  have hGB : G < B := by have := hb5.size; omega
  have hXB : X < B := by omega
  have hl7 := hk7 B _ (by omega) hl6
  obtain ⟨w8, hw8, b1, b2, b3⟩ := put_got hl7 (by decide) (by decide) (.int .u64 ((x : Nat) : Int)) (.bool d)
  have HS8 := hid (hS7.keep hGB ap.1 ap.2 b2 (b3.1 _ _ (by have := hVD; have := hb5.size; omega) hS7.below))
  have KB := hid b1
  have KW := hid (kw.mono hVD)
  have KL := hid (kl.mono hVD)
  have HW7 := hid hw7
  have HW8 := hid hw8
  have hwl' := hm.w.len
  have hll' := hm.l.len
  have hXnB : X ≠ B := by omega
  have hBnX : B ≠ X := by omega
  obtain ⟨x0, x1, x2⟩ := cells3 ((HSU2.out.grow hb5).grow hb6).bx
  have xf0 := free_laid (i := 0) ((HSU2.out.grow hb5).grow hb6).bx
  have xf1 := free_laid (i := 1) ((HSU2.out.grow hb5).grow hb6).bx
  have xf2 := free_laid (i := 2) ((HSU2.out.grow hb5).grow hb6).bx
  obtain ⟨g0, gf0, g1, gf1⟩ := fcl2 hl6
  clear hm hb5 kw kl hs6 hb6 hl6 hS7 hk7 hl7 b1 b2 b3 hw7 hw8 ap p0 p1 p2 a0 a1 a2 a3
  unfold memV
  go_upto_region 20 with (fail)
  rw [← HW7.out, ← HW8.out]
  clear x0 x1 x2 xf0 xf1 xf2 g0 g1 gf0 gf1
  cases d with
  | false =>
    obtain ⟨y0, yf0, y1, yf1, y2, yf2, y3, yf3, y4, yf4, y5, yf5, y6, yf6, y7, yf7⟩ := fcl8 HS8.out.by_
    obtain ⟨g0, g1⟩ := ncl2 KB.out
    obtain ⟨w9, hw9⟩ : ∃ W, (w8.setCell ⟨Y, 0, none⟩ (.int .i64 7)) = W := ⟨_, rfl⟩
    have HS9 : Hid (Sq 53 #[.int .i64 0, .bool false, .int .u64 0, .int .u64 0, .int .u64 0, .int .u64 0, .int .u64 0, .int .u64 0] V X Y Z G wa' wc' la' lc' M' #[.int .i64 7, .bool cuts, .int .u64 ((link : Nat) : Int), .int .u64 ((at_ : Nat) : Int), .int .u64 ((key : Nat) : Int), .int .u64 ((val : Nat) : Int), .int .u64 ((hash : Nat) : Int), .int .u64 ((next : Nat) : Int)] w9) := hid (by rw [← hw9]; exact (HS8.out.setY (i := 0) (v := .int .i64 7) (cs' := #[.int .i64 7, .bool cuts, .int .u64 ((link : Nat) : Int), .int .u64 ((at_ : Nat) : Int), .int .u64 ((key : Nat) : Int), .int .u64 ((val : Nat) : Int), .int .u64 ((hash : Nat) : Int), .int .u64 ((next : Nat) : Int)]) rfl))
    have HW9 := hid hw9
    clear hw9
    have HRES : Hid (editE M (⟨1, cuts, link, at_, key, val, hash, next⟩ : Ede) = (M', ⟨7, cuts, link, at_, key, val, hash, next⟩, true)) := hid (HSE.out.trans (by rw [if_neg (by decide)]))
    go_upto_region 22 with (fail)
    rw [HW9.out]
    clear y0 y1 y2 y3 y4 y5 y6 y7 yf0 yf1 yf2 yf3 yf4 yf5 yf6 yf7 g0 g1
    go_upto_region 22 with (fail)
    obtain ⟨D, hD⟩ : ∃ DX, (w9).drew = DX := ⟨_, rfl⟩
    have HSD := hid (HS9.out.grow (Below.refl _ _).drew)
    rw [hD] at HSD
    have HD := hid hD
    clear hD
    obtain ⟨U1, U2, hU1, hU2, d1, d2, d3, d4, d5, d6, d7, d8, d9⟩ := HSD.out.fin8 (by decide) (by decide)
    have HU1 := hid hU1
    have HU2 := hid hU2
    have D1 := hid d1
    have D2 := hid d2
    have D3 := hid d3
    have D4 := hid d4
    have D5 := hid d5
    have D6 := hid d6
    have D7 := hid d7
    have D8 := hid d8
    have D9 := hid d9
    clear hU1 hU2 d1 d2 d3 d4 d5 d6 d7 d8 d9
    haveI HNE : Nonempty (RYX 53 X Y #[.slice wa' M'.W.length wc', .slice la' M'.L.length lc', .bool M'.F] #[.int .i64 7, .bool cuts, .int .u64 ((link : Nat) : Int), .int .u64 ((at_ : Nat) : Int), .int .u64 ((key : Nat) : Int), .int .u64 ((val : Nat) : Int), .int .u64 ((hash : Nat) : Int), .int .u64 ((next : Nat) : Int)]) := ⟨⟨D, HSD.out.bx, HSD.out.by_⟩⟩
    have p0 := ryx_x HNE 0 (.slice wa' M'.W.length wc') rfl
    have p1 := ryx_x HNE 1 (.slice la' M'.L.length lc') rfl
    have p2 := ryx_x HNE 2 (.bool M'.F) rfl
    have q0 := ryx_y HNE 0 (.int .i64 7) rfl
    have q1 := ryx_y HNE 1 (.bool cuts) rfl
    have q2 := ryx_y HNE 2 (.int .u64 ((link : Nat) : Int)) rfl
    have q3 := ryx_y HNE 3 (.int .u64 ((at_ : Nat) : Int)) rfl
    have q4 := ryx_y HNE 4 (.int .u64 ((key : Nat) : Int)) rfl
    have q5 := ryx_y HNE 5 (.int .u64 ((val : Nat) : Int)) rfl
    have q6 := ryx_y HNE 6 (.int .u64 ((hash : Nat) : Int)) rfl
    have q7 := ryx_y HNE 7 (.int .u64 ((next : Nat) : Int)) rfl
    refine wp_region_mix2 (fun W => ∃ z : RYX 53 X Y #[.slice wa' M'.W.length wc', .slice la' M'.L.length lc', .bool M'.F] #[.int .i64 7, .bool cuts, .int .u64 ((link : Nat) : Int), .int .u64 ((at_ : Nat) : Int), .int .u64 ((key : Nat) : Int), .int .u64 ((val : Nat) : Int), .int .u64 ((hash : Nat) : Int), .int .u64 ((next : Nat) : Int)], W = z.w) 4 (.q 0 (.q 1 (.h 2 (.h 3 .done)))) (by kernel_rfl) (by kernel_rfl) (by rw [HD.out]; exact ⟨⟨D, HSD.out.bx, HSD.out.by_⟩, rfl⟩) ?_
    rw [HD.out]
    repeat (refine wpMix2_q rfl rfl ?_; go_big_quiet_step (fail); refine wpQuiet_nil ?_)
    obtain ⟨z0, zf0, z1, zf1, z2, zf2⟩ := fcl3 HSD.out.bz
    refine wpMix2_h rfl fun R' hR' hO => ?_
    go_wp2
    rw [← HU1.out]
    refine hR' _ _ ⟨⟨U1, D1.out, D2.out⟩, rfl⟩ ?_
    clear hR' hO R' z0 z1 z2 zf0 zf1 zf2
    obtain ⟨z0, zf0, z1, zf1, z2, zf2, z3, zf3, z4, zf4, z5, zf5, z6, zf6, z7, zf7⟩ := fcl8 D3.out
    refine wpMix2_h rfl fun R' hR' hO => ?_
    go_wp2
    rw [← HU2.out]
    refine hR' _ _ ⟨⟨U2, D4.out, D5.out⟩, rfl⟩ ?_
    clear hR' hO R' z0 z1 z2 z3 z4 z5 z6 z7 zf0 zf1 zf2 zf3 zf4 zf5 zf6 zf7
    refine wpMix2_done ?_
    simp only [List.drop_succ_cons, List.drop_nil]
    go_wp2
    refine bodyPost_ret (EditStep_result D6.out rfl D7.out rfl) rfl ?_
    rw [HRES.out]
    exact ⟨wa', wc', la', lc', rfl, D8.out, D9.out, KW.out, KL.out⟩
  | true =>
    obtain ⟨y0, yf0, y1, yf1, y2, yf2, y3, yf3, y4, yf4, y5, yf5, y6, yf6, y7, yf7⟩ := fcl8 HS8.out.by_
    obtain ⟨g0, g1⟩ := ncl2 KB.out
    obtain ⟨w9, hw9⟩ : ∃ W, (w8.setCell ⟨Y, 0, none⟩ (.int .i64 2)) = W := ⟨_, rfl⟩
    have HS9 : Hid (Sq 53 #[.int .i64 0, .bool false, .int .u64 0, .int .u64 0, .int .u64 0, .int .u64 0, .int .u64 0, .int .u64 0] V X Y Z G wa' wc' la' lc' M' #[.int .i64 2, .bool cuts, .int .u64 ((link : Nat) : Int), .int .u64 ((at_ : Nat) : Int), .int .u64 ((key : Nat) : Int), .int .u64 ((val : Nat) : Int), .int .u64 ((hash : Nat) : Int), .int .u64 ((next : Nat) : Int)] w9) := hid (by rw [← hw9]; exact (HS8.out.setY (i := 0) (v := .int .i64 2) (cs' := #[.int .i64 2, .bool cuts, .int .u64 ((link : Nat) : Int), .int .u64 ((at_ : Nat) : Int), .int .u64 ((key : Nat) : Int), .int .u64 ((val : Nat) : Int), .int .u64 ((hash : Nat) : Int), .int .u64 ((next : Nat) : Int)]) rfl))
    have HW9 := hid hw9
    clear hw9
    have HRES : Hid (editE M (⟨1, cuts, link, at_, key, val, hash, next⟩ : Ede) = (M', ⟨2, cuts, link, at_, key, val, hash, next⟩, true)) := hid (HSE.out.trans (by rw [if_pos rfl]))
    go_upto_region 26 with (fail)
    rw [HW9.out]
    clear y0 y1 y2 y3 y4 y5 y6 y7 yf0 yf1 yf2 yf3 yf4 yf5 yf6 yf7 g0 g1
    go_upto_region 26 with (fail)
    obtain ⟨D, hD⟩ : ∃ DX, (w9).drew = DX := ⟨_, rfl⟩
    have HSD := hid (HS9.out.grow (Below.refl _ _).drew)
    rw [hD] at HSD
    have HD := hid hD
    clear hD
    obtain ⟨U1, U2, hU1, hU2, d1, d2, d3, d4, d5, d6, d7, d8, d9⟩ := HSD.out.fin8 (by decide) (by decide)
    have HU1 := hid hU1
    have HU2 := hid hU2
    have D1 := hid d1
    have D2 := hid d2
    have D3 := hid d3
    have D4 := hid d4
    have D5 := hid d5
    have D6 := hid d6
    have D7 := hid d7
    have D8 := hid d8
    have D9 := hid d9
    clear hU1 hU2 d1 d2 d3 d4 d5 d6 d7 d8 d9
    haveI HNE : Nonempty (RYX 53 X Y #[.slice wa' M'.W.length wc', .slice la' M'.L.length lc', .bool M'.F] #[.int .i64 2, .bool cuts, .int .u64 ((link : Nat) : Int), .int .u64 ((at_ : Nat) : Int), .int .u64 ((key : Nat) : Int), .int .u64 ((val : Nat) : Int), .int .u64 ((hash : Nat) : Int), .int .u64 ((next : Nat) : Int)]) := ⟨⟨D, HSD.out.bx, HSD.out.by_⟩⟩
    have p0 := ryx_x HNE 0 (.slice wa' M'.W.length wc') rfl
    have p1 := ryx_x HNE 1 (.slice la' M'.L.length lc') rfl
    have p2 := ryx_x HNE 2 (.bool M'.F) rfl
    have q0 := ryx_y HNE 0 (.int .i64 2) rfl
    have q1 := ryx_y HNE 1 (.bool cuts) rfl
    have q2 := ryx_y HNE 2 (.int .u64 ((link : Nat) : Int)) rfl
    have q3 := ryx_y HNE 3 (.int .u64 ((at_ : Nat) : Int)) rfl
    have q4 := ryx_y HNE 4 (.int .u64 ((key : Nat) : Int)) rfl
    have q5 := ryx_y HNE 5 (.int .u64 ((val : Nat) : Int)) rfl
    have q6 := ryx_y HNE 6 (.int .u64 ((hash : Nat) : Int)) rfl
    have q7 := ryx_y HNE 7 (.int .u64 ((next : Nat) : Int)) rfl
    refine wp_region_mix2 (fun W => ∃ z : RYX 53 X Y #[.slice wa' M'.W.length wc', .slice la' M'.L.length lc', .bool M'.F] #[.int .i64 2, .bool cuts, .int .u64 ((link : Nat) : Int), .int .u64 ((at_ : Nat) : Int), .int .u64 ((key : Nat) : Int), .int .u64 ((val : Nat) : Int), .int .u64 ((hash : Nat) : Int), .int .u64 ((next : Nat) : Int)], W = z.w) 4 (.q 0 (.q 1 (.h 2 (.h 3 .done)))) (by kernel_rfl) (by kernel_rfl) (by rw [HD.out]; exact ⟨⟨D, HSD.out.bx, HSD.out.by_⟩, rfl⟩) ?_
    rw [HD.out]
    repeat (refine wpMix2_q rfl rfl ?_; go_big_quiet_step (fail); refine wpQuiet_nil ?_)
    obtain ⟨z0, zf0, z1, zf1, z2, zf2⟩ := fcl3 HSD.out.bz
    refine wpMix2_h rfl fun R' hR' hO => ?_
    go_wp2
    rw [← HU1.out]
    refine hR' _ _ ⟨⟨U1, D1.out, D2.out⟩, rfl⟩ ?_
    clear hR' hO R' z0 z1 z2 zf0 zf1 zf2
    obtain ⟨z0, zf0, z1, zf1, z2, zf2, z3, zf3, z4, zf4, z5, zf5, z6, zf6, z7, zf7⟩ := fcl8 D3.out
    refine wpMix2_h rfl fun R' hR' hO => ?_
    go_wp2
    rw [← HU2.out]
    refine hR' _ _ ⟨⟨U2, D4.out, D5.out⟩, rfl⟩ ?_
    clear hR' hO R' z0 z1 z2 z3 z4 z5 z6 z7 zf0 zf1 zf2 zf3 zf4 zf5 zf6 zf7
    refine wpMix2_done ?_
    simp only [List.drop_succ_cons, List.drop_nil]
    go_wp2
    refine bodyPost_ret (EditStep_result D6.out rfl D7.out rfl) rfl ?_
    rw [HRES.out]
    exact ⟨wa', wc', la', lc', rfl, D8.out, D9.out, KW.out, KL.out⟩
set_option maxRecDepth 100000 in
set_option maxHeartbeats 8000000 in
theorem redit2_any (M : Mem) (s : Ede) (wa la : Option Addr) (wc lc : Nat) (V : World) (h : MemL V wa wc la lc M) (hok : okM M = true) (hs : s.Ok) (hph : s.ph = 2) :
    Calls Try.prog 27 #[memV wa wc la lc M, edV s] V (GivesRE wa la ((editE M s).1, (editE M s).2.1) V) := by
  obtain ⟨ph, cuts, link, at_, key, val, hash, next⟩ := s
  obtain rfl : ph = 2 := hph
  obtain ⟨V1, hV1, hbV1, hsV1, hlV1⟩ := laid V #[.slice wa M.W.length wc, .slice la M.L.length lc, .bool M.F] 25
  obtain ⟨V2, hV2, hbV2, hsV2, hlV2⟩ := laid V1 #[.int .i64 2, .bool cuts, .int .u64 ((link : Nat) : Int), .int .u64 ((at_ : Nat) : Int), .int .u64 ((key : Nat) : Int), .int .u64 ((val : Nat) : Int), .int .u64 ((hash : Nat) : Int), .int .u64 ((next : Nat) : Int)] 53
  obtain ⟨V3, hV3, hbV3, hsV3, hlV3⟩ := laid V2 #[.slice none 0 0, .slice none 0 0, .bool false] 25
  obtain ⟨V4, hV4, hbV4, hsV4, hlV4⟩ := laid V3 #[.int .i64 0, .bool false, .int .u64 0, .int .u64 0, .int .u64 0, .int .u64 0, .int .u64 0, .int .u64 0] 53
  obtain ⟨V5, hV5, hbV5, hsV5, hlV5⟩ := laid V4 #[.int .i64 0, .int .i64 0, .int .u64 0, .int .u64 0] 73
  obtain ⟨X, hX⟩ : ∃ X, V.heap.size = X := ⟨_, rfl⟩
  rw [hX] at hlV1
  obtain ⟨Y, hY⟩ : ∃ X, V1.heap.size = X := ⟨_, rfl⟩
  rw [hY] at hlV2
  obtain ⟨Z, hZ⟩ : ∃ X, V2.heap.size = X := ⟨_, rfl⟩
  rw [hZ] at hlV3
  obtain ⟨G, hG⟩ : ∃ X, V3.heap.size = X := ⟨_, rfl⟩
  rw [hG] at hlV4
  obtain ⟨A, hA⟩ : ∃ X, V4.heap.size = X := ⟨_, rfl⟩
  rw [hA] at hlV5
  have KX := hid (keep_laid (keep_laid (keep_laid (keep_laid hlV1 hbV2) hbV3) hbV4) hbV5)
  have KY := hid (keep_laid (keep_laid (keep_laid hlV2 hbV3) hbV4) hbV5)
  have KZ := hid (keep_laid (keep_laid hlV3 hbV4) hbV5)
  have KG := hid (keep_laid hlV4 hbV5)
  have KA := hid hlV5
  have HB := hid (step (step (step (step hbV1 hbV2) hbV3) hbV4) hbV5)
  have hVX : V.heap.size ≤ X := by omega
  have hVY : V.heap.size ≤ Y := by omega
  have nXY : X < Y := by omega
  have hVZ : V.heap.size ≤ Z := by omega
  have nXZ : X < Z := by omega
  have nYZ : Y < Z := by omega
  have hVG : V.heap.size ≤ G := by omega
  have nXG : X < G := by omega
  have nYG : Y < G := by omega
  have nZG : Z < G := by omega
  have hVA : V.heap.size ≤ A := by omega
  have nXA : X < A := by omega
  have nYA : Y < A := by omega
  have nZA : Z < A := by omega
  have nGA : G < A := by omega
  clear hbV1 hsV1 hlV1 hbV2 hsV2 hlV2 hbV3 hsV3 hlV3 hbV4 hsV4 hlV4 hbV5 hsV5 hlV5
  obtain ⟨aw, al⟩ := h.low hok (X := X) (G := G) (by omega)
  have HLW := hid (h.lowA hok)
  have HS5 := hid (show Sq 53 #[.int .i64 0, .bool false, .int .u64 0, .int .u64 0, .int .u64 0, .int .u64 0, .int .u64 0, .int .u64 0] V X Y Z G wa wc la lc M #[.int .i64 2, .bool cuts, .int .u64 ((link : Nat) : Int), .int .u64 ((at_ : Nat) : Int), .int .u64 ((key : Nat) : Int), .int .u64 ((val : Nat) : Int), .int .u64 ((hash : Nat) : Int), .int .u64 ((next : Nat) : Int)] V5 from ⟨KX.out, KY.out, KZ.out, KG.out, h.grow HB.out, aw, al, HB.out, by omega⟩)
  obtain ⟨V6, hV6, a1, a2, a3⟩ := put4 KA.out (.int .i64 2) (.int .i64 0) (.int .u64 0) (.int .u64 0)
  have HS6 := hid (HS5.out.keep nGA (HLW.out.1.apart hVA) (HLW.out.2.apart hVA) a2 (a3 _ _ hVA HB.out))
  have KA6 := hid a1
  have HV6 := hid hV6
  clear hV6 a1 a2 a3
  have hwl := h.w.len
  have hll := h.l.len
  have HSO := hid hs
  have HOK := hid hok
  unfold memV edV
  dsimp only
  have y0 := cell_laid (i := 0) KY.out rfl
  obtain ⟨a0, af0, a1, af1, a2, af2, a3, af3⟩ := fcl4 KA.out
  obtain ⟨⟨M', x, d⟩, hX⟩ : ∃ X, stepM M true ((posL at_ 3 : Nat) : Int) hash = X := ⟨_, rfl⟩
  have HSE : Hid (editE M (⟨2, cuts, link, at_, key, val, hash, next⟩ : Ede) = (M', (if d = true then (⟨3, cuts, link, at_, key, val, hash, next⟩ : Ede) else (⟨7, cuts, link, at_, key, val, hash, next⟩ : Ede)), true)) := hid (by
    have e0 : editE M (⟨2, cuts, link, at_, key, val, hash, next⟩ : Ede) = ((stepM M true ((posL at_ 3 : Nat) : Int) hash).1, (if (stepM M true ((posL at_ 3 : Nat) : Int) hash).2.2 = true then (⟨3, cuts, link, at_, key, val, hash, next⟩ : Ede) else (⟨7, cuts, link, at_, key, val, hash, next⟩ : Ede)), true) := by
      unfold editE; rw [if_neg (show ¬ ((6 : Int) ≤ 2) by decide)]; rfl
    rw [e0, hX])
  obtain ⟨P, hP⟩ : ∃ q, posL at_ 3 = q := ⟨_, rfl⟩
  have HAT := hid (fun W => rat_any at_ 3 W hs.at_ (by decide))
  rw [hP] at HAT
  have hp : P ≤ 5000 := by rw [← hP]; exact posL_le _ _ (by decide)
  have HST : Hid (∀ W, MemL W wa wc la lc M → Calls Try.prog 56 #[.agg #[.slice wa M.W.length wc, .slice la M.L.length lc, .bool M.F], .agg #[.int .i64 2, .int .i64 ((P : Nat) : Int), .int .u64 0, .int .u64 ((hash : Nat) : Int)]] W (GivesR wa la M' x d W)) := hid (fun W hm => by
    have := RefStep_any M wa la wc lc true 2 ((posL at_ 3 : Nat) : Int) 0 hash W hm hok (by rw [hP]; omega) rfl
    rw [hX, hP] at this
    exact this)
  have HLM : Hid (1 ≤ M'.W.length ∧ 1 ≤ M'.L.length) := hid (by have e1 := stepM_len M true ((posL at_ 3 : Nat) : Int) hash; have e2 := stepM_L M true ((posL at_ 3 : Nat) : Int) hash; rw [hX] at e1 e2; dsimp only at e1 e2; obtain ⟨a, b, d, -⟩ := okM_spec hok; rw [e2]; omega)
  clear h hok hs aw al KX KY KZ KG HB hX hP
  go_enter Try.func27, Try.ntmps27
  go_upto_region 2 with (fail)
  rw [← HV6.out]
  clear y0 a0 a1 a2 a3 af0 af1 af2 af3
  have y0 := cell_laid (i := 0) HS6.out.by_ rfl
  go_upto_region 10 with (fail)
  obtain ⟨D, hD⟩ : ∃ DX, V6.drew = DX := ⟨_, rfl⟩
  have hbD : Below V6.heap.size V6 D := by rw [← hD]; exact (Below.refl _ _).drew
  have HSD := hid (HS6.out.grow hbD)
  have KAD := hid (keep_laid KA6.out hbD)
  have HD := hid hD
  clear hD hbD
  obtain ⟨U1, hU1⟩ : ∃ W, D.setCell ⟨A, 1, none⟩ (.int .i64 ((P : Nat) : Int)) = W := ⟨_, rfl⟩
  have HSU1 := hid (HSD.out.keep (W' := U1) nGA (HLW.out.1.apart hVA) (HLW.out.2.apart hVA) (fun k o hk ho => by rw [← hU1]; exact other_laid ho hk _) (by rw [← hU1]; exact HSD.out.below.setCell (p := ⟨A, 1, none⟩) hVA _))
  have KA1 : Hid (U1.heap[A]? = some (.cells #[.int .i64 2, .int .i64 ((P : Nat) : Int), .int .u64 0, .int .u64 0] 73 (0, 0))) := hid (by rw [← hU1]; exact set_laid (i := 1) KAD.out _)
  obtain ⟨U2, hU2⟩ : ∃ W, U1.setCell ⟨A, 3, none⟩ (.int .u64 ((hash : Nat) : Int)) = W := ⟨_, rfl⟩
  have HSU2 := hid (HSU1.out.keep (W' := U2) nGA (HLW.out.1.apart hVA) (HLW.out.2.apart hVA) (fun k o hk ho => by rw [← hU2]; exact other_laid ho hk _) (by rw [← hU2]; exact HSU1.out.below.setCell (p := ⟨A, 3, none⟩) hVA _))
  have KA2 : Hid (U2.heap[A]? = some (.cells #[.int .i64 2, .int .i64 ((P : Nat) : Int), .int .u64 0, .int .u64 ((hash : Nat) : Int)] 73 (0, 0))) := hid (by rw [← hU2]; exact set_laid (i := 3) KA1.out _)
  have HU1 := hid hU1
  have HU2 := hid hU2
  clear hU1 hU2 y0
  haveI HNE : Nonempty (RY1 53 Y #[.int .i64 2, .bool cuts, .int .u64 ((link : Nat) : Int), .int .u64 ((at_ : Nat) : Int), .int .u64 ((key : Nat) : Int), .int .u64 ((val : Nat) : Int), .int .u64 ((hash : Nat) : Int), .int .u64 ((next : Nat) : Int)]) := ⟨⟨D, HSD.out.by_⟩⟩
  have q0 := ry1_y HNE 0 (.int .i64 2) rfl
  have q1 := ry1_y HNE 1 (.bool cuts) rfl
  have q2 := ry1_y HNE 2 (.int .u64 ((link : Nat) : Int)) rfl
  have q3 := ry1_y HNE 3 (.int .u64 ((at_ : Nat) : Int)) rfl
  have q4 := ry1_y HNE 4 (.int .u64 ((key : Nat) : Int)) rfl
  have q5 := ry1_y HNE 5 (.int .u64 ((val : Nat) : Int)) rfl
  have q6 := ry1_y HNE 6 (.int .u64 ((hash : Nat) : Int)) rfl
  have q7 := ry1_y HNE 7 (.int .u64 ((next : Nat) : Int)) rfl
  refine wp_region_mix2 (fun W => ∃ z : RY1 53 Y #[.int .i64 2, .bool cuts, .int .u64 ((link : Nat) : Int), .int .u64 ((at_ : Nat) : Int), .int .u64 ((key : Nat) : Int), .int .u64 ((val : Nat) : Int), .int .u64 ((hash : Nat) : Int), .int .u64 ((next : Nat) : Int)], W = z.w) 11 (.q 0 (.q 1 (.q 2 (.q 4 (.q 5 (.q 6 (.h 3 (.q 7 (.h 8 (.q 9 (.h 10 .done))))))))))) (by kernel_rfl) (by kernel_rfl) (by rw [HD.out]; exact ⟨⟨D, HSD.out.by_⟩, rfl⟩) ?_
  rw [HD.out]
  repeat (refine wpMix2_q rfl rfl ?_; go_big_quiet_step (fail); refine wpQuiet_nil ?_)
  refine wpMix2_h rfl fun R' hR' hO => ?_
  go_wp2_with fail
  refine (HAT.out D).mono ?_
  rintro e wq ⟨rfl, hwq⟩
  rw [hwq]
  clear hwq wq
  go_wp2
  refine hR' _ _ ⟨⟨D, HSD.out.by_⟩, rfl⟩ ?_
  clear hR' hO R'
  repeat (refine wpMix2_q rfl rfl ?_; go_big_quiet_step (fail); refine wpQuiet_nil ?_)
  have a1 := cell_laid (i := 1) KAD.out rfl
  have af1 := free_laid (i := 1) KAD.out
  refine wpMix2_h rfl fun R' hR' hO => ?_
  go_wp2
  rw [HU1.out]
  refine hR' _ _ ⟨⟨U1, HSU1.out.by_⟩, rfl⟩ ?_
  clear hR' hO R' a1 af1
  repeat (refine wpMix2_q rfl rfl ?_; go_big_quiet_step (fail); refine wpQuiet_nil ?_)
  have a3 := cell_laid (i := 3) KA1.out rfl
  have af3 := free_laid (i := 3) KA1.out
  refine wpMix2_h rfl fun R' hR' hO => ?_
  go_wp2
  rw [HU2.out]
  refine hR' _ _ ⟨⟨U2, HSU2.out.by_⟩, rfl⟩ ?_
  clear hR' hO R' a3 af3
  refine wpMix2_done ?_
  simp only [List.drop_succ_cons, List.drop_nil]
  clear q0 q1 q2 q3 q4 q5 q6 q7
  obtain ⟨p0, p1, p2⟩ := cells3 HSU2.out.bx
  obtain ⟨a0, a1, a2, a3⟩ := ncl4 KA2.out
  go_wp2_with fail
  refine (HST.out U2 HSU2.out.mem).mono ?_
  rintro e w5 ⟨wa', wc', la', lc', rfl, hm, hb5, kw, kl⟩
  have hG4 : G < U2.heap.size := lt_laid HSU2.out.bg
  have hVD := HSU2.out.below.size
  have hA4 : A < U2.heap.size := lt_laid KA2.out
  obtain ⟨w6, hw6, hb6, hs6, hl6⟩ := laid w5 #[.int .u64 0, .bool false] 69
  obtain ⟨B, hB⟩ : ∃ X, w5.heap.size = X := ⟨_, rfl⟩
  rw [hB] at hl6
  have ap : apartA wa' B ∧ apartA la' B := by
    have e1 := hm.w
    have e2 := hm.l
    constructor
    · rintro b off rfl rfl
      obtain ⟨_, _, ⟨q, _⟩ | ⟨b', o', q, q2, _⟩⟩ := e1
      · have := HLM.out; omega
      · cases q; omega
    · rintro b off rfl rfl
      obtain ⟨_, _, ⟨q, _⟩ | ⟨b', o', q, q2, _⟩⟩ := e2
      · have := HLM.out; omega
      · cases q; omega
  obtain ⟨w7, hw7, hS7, hk7⟩ := ((HSU2.out.grow hb5).grow hb6).putX (hm.grow hb6) (HSU2.out.aw.kept kw hG4) (HSU2.out.al.kept kl hG4)
  have hGB : G < B := by have := hb5.size; omega
  have hXB : X < B := by omega
  have hl7 := hk7 B _ (by omega) hl6
  obtain ⟨w8, hw8, b1, b2, b3⟩ := put_got hl7 (by decide) (by decide) (.int .u64 ((x : Nat) : Int)) (.bool d)
  have HS8 := hid (hS7.keep hGB ap.1 ap.2 b2 (b3.1 _ _ (by have := hVD; have := hb5.size; omega) hS7.below))
  have KB := hid b1
  have KW := hid (kw.mono hVD)
  have KL := hid (kl.mono hVD)
  have HW7 := hid hw7
  have HW8 := hid hw8
  have hwl' := hm.w.len
  have hll' := hm.l.len
  have hXnB : X ≠ B := by omega
  have hBnX : B ≠ X := by omega
  obtain ⟨x0, x1, x2⟩ := cells3 ((HSU2.out.grow hb5).grow hb6).bx
  have xf0 := free_laid (i := 0) ((HSU2.out.grow hb5).grow hb6).bx
  have xf1 := free_laid (i := 1) ((HSU2.out.grow hb5).grow hb6).bx
  have xf2 := free_laid (i := 2) ((HSU2.out.grow hb5).grow hb6).bx
  obtain ⟨g0, gf0, g1, gf1⟩ := fcl2 hl6
  clear hm hb5 kw kl hs6 hb6 hl6 hS7 hk7 hl7 b1 b2 b3 hw7 hw8 ap p0 p1 p2 a0 a1 a2 a3
  unfold memV
  go_upto_region 20 with (fail)
  rw [← HW7.out, ← HW8.out]
  clear x0 x1 x2 xf0 xf1 xf2 g0 g1 gf0 gf1
  cases d with
  | false =>
    obtain ⟨y0, yf0, y1, yf1, y2, yf2, y3, yf3, y4, yf4, y5, yf5, y6, yf6, y7, yf7⟩ := fcl8 HS8.out.by_
    obtain ⟨g0, g1⟩ := ncl2 KB.out
    obtain ⟨w9, hw9⟩ : ∃ W, (w8.setCell ⟨Y, 0, none⟩ (.int .i64 7)) = W := ⟨_, rfl⟩
    have HS9 : Hid (Sq 53 #[.int .i64 0, .bool false, .int .u64 0, .int .u64 0, .int .u64 0, .int .u64 0, .int .u64 0, .int .u64 0] V X Y Z G wa' wc' la' lc' M' #[.int .i64 7, .bool cuts, .int .u64 ((link : Nat) : Int), .int .u64 ((at_ : Nat) : Int), .int .u64 ((key : Nat) : Int), .int .u64 ((val : Nat) : Int), .int .u64 ((hash : Nat) : Int), .int .u64 ((next : Nat) : Int)] w9) := hid (by rw [← hw9]; exact (HS8.out.setY (i := 0) (v := .int .i64 7) (cs' := #[.int .i64 7, .bool cuts, .int .u64 ((link : Nat) : Int), .int .u64 ((at_ : Nat) : Int), .int .u64 ((key : Nat) : Int), .int .u64 ((val : Nat) : Int), .int .u64 ((hash : Nat) : Int), .int .u64 ((next : Nat) : Int)]) rfl))
    have HW9 := hid hw9
    clear hw9
    have HRES : Hid (editE M (⟨2, cuts, link, at_, key, val, hash, next⟩ : Ede) = (M', ⟨7, cuts, link, at_, key, val, hash, next⟩, true)) := hid (HSE.out.trans (by rw [if_neg (by decide)]))
    go_upto_region 22 with (fail)
    rw [HW9.out]
    clear y0 y1 y2 y3 y4 y5 y6 y7 yf0 yf1 yf2 yf3 yf4 yf5 yf6 yf7 g0 g1
    go_upto_region 22 with (fail)
    obtain ⟨D, hD⟩ : ∃ DX, (w9).drew = DX := ⟨_, rfl⟩
    have HSD := hid (HS9.out.grow (Below.refl _ _).drew)
    rw [hD] at HSD
    have HD := hid hD
    clear hD
    obtain ⟨U1, U2, hU1, hU2, d1, d2, d3, d4, d5, d6, d7, d8, d9⟩ := HSD.out.fin8 (by decide) (by decide)
    have HU1 := hid hU1
    have HU2 := hid hU2
    have D1 := hid d1
    have D2 := hid d2
    have D3 := hid d3
    have D4 := hid d4
    have D5 := hid d5
    have D6 := hid d6
    have D7 := hid d7
    have D8 := hid d8
    have D9 := hid d9
    clear hU1 hU2 d1 d2 d3 d4 d5 d6 d7 d8 d9
    haveI HNE : Nonempty (RYX 53 X Y #[.slice wa' M'.W.length wc', .slice la' M'.L.length lc', .bool M'.F] #[.int .i64 7, .bool cuts, .int .u64 ((link : Nat) : Int), .int .u64 ((at_ : Nat) : Int), .int .u64 ((key : Nat) : Int), .int .u64 ((val : Nat) : Int), .int .u64 ((hash : Nat) : Int), .int .u64 ((next : Nat) : Int)]) := ⟨⟨D, HSD.out.bx, HSD.out.by_⟩⟩
    have p0 := ryx_x HNE 0 (.slice wa' M'.W.length wc') rfl
    have p1 := ryx_x HNE 1 (.slice la' M'.L.length lc') rfl
    have p2 := ryx_x HNE 2 (.bool M'.F) rfl
    have q0 := ryx_y HNE 0 (.int .i64 7) rfl
    have q1 := ryx_y HNE 1 (.bool cuts) rfl
    have q2 := ryx_y HNE 2 (.int .u64 ((link : Nat) : Int)) rfl
    have q3 := ryx_y HNE 3 (.int .u64 ((at_ : Nat) : Int)) rfl
    have q4 := ryx_y HNE 4 (.int .u64 ((key : Nat) : Int)) rfl
    have q5 := ryx_y HNE 5 (.int .u64 ((val : Nat) : Int)) rfl
    have q6 := ryx_y HNE 6 (.int .u64 ((hash : Nat) : Int)) rfl
    have q7 := ryx_y HNE 7 (.int .u64 ((next : Nat) : Int)) rfl
    refine wp_region_mix2 (fun W => ∃ z : RYX 53 X Y #[.slice wa' M'.W.length wc', .slice la' M'.L.length lc', .bool M'.F] #[.int .i64 7, .bool cuts, .int .u64 ((link : Nat) : Int), .int .u64 ((at_ : Nat) : Int), .int .u64 ((key : Nat) : Int), .int .u64 ((val : Nat) : Int), .int .u64 ((hash : Nat) : Int), .int .u64 ((next : Nat) : Int)], W = z.w) 4 (.q 0 (.q 1 (.h 2 (.h 3 .done)))) (by kernel_rfl) (by kernel_rfl) (by rw [HD.out]; exact ⟨⟨D, HSD.out.bx, HSD.out.by_⟩, rfl⟩) ?_
    rw [HD.out]
    repeat (refine wpMix2_q rfl rfl ?_; go_big_quiet_step (fail); refine wpQuiet_nil ?_)
    obtain ⟨z0, zf0, z1, zf1, z2, zf2⟩ := fcl3 HSD.out.bz
    refine wpMix2_h rfl fun R' hR' hO => ?_
    go_wp2
    rw [← HU1.out]
    refine hR' _ _ ⟨⟨U1, D1.out, D2.out⟩, rfl⟩ ?_
    clear hR' hO R' z0 z1 z2 zf0 zf1 zf2
    obtain ⟨z0, zf0, z1, zf1, z2, zf2, z3, zf3, z4, zf4, z5, zf5, z6, zf6, z7, zf7⟩ := fcl8 D3.out
    refine wpMix2_h rfl fun R' hR' hO => ?_
    go_wp2
    rw [← HU2.out]
    refine hR' _ _ ⟨⟨U2, D4.out, D5.out⟩, rfl⟩ ?_
    clear hR' hO R' z0 z1 z2 z3 z4 z5 z6 z7 zf0 zf1 zf2 zf3 zf4 zf5 zf6 zf7
    refine wpMix2_done ?_
    simp only [List.drop_succ_cons, List.drop_nil]
    go_wp2
    refine bodyPost_ret (EditStep_result D6.out rfl D7.out rfl) rfl ?_
    rw [HRES.out]
    exact ⟨wa', wc', la', lc', rfl, D8.out, D9.out, KW.out, KL.out⟩
  | true =>
    obtain ⟨y0, yf0, y1, yf1, y2, yf2, y3, yf3, y4, yf4, y5, yf5, y6, yf6, y7, yf7⟩ := fcl8 HS8.out.by_
    obtain ⟨g0, g1⟩ := ncl2 KB.out
    obtain ⟨w9, hw9⟩ : ∃ W, (w8.setCell ⟨Y, 0, none⟩ (.int .i64 3)) = W := ⟨_, rfl⟩
    have HS9 : Hid (Sq 53 #[.int .i64 0, .bool false, .int .u64 0, .int .u64 0, .int .u64 0, .int .u64 0, .int .u64 0, .int .u64 0] V X Y Z G wa' wc' la' lc' M' #[.int .i64 3, .bool cuts, .int .u64 ((link : Nat) : Int), .int .u64 ((at_ : Nat) : Int), .int .u64 ((key : Nat) : Int), .int .u64 ((val : Nat) : Int), .int .u64 ((hash : Nat) : Int), .int .u64 ((next : Nat) : Int)] w9) := hid (by rw [← hw9]; exact (HS8.out.setY (i := 0) (v := .int .i64 3) (cs' := #[.int .i64 3, .bool cuts, .int .u64 ((link : Nat) : Int), .int .u64 ((at_ : Nat) : Int), .int .u64 ((key : Nat) : Int), .int .u64 ((val : Nat) : Int), .int .u64 ((hash : Nat) : Int), .int .u64 ((next : Nat) : Int)]) rfl))
    have HW9 := hid hw9
    clear hw9
    have HRES : Hid (editE M (⟨2, cuts, link, at_, key, val, hash, next⟩ : Ede) = (M', ⟨3, cuts, link, at_, key, val, hash, next⟩, true)) := hid (HSE.out.trans (by rw [if_pos rfl]))
    go_upto_region 26 with (fail)
    rw [HW9.out]
    clear y0 y1 y2 y3 y4 y5 y6 y7 yf0 yf1 yf2 yf3 yf4 yf5 yf6 yf7 g0 g1
    go_upto_region 26 with (fail)
    obtain ⟨D, hD⟩ : ∃ DX, (w9).drew = DX := ⟨_, rfl⟩
    have HSD := hid (HS9.out.grow (Below.refl _ _).drew)
    rw [hD] at HSD
    have HD := hid hD
    clear hD
    obtain ⟨U1, U2, hU1, hU2, d1, d2, d3, d4, d5, d6, d7, d8, d9⟩ := HSD.out.fin8 (by decide) (by decide)
    have HU1 := hid hU1
    have HU2 := hid hU2
    have D1 := hid d1
    have D2 := hid d2
    have D3 := hid d3
    have D4 := hid d4
    have D5 := hid d5
    have D6 := hid d6
    have D7 := hid d7
    have D8 := hid d8
    have D9 := hid d9
    clear hU1 hU2 d1 d2 d3 d4 d5 d6 d7 d8 d9
    haveI HNE : Nonempty (RYX 53 X Y #[.slice wa' M'.W.length wc', .slice la' M'.L.length lc', .bool M'.F] #[.int .i64 3, .bool cuts, .int .u64 ((link : Nat) : Int), .int .u64 ((at_ : Nat) : Int), .int .u64 ((key : Nat) : Int), .int .u64 ((val : Nat) : Int), .int .u64 ((hash : Nat) : Int), .int .u64 ((next : Nat) : Int)]) := ⟨⟨D, HSD.out.bx, HSD.out.by_⟩⟩
    have p0 := ryx_x HNE 0 (.slice wa' M'.W.length wc') rfl
    have p1 := ryx_x HNE 1 (.slice la' M'.L.length lc') rfl
    have p2 := ryx_x HNE 2 (.bool M'.F) rfl
    have q0 := ryx_y HNE 0 (.int .i64 3) rfl
    have q1 := ryx_y HNE 1 (.bool cuts) rfl
    have q2 := ryx_y HNE 2 (.int .u64 ((link : Nat) : Int)) rfl
    have q3 := ryx_y HNE 3 (.int .u64 ((at_ : Nat) : Int)) rfl
    have q4 := ryx_y HNE 4 (.int .u64 ((key : Nat) : Int)) rfl
    have q5 := ryx_y HNE 5 (.int .u64 ((val : Nat) : Int)) rfl
    have q6 := ryx_y HNE 6 (.int .u64 ((hash : Nat) : Int)) rfl
    have q7 := ryx_y HNE 7 (.int .u64 ((next : Nat) : Int)) rfl
    refine wp_region_mix2 (fun W => ∃ z : RYX 53 X Y #[.slice wa' M'.W.length wc', .slice la' M'.L.length lc', .bool M'.F] #[.int .i64 3, .bool cuts, .int .u64 ((link : Nat) : Int), .int .u64 ((at_ : Nat) : Int), .int .u64 ((key : Nat) : Int), .int .u64 ((val : Nat) : Int), .int .u64 ((hash : Nat) : Int), .int .u64 ((next : Nat) : Int)], W = z.w) 4 (.q 0 (.q 1 (.h 2 (.h 3 .done)))) (by kernel_rfl) (by kernel_rfl) (by rw [HD.out]; exact ⟨⟨D, HSD.out.bx, HSD.out.by_⟩, rfl⟩) ?_
    rw [HD.out]
    repeat (refine wpMix2_q rfl rfl ?_; go_big_quiet_step (fail); refine wpQuiet_nil ?_)
    obtain ⟨z0, zf0, z1, zf1, z2, zf2⟩ := fcl3 HSD.out.bz
    refine wpMix2_h rfl fun R' hR' hO => ?_
    go_wp2
    rw [← HU1.out]
    refine hR' _ _ ⟨⟨U1, D1.out, D2.out⟩, rfl⟩ ?_
    clear hR' hO R' z0 z1 z2 zf0 zf1 zf2
    obtain ⟨z0, zf0, z1, zf1, z2, zf2, z3, zf3, z4, zf4, z5, zf5, z6, zf6, z7, zf7⟩ := fcl8 D3.out
    refine wpMix2_h rfl fun R' hR' hO => ?_
    go_wp2
    rw [← HU2.out]
    refine hR' _ _ ⟨⟨U2, D4.out, D5.out⟩, rfl⟩ ?_
    clear hR' hO R' z0 z1 z2 z3 z4 z5 z6 z7 zf0 zf1 zf2 zf3 zf4 zf5 zf6 zf7
    refine wpMix2_done ?_
    simp only [List.drop_succ_cons, List.drop_nil]
    go_wp2
    refine bodyPost_ret (EditStep_result D6.out rfl D7.out rfl) rfl ?_
    rw [HRES.out]
    exact ⟨wa', wc', la', lc', rfl, D8.out, D9.out, KW.out, KL.out⟩
set_option maxRecDepth 100000 in
set_option maxHeartbeats 8000000 in
theorem redit3_any (M : Mem) (s : Ede) (wa la : Option Addr) (wc lc : Nat) (V : World) (h : MemL V wa wc la lc M) (hok : okM M = true) (hs : s.Ok) (hph : s.ph = 3) :
    Calls Try.prog 27 #[memV wa wc la lc M, edV s] V (GivesRE wa la ((editE M s).1, (editE M s).2.1) V) := by
  obtain ⟨ph, cuts, link, at_, key, val, hash, next⟩ := s
  obtain rfl : ph = 3 := hph
  obtain ⟨V1, hV1, hbV1, hsV1, hlV1⟩ := laid V #[.slice wa M.W.length wc, .slice la M.L.length lc, .bool M.F] 25
  obtain ⟨V2, hV2, hbV2, hsV2, hlV2⟩ := laid V1 #[.int .i64 3, .bool cuts, .int .u64 ((link : Nat) : Int), .int .u64 ((at_ : Nat) : Int), .int .u64 ((key : Nat) : Int), .int .u64 ((val : Nat) : Int), .int .u64 ((hash : Nat) : Int), .int .u64 ((next : Nat) : Int)] 53
  obtain ⟨V3, hV3, hbV3, hsV3, hlV3⟩ := laid V2 #[.slice none 0 0, .slice none 0 0, .bool false] 25
  obtain ⟨V4, hV4, hbV4, hsV4, hlV4⟩ := laid V3 #[.int .i64 0, .bool false, .int .u64 0, .int .u64 0, .int .u64 0, .int .u64 0, .int .u64 0, .int .u64 0] 53
  obtain ⟨V5, hV5, hbV5, hsV5, hlV5⟩ := laid V4 #[.int .i64 0, .int .i64 0, .int .u64 0, .int .u64 0] 73
  obtain ⟨X, hX⟩ : ∃ X, V.heap.size = X := ⟨_, rfl⟩
  rw [hX] at hlV1
  obtain ⟨Y, hY⟩ : ∃ X, V1.heap.size = X := ⟨_, rfl⟩
  rw [hY] at hlV2
  obtain ⟨Z, hZ⟩ : ∃ X, V2.heap.size = X := ⟨_, rfl⟩
  rw [hZ] at hlV3
  obtain ⟨G, hG⟩ : ∃ X, V3.heap.size = X := ⟨_, rfl⟩
  rw [hG] at hlV4
  obtain ⟨A, hA⟩ : ∃ X, V4.heap.size = X := ⟨_, rfl⟩
  rw [hA] at hlV5
  have KX := hid (keep_laid (keep_laid (keep_laid (keep_laid hlV1 hbV2) hbV3) hbV4) hbV5)
  have KY := hid (keep_laid (keep_laid (keep_laid hlV2 hbV3) hbV4) hbV5)
  have KZ := hid (keep_laid (keep_laid hlV3 hbV4) hbV5)
  have KG := hid (keep_laid hlV4 hbV5)
  have KA := hid hlV5
  have HB := hid (step (step (step (step hbV1 hbV2) hbV3) hbV4) hbV5)
  have hVX : V.heap.size ≤ X := by omega
  have hVY : V.heap.size ≤ Y := by omega
  have nXY : X < Y := by omega
  have hVZ : V.heap.size ≤ Z := by omega
  have nXZ : X < Z := by omega
  have nYZ : Y < Z := by omega
  have hVG : V.heap.size ≤ G := by omega
  have nXG : X < G := by omega
  have nYG : Y < G := by omega
  have nZG : Z < G := by omega
  have hVA : V.heap.size ≤ A := by omega
  have nXA : X < A := by omega
  have nYA : Y < A := by omega
  have nZA : Z < A := by omega
  have nGA : G < A := by omega
  clear hbV1 hsV1 hlV1 hbV2 hsV2 hlV2 hbV3 hsV3 hlV3 hbV4 hsV4 hlV4 hbV5 hsV5 hlV5
  obtain ⟨aw, al⟩ := h.low hok (X := X) (G := G) (by omega)
  have HLW := hid (h.lowA hok)
  have HS5 := hid (show Sq 53 #[.int .i64 0, .bool false, .int .u64 0, .int .u64 0, .int .u64 0, .int .u64 0, .int .u64 0, .int .u64 0] V X Y Z G wa wc la lc M #[.int .i64 3, .bool cuts, .int .u64 ((link : Nat) : Int), .int .u64 ((at_ : Nat) : Int), .int .u64 ((key : Nat) : Int), .int .u64 ((val : Nat) : Int), .int .u64 ((hash : Nat) : Int), .int .u64 ((next : Nat) : Int)] V5 from ⟨KX.out, KY.out, KZ.out, KG.out, h.grow HB.out, aw, al, HB.out, by omega⟩)
  obtain ⟨V6, hV6, a1, a2, a3⟩ := put4 KA.out (.int .i64 2) (.int .i64 0) (.int .u64 0) (.int .u64 0)
  have HS6 := hid (HS5.out.keep nGA (HLW.out.1.apart hVA) (HLW.out.2.apart hVA) a2 (a3 _ _ hVA HB.out))
  have KA6 := hid a1
  have HV6 := hid hV6
  clear hV6 a1 a2 a3
  have hwl := h.w.len
  have hll := h.l.len
  have HSO := hid hs
  have HOK := hid hok
  unfold memV edV
  dsimp only
  have y0 := cell_laid (i := 0) KY.out rfl
  obtain ⟨a0, af0, a1, af1, a2, af2, a3, af3⟩ := fcl4 KA.out
  obtain ⟨⟨M', x, d⟩, hX⟩ : ∃ X, stepM M true ((posL at_ 2 : Nat) : Int) next = X := ⟨_, rfl⟩
  have HSE : Hid (editE M (⟨3, cuts, link, at_, key, val, hash, next⟩ : Ede) = (M', (if d = true then (⟨5, cuts, link, at_, key, val, hash, next⟩ : Ede) else (⟨7, cuts, link, at_, key, val, hash, next⟩ : Ede)), true)) := hid (by
    have e0 : editE M (⟨3, cuts, link, at_, key, val, hash, next⟩ : Ede) = ((stepM M true ((posL at_ 2 : Nat) : Int) next).1, (if (stepM M true ((posL at_ 2 : Nat) : Int) next).2.2 = true then (⟨5, cuts, link, at_, key, val, hash, next⟩ : Ede) else (⟨7, cuts, link, at_, key, val, hash, next⟩ : Ede)), true) := by
      unfold editE; rw [if_neg (show ¬ ((6 : Int) ≤ 3) by decide)]; rfl
    rw [e0, hX])
  obtain ⟨P, hP⟩ : ∃ q, posL at_ 2 = q := ⟨_, rfl⟩
  have HAT := hid (fun W => rat_any at_ 2 W hs.at_ (by decide))
  rw [hP] at HAT
  have hp : P ≤ 5000 := by rw [← hP]; exact posL_le _ _ (by decide)
  have HST : Hid (∀ W, MemL W wa wc la lc M → Calls Try.prog 56 #[.agg #[.slice wa M.W.length wc, .slice la M.L.length lc, .bool M.F], .agg #[.int .i64 2, .int .i64 ((P : Nat) : Int), .int .u64 0, .int .u64 ((next : Nat) : Int)]] W (GivesR wa la M' x d W)) := hid (fun W hm => by
    have := RefStep_any M wa la wc lc true 2 ((posL at_ 2 : Nat) : Int) 0 next W hm hok (by rw [hP]; omega) rfl
    rw [hX, hP] at this
    exact this)
  have HLM : Hid (1 ≤ M'.W.length ∧ 1 ≤ M'.L.length) := hid (by have e1 := stepM_len M true ((posL at_ 2 : Nat) : Int) next; have e2 := stepM_L M true ((posL at_ 2 : Nat) : Int) next; rw [hX] at e1 e2; dsimp only at e1 e2; obtain ⟨a, b, d, -⟩ := okM_spec hok; rw [e2]; omega)
  clear h hok hs aw al KX KY KZ KG HB hX hP
  go_enter Try.func27, Try.ntmps27
  go_upto_region 2 with (fail)
  rw [← HV6.out]
  clear y0 a0 a1 a2 a3 af0 af1 af2 af3
  have y0 := cell_laid (i := 0) HS6.out.by_ rfl
  go_upto_region 12 with (fail)
  obtain ⟨D, hD⟩ : ∃ DX, V6.drew = DX := ⟨_, rfl⟩
  have hbD : Below V6.heap.size V6 D := by rw [← hD]; exact (Below.refl _ _).drew
  have HSD := hid (HS6.out.grow hbD)
  have KAD := hid (keep_laid KA6.out hbD)
  have HD := hid hD
  clear hD hbD
  obtain ⟨U1, hU1⟩ : ∃ W, D.setCell ⟨A, 1, none⟩ (.int .i64 ((P : Nat) : Int)) = W := ⟨_, rfl⟩
  have HSU1 := hid (HSD.out.keep (W' := U1) nGA (HLW.out.1.apart hVA) (HLW.out.2.apart hVA) (fun k o hk ho => by rw [← hU1]; exact other_laid ho hk _) (by rw [← hU1]; exact HSD.out.below.setCell (p := ⟨A, 1, none⟩) hVA _))
  have KA1 : Hid (U1.heap[A]? = some (.cells #[.int .i64 2, .int .i64 ((P : Nat) : Int), .int .u64 0, .int .u64 0] 73 (0, 0))) := hid (by rw [← hU1]; exact set_laid (i := 1) KAD.out _)
  obtain ⟨U2, hU2⟩ : ∃ W, U1.setCell ⟨A, 3, none⟩ (.int .u64 ((next : Nat) : Int)) = W := ⟨_, rfl⟩
  have HSU2 := hid (HSU1.out.keep (W' := U2) nGA (HLW.out.1.apart hVA) (HLW.out.2.apart hVA) (fun k o hk ho => by rw [← hU2]; exact other_laid ho hk _) (by rw [← hU2]; exact HSU1.out.below.setCell (p := ⟨A, 3, none⟩) hVA _))
  have KA2 : Hid (U2.heap[A]? = some (.cells #[.int .i64 2, .int .i64 ((P : Nat) : Int), .int .u64 0, .int .u64 ((next : Nat) : Int)] 73 (0, 0))) := hid (by rw [← hU2]; exact set_laid (i := 3) KA1.out _)
  have HU1 := hid hU1
  have HU2 := hid hU2
  clear hU1 hU2 y0
  haveI HNE : Nonempty (RY1 53 Y #[.int .i64 3, .bool cuts, .int .u64 ((link : Nat) : Int), .int .u64 ((at_ : Nat) : Int), .int .u64 ((key : Nat) : Int), .int .u64 ((val : Nat) : Int), .int .u64 ((hash : Nat) : Int), .int .u64 ((next : Nat) : Int)]) := ⟨⟨D, HSD.out.by_⟩⟩
  have q0 := ry1_y HNE 0 (.int .i64 3) rfl
  have q1 := ry1_y HNE 1 (.bool cuts) rfl
  have q2 := ry1_y HNE 2 (.int .u64 ((link : Nat) : Int)) rfl
  have q3 := ry1_y HNE 3 (.int .u64 ((at_ : Nat) : Int)) rfl
  have q4 := ry1_y HNE 4 (.int .u64 ((key : Nat) : Int)) rfl
  have q5 := ry1_y HNE 5 (.int .u64 ((val : Nat) : Int)) rfl
  have q6 := ry1_y HNE 6 (.int .u64 ((hash : Nat) : Int)) rfl
  have q7 := ry1_y HNE 7 (.int .u64 ((next : Nat) : Int)) rfl
  refine wp_region_mix2 (fun W => ∃ z : RY1 53 Y #[.int .i64 3, .bool cuts, .int .u64 ((link : Nat) : Int), .int .u64 ((at_ : Nat) : Int), .int .u64 ((key : Nat) : Int), .int .u64 ((val : Nat) : Int), .int .u64 ((hash : Nat) : Int), .int .u64 ((next : Nat) : Int)], W = z.w) 11 (.q 0 (.q 1 (.q 2 (.q 4 (.q 5 (.h 3 (.q 6 (.h 7 (.q 8 (.h 9 (.q 10 .done))))))))))) (by kernel_rfl) (by kernel_rfl) (by rw [HD.out]; exact ⟨⟨D, HSD.out.by_⟩, rfl⟩) ?_
  rw [HD.out]
  repeat (refine wpMix2_q rfl rfl ?_; go_big_quiet_step (fail); refine wpQuiet_nil ?_)
  refine wpMix2_h rfl fun R' hR' hO => ?_
  go_wp2_with fail
  refine (HAT.out D).mono ?_
  rintro e wq ⟨rfl, hwq⟩
  rw [hwq]
  clear hwq wq
  go_wp2
  refine hR' _ _ ⟨⟨D, HSD.out.by_⟩, rfl⟩ ?_
  clear hR' hO R'
  repeat (refine wpMix2_q rfl rfl ?_; go_big_quiet_step (fail); refine wpQuiet_nil ?_)
  have a1 := cell_laid (i := 1) KAD.out rfl
  have af1 := free_laid (i := 1) KAD.out
  refine wpMix2_h rfl fun R' hR' hO => ?_
  go_wp2
  rw [HU1.out]
  refine hR' _ _ ⟨⟨U1, HSU1.out.by_⟩, rfl⟩ ?_
  clear hR' hO R' a1 af1
  repeat (refine wpMix2_q rfl rfl ?_; go_big_quiet_step (fail); refine wpQuiet_nil ?_)
  have a3 := cell_laid (i := 3) KA1.out rfl
  have af3 := free_laid (i := 3) KA1.out
  refine wpMix2_h rfl fun R' hR' hO => ?_
  go_wp2
  rw [HU2.out]
  refine hR' _ _ ⟨⟨U2, HSU2.out.by_⟩, rfl⟩ ?_
  clear hR' hO R' a3 af3
  repeat (refine wpMix2_q rfl rfl ?_; go_big_quiet_step (fail); refine wpQuiet_nil ?_)
  refine wpMix2_done ?_
  simp only [List.drop_succ_cons, List.drop_nil]
  clear q0 q1 q2 q3 q4 q5 q6 q7
  obtain ⟨p0, p1, p2⟩ := cells3 HSU2.out.bx
  obtain ⟨a0, a1, a2, a3⟩ := ncl4 KA2.out
  go_wp2_with fail
  refine (HST.out U2 HSU2.out.mem).mono ?_
  rintro e w5 ⟨wa', wc', la', lc', rfl, hm, hb5, kw, kl⟩
  have hG4 : G < U2.heap.size := lt_laid HSU2.out.bg
  have hVD := HSU2.out.below.size
  have hA4 : A < U2.heap.size := lt_laid KA2.out
  obtain ⟨w6, hw6, hb6, hs6, hl6⟩ := laid w5 #[.int .u64 0, .bool false] 69
  obtain ⟨B, hB⟩ : ∃ X, w5.heap.size = X := ⟨_, rfl⟩
  rw [hB] at hl6
  have ap : apartA wa' B ∧ apartA la' B := by
    have e1 := hm.w
    have e2 := hm.l
    constructor
    · rintro b off rfl rfl
      obtain ⟨_, _, ⟨q, _⟩ | ⟨b', o', q, q2, _⟩⟩ := e1
      · have := HLM.out; omega
      · cases q; omega
    · rintro b off rfl rfl
      obtain ⟨_, _, ⟨q, _⟩ | ⟨b', o', q, q2, _⟩⟩ := e2
      · have := HLM.out; omega
      · cases q; omega
  obtain ⟨w7, hw7, hS7, hk7⟩ := ((HSU2.out.grow hb5).grow hb6).putX (hm.grow hb6) (HSU2.out.aw.kept kw hG4) (HSU2.out.al.kept kl hG4)
  have hGB : G < B := by have := hb5.size; omega
  have hXB : X < B := by omega
  have hl7 := hk7 B _ (by omega) hl6
  obtain ⟨w8, hw8, b1, b2, b3⟩ := put_got hl7 (by decide) (by decide) (.int .u64 ((x : Nat) : Int)) (.bool d)
  have HS8 := hid (hS7.keep hGB ap.1 ap.2 b2 (b3.1 _ _ (by have := hVD; have := hb5.size; omega) hS7.below))
  have KB := hid b1
  have KW := hid (kw.mono hVD)
  have KL := hid (kl.mono hVD)
  have HW7 := hid hw7
  have HW8 := hid hw8
  have hwl' := hm.w.len
  have hll' := hm.l.len
  have hXnB : X ≠ B := by omega
  have hBnX : B ≠ X := by omega
  obtain ⟨x0, x1, x2⟩ := cells3 ((HSU2.out.grow hb5).grow hb6).bx
  have xf0 := free_laid (i := 0) ((HSU2.out.grow hb5).grow hb6).bx
  have xf1 := free_laid (i := 1) ((HSU2.out.grow hb5).grow hb6).bx
  have xf2 := free_laid (i := 2) ((HSU2.out.grow hb5).grow hb6).bx
  obtain ⟨g0, gf0, g1, gf1⟩ := fcl2 hl6
  clear hm hb5 kw kl hs6 hb6 hl6 hS7 hk7 hl7 b1 b2 b3 hw7 hw8 ap p0 p1 p2 a0 a1 a2 a3
  unfold memV
  go_upto_region 20 with (fail)
  rw [← HW7.out, ← HW8.out]
  clear x0 x1 x2 xf0 xf1 xf2 g0 g1 gf0 gf1
  cases d with
  | false =>
    obtain ⟨y0, yf0, y1, yf1, y2, yf2, y3, yf3, y4, yf4, y5, yf5, y6, yf6, y7, yf7⟩ := fcl8 HS8.out.by_
    obtain ⟨g0, g1⟩ := ncl2 KB.out
    obtain ⟨w9, hw9⟩ : ∃ W, (w8.setCell ⟨Y, 0, none⟩ (.int .i64 7)) = W := ⟨_, rfl⟩
    have HS9 : Hid (Sq 53 #[.int .i64 0, .bool false, .int .u64 0, .int .u64 0, .int .u64 0, .int .u64 0, .int .u64 0, .int .u64 0] V X Y Z G wa' wc' la' lc' M' #[.int .i64 7, .bool cuts, .int .u64 ((link : Nat) : Int), .int .u64 ((at_ : Nat) : Int), .int .u64 ((key : Nat) : Int), .int .u64 ((val : Nat) : Int), .int .u64 ((hash : Nat) : Int), .int .u64 ((next : Nat) : Int)] w9) := hid (by rw [← hw9]; exact (HS8.out.setY (i := 0) (v := .int .i64 7) (cs' := #[.int .i64 7, .bool cuts, .int .u64 ((link : Nat) : Int), .int .u64 ((at_ : Nat) : Int), .int .u64 ((key : Nat) : Int), .int .u64 ((val : Nat) : Int), .int .u64 ((hash : Nat) : Int), .int .u64 ((next : Nat) : Int)]) rfl))
    have HW9 := hid hw9
    clear hw9
    have HRES : Hid (editE M (⟨3, cuts, link, at_, key, val, hash, next⟩ : Ede) = (M', ⟨7, cuts, link, at_, key, val, hash, next⟩, true)) := hid (HSE.out.trans (by rw [if_neg (by decide)]))
    go_upto_region 22 with (fail)
    rw [HW9.out]
    clear y0 y1 y2 y3 y4 y5 y6 y7 yf0 yf1 yf2 yf3 yf4 yf5 yf6 yf7 g0 g1
    go_upto_region 22 with (fail)
    obtain ⟨D, hD⟩ : ∃ DX, (w9).drew = DX := ⟨_, rfl⟩
    have HSD := hid (HS9.out.grow (Below.refl _ _).drew)
    rw [hD] at HSD
    have HD := hid hD
    clear hD
    obtain ⟨U1, U2, hU1, hU2, d1, d2, d3, d4, d5, d6, d7, d8, d9⟩ := HSD.out.fin8 (by decide) (by decide)
    have HU1 := hid hU1
    have HU2 := hid hU2
    have D1 := hid d1
    have D2 := hid d2
    have D3 := hid d3
    have D4 := hid d4
    have D5 := hid d5
    have D6 := hid d6
    have D7 := hid d7
    have D8 := hid d8
    have D9 := hid d9
    clear hU1 hU2 d1 d2 d3 d4 d5 d6 d7 d8 d9
    haveI HNE : Nonempty (RYX 53 X Y #[.slice wa' M'.W.length wc', .slice la' M'.L.length lc', .bool M'.F] #[.int .i64 7, .bool cuts, .int .u64 ((link : Nat) : Int), .int .u64 ((at_ : Nat) : Int), .int .u64 ((key : Nat) : Int), .int .u64 ((val : Nat) : Int), .int .u64 ((hash : Nat) : Int), .int .u64 ((next : Nat) : Int)]) := ⟨⟨D, HSD.out.bx, HSD.out.by_⟩⟩
    have p0 := ryx_x HNE 0 (.slice wa' M'.W.length wc') rfl
    have p1 := ryx_x HNE 1 (.slice la' M'.L.length lc') rfl
    have p2 := ryx_x HNE 2 (.bool M'.F) rfl
    have q0 := ryx_y HNE 0 (.int .i64 7) rfl
    have q1 := ryx_y HNE 1 (.bool cuts) rfl
    have q2 := ryx_y HNE 2 (.int .u64 ((link : Nat) : Int)) rfl
    have q3 := ryx_y HNE 3 (.int .u64 ((at_ : Nat) : Int)) rfl
    have q4 := ryx_y HNE 4 (.int .u64 ((key : Nat) : Int)) rfl
    have q5 := ryx_y HNE 5 (.int .u64 ((val : Nat) : Int)) rfl
    have q6 := ryx_y HNE 6 (.int .u64 ((hash : Nat) : Int)) rfl
    have q7 := ryx_y HNE 7 (.int .u64 ((next : Nat) : Int)) rfl
    refine wp_region_mix2 (fun W => ∃ z : RYX 53 X Y #[.slice wa' M'.W.length wc', .slice la' M'.L.length lc', .bool M'.F] #[.int .i64 7, .bool cuts, .int .u64 ((link : Nat) : Int), .int .u64 ((at_ : Nat) : Int), .int .u64 ((key : Nat) : Int), .int .u64 ((val : Nat) : Int), .int .u64 ((hash : Nat) : Int), .int .u64 ((next : Nat) : Int)], W = z.w) 4 (.q 0 (.q 1 (.h 2 (.h 3 .done)))) (by kernel_rfl) (by kernel_rfl) (by rw [HD.out]; exact ⟨⟨D, HSD.out.bx, HSD.out.by_⟩, rfl⟩) ?_
    rw [HD.out]
    repeat (refine wpMix2_q rfl rfl ?_; go_big_quiet_step (fail); refine wpQuiet_nil ?_)
    obtain ⟨z0, zf0, z1, zf1, z2, zf2⟩ := fcl3 HSD.out.bz
    refine wpMix2_h rfl fun R' hR' hO => ?_
    go_wp2
    rw [← HU1.out]
    refine hR' _ _ ⟨⟨U1, D1.out, D2.out⟩, rfl⟩ ?_
    clear hR' hO R' z0 z1 z2 zf0 zf1 zf2
    obtain ⟨z0, zf0, z1, zf1, z2, zf2, z3, zf3, z4, zf4, z5, zf5, z6, zf6, z7, zf7⟩ := fcl8 D3.out
    refine wpMix2_h rfl fun R' hR' hO => ?_
    go_wp2
    rw [← HU2.out]
    refine hR' _ _ ⟨⟨U2, D4.out, D5.out⟩, rfl⟩ ?_
    clear hR' hO R' z0 z1 z2 z3 z4 z5 z6 z7 zf0 zf1 zf2 zf3 zf4 zf5 zf6 zf7
    refine wpMix2_done ?_
    simp only [List.drop_succ_cons, List.drop_nil]
    go_wp2
    refine bodyPost_ret (EditStep_result D6.out rfl D7.out rfl) rfl ?_
    rw [HRES.out]
    exact ⟨wa', wc', la', lc', rfl, D8.out, D9.out, KW.out, KL.out⟩
  | true =>
    obtain ⟨y0, yf0, y1, yf1, y2, yf2, y3, yf3, y4, yf4, y5, yf5, y6, yf6, y7, yf7⟩ := fcl8 HS8.out.by_
    obtain ⟨g0, g1⟩ := ncl2 KB.out
    obtain ⟨w9, hw9⟩ : ∃ W, (w8.setCell ⟨Y, 0, none⟩ (.int .i64 5)) = W := ⟨_, rfl⟩
    have HS9 : Hid (Sq 53 #[.int .i64 0, .bool false, .int .u64 0, .int .u64 0, .int .u64 0, .int .u64 0, .int .u64 0, .int .u64 0] V X Y Z G wa' wc' la' lc' M' #[.int .i64 5, .bool cuts, .int .u64 ((link : Nat) : Int), .int .u64 ((at_ : Nat) : Int), .int .u64 ((key : Nat) : Int), .int .u64 ((val : Nat) : Int), .int .u64 ((hash : Nat) : Int), .int .u64 ((next : Nat) : Int)] w9) := hid (by rw [← hw9]; exact (HS8.out.setY (i := 0) (v := .int .i64 5) (cs' := #[.int .i64 5, .bool cuts, .int .u64 ((link : Nat) : Int), .int .u64 ((at_ : Nat) : Int), .int .u64 ((key : Nat) : Int), .int .u64 ((val : Nat) : Int), .int .u64 ((hash : Nat) : Int), .int .u64 ((next : Nat) : Int)]) rfl))
    have HW9 := hid hw9
    clear hw9
    have HRES : Hid (editE M (⟨3, cuts, link, at_, key, val, hash, next⟩ : Ede) = (M', ⟨5, cuts, link, at_, key, val, hash, next⟩, true)) := hid (HSE.out.trans (by rw [if_pos rfl]))
    go_upto_region 26 with (fail)
    rw [HW9.out]
    clear y0 y1 y2 y3 y4 y5 y6 y7 yf0 yf1 yf2 yf3 yf4 yf5 yf6 yf7 g0 g1
    go_upto_region 26 with (fail)
    obtain ⟨D, hD⟩ : ∃ DX, (w9).drew = DX := ⟨_, rfl⟩
    have HSD := hid (HS9.out.grow (Below.refl _ _).drew)
    rw [hD] at HSD
    have HD := hid hD
    clear hD
    obtain ⟨U1, U2, hU1, hU2, d1, d2, d3, d4, d5, d6, d7, d8, d9⟩ := HSD.out.fin8 (by decide) (by decide)
    have HU1 := hid hU1
    have HU2 := hid hU2
    have D1 := hid d1
    have D2 := hid d2
    have D3 := hid d3
    have D4 := hid d4
    have D5 := hid d5
    have D6 := hid d6
    have D7 := hid d7
    have D8 := hid d8
    have D9 := hid d9
    clear hU1 hU2 d1 d2 d3 d4 d5 d6 d7 d8 d9
    haveI HNE : Nonempty (RYX 53 X Y #[.slice wa' M'.W.length wc', .slice la' M'.L.length lc', .bool M'.F] #[.int .i64 5, .bool cuts, .int .u64 ((link : Nat) : Int), .int .u64 ((at_ : Nat) : Int), .int .u64 ((key : Nat) : Int), .int .u64 ((val : Nat) : Int), .int .u64 ((hash : Nat) : Int), .int .u64 ((next : Nat) : Int)]) := ⟨⟨D, HSD.out.bx, HSD.out.by_⟩⟩
    have p0 := ryx_x HNE 0 (.slice wa' M'.W.length wc') rfl
    have p1 := ryx_x HNE 1 (.slice la' M'.L.length lc') rfl
    have p2 := ryx_x HNE 2 (.bool M'.F) rfl
    have q0 := ryx_y HNE 0 (.int .i64 5) rfl
    have q1 := ryx_y HNE 1 (.bool cuts) rfl
    have q2 := ryx_y HNE 2 (.int .u64 ((link : Nat) : Int)) rfl
    have q3 := ryx_y HNE 3 (.int .u64 ((at_ : Nat) : Int)) rfl
    have q4 := ryx_y HNE 4 (.int .u64 ((key : Nat) : Int)) rfl
    have q5 := ryx_y HNE 5 (.int .u64 ((val : Nat) : Int)) rfl
    have q6 := ryx_y HNE 6 (.int .u64 ((hash : Nat) : Int)) rfl
    have q7 := ryx_y HNE 7 (.int .u64 ((next : Nat) : Int)) rfl
    refine wp_region_mix2 (fun W => ∃ z : RYX 53 X Y #[.slice wa' M'.W.length wc', .slice la' M'.L.length lc', .bool M'.F] #[.int .i64 5, .bool cuts, .int .u64 ((link : Nat) : Int), .int .u64 ((at_ : Nat) : Int), .int .u64 ((key : Nat) : Int), .int .u64 ((val : Nat) : Int), .int .u64 ((hash : Nat) : Int), .int .u64 ((next : Nat) : Int)], W = z.w) 4 (.q 0 (.q 1 (.h 2 (.h 3 .done)))) (by kernel_rfl) (by kernel_rfl) (by rw [HD.out]; exact ⟨⟨D, HSD.out.bx, HSD.out.by_⟩, rfl⟩) ?_
    rw [HD.out]
    repeat (refine wpMix2_q rfl rfl ?_; go_big_quiet_step (fail); refine wpQuiet_nil ?_)
    obtain ⟨z0, zf0, z1, zf1, z2, zf2⟩ := fcl3 HSD.out.bz
    refine wpMix2_h rfl fun R' hR' hO => ?_
    go_wp2
    rw [← HU1.out]
    refine hR' _ _ ⟨⟨U1, D1.out, D2.out⟩, rfl⟩ ?_
    clear hR' hO R' z0 z1 z2 zf0 zf1 zf2
    obtain ⟨z0, zf0, z1, zf1, z2, zf2, z3, zf3, z4, zf4, z5, zf5, z6, zf6, z7, zf7⟩ := fcl8 D3.out
    refine wpMix2_h rfl fun R' hR' hO => ?_
    go_wp2
    rw [← HU2.out]
    refine hR' _ _ ⟨⟨U2, D4.out, D5.out⟩, rfl⟩ ?_
    clear hR' hO R' z0 z1 z2 z3 z4 z5 z6 z7 zf0 zf1 zf2 zf3 zf4 zf5 zf6 zf7
    refine wpMix2_done ?_
    simp only [List.drop_succ_cons, List.drop_nil]
    go_wp2
    refine bodyPost_ret (EditStep_result D6.out rfl D7.out rfl) rfl ?_
    rw [HRES.out]
    exact ⟨wa', wc', la', lc', rfl, D8.out, D9.out, KW.out, KL.out⟩
set_option maxRecDepth 100000 in
set_option maxHeartbeats 8000000 in
theorem redit4_any (M : Mem) (s : Ede) (wa la : Option Addr) (wc lc : Nat) (V : World) (h : MemL V wa wc la lc M) (hok : okM M = true) (hs : s.Ok) (hph : s.ph = 4) :
    Calls Try.prog 27 #[memV wa wc la lc M, edV s] V (GivesRE wa la ((editE M s).1, (editE M s).2.1) V) := by
  obtain ⟨ph, cuts, link, at_, key, val, hash, next⟩ := s
  obtain rfl : ph = 4 := hph
  obtain ⟨V1, hV1, hbV1, hsV1, hlV1⟩ := laid V #[.slice wa M.W.length wc, .slice la M.L.length lc, .bool M.F] 25
  obtain ⟨V2, hV2, hbV2, hsV2, hlV2⟩ := laid V1 #[.int .i64 4, .bool cuts, .int .u64 ((link : Nat) : Int), .int .u64 ((at_ : Nat) : Int), .int .u64 ((key : Nat) : Int), .int .u64 ((val : Nat) : Int), .int .u64 ((hash : Nat) : Int), .int .u64 ((next : Nat) : Int)] 53
  obtain ⟨V3, hV3, hbV3, hsV3, hlV3⟩ := laid V2 #[.slice none 0 0, .slice none 0 0, .bool false] 25
  obtain ⟨V4, hV4, hbV4, hsV4, hlV4⟩ := laid V3 #[.int .i64 0, .bool false, .int .u64 0, .int .u64 0, .int .u64 0, .int .u64 0, .int .u64 0, .int .u64 0] 53
  obtain ⟨V5, hV5, hbV5, hsV5, hlV5⟩ := laid V4 #[.int .i64 0, .int .i64 0, .int .u64 0, .int .u64 0] 73
  obtain ⟨X, hX⟩ : ∃ X, V.heap.size = X := ⟨_, rfl⟩
  rw [hX] at hlV1
  obtain ⟨Y, hY⟩ : ∃ X, V1.heap.size = X := ⟨_, rfl⟩
  rw [hY] at hlV2
  obtain ⟨Z, hZ⟩ : ∃ X, V2.heap.size = X := ⟨_, rfl⟩
  rw [hZ] at hlV3
  obtain ⟨G, hG⟩ : ∃ X, V3.heap.size = X := ⟨_, rfl⟩
  rw [hG] at hlV4
  obtain ⟨A, hA⟩ : ∃ X, V4.heap.size = X := ⟨_, rfl⟩
  rw [hA] at hlV5
  have KX := hid (keep_laid (keep_laid (keep_laid (keep_laid hlV1 hbV2) hbV3) hbV4) hbV5)
  have KY := hid (keep_laid (keep_laid (keep_laid hlV2 hbV3) hbV4) hbV5)
  have KZ := hid (keep_laid (keep_laid hlV3 hbV4) hbV5)
  have KG := hid (keep_laid hlV4 hbV5)
  have KA := hid hlV5
  have HB := hid (step (step (step (step hbV1 hbV2) hbV3) hbV4) hbV5)
  have hVX : V.heap.size ≤ X := by omega
  have hVY : V.heap.size ≤ Y := by omega
  have nXY : X < Y := by omega
  have hVZ : V.heap.size ≤ Z := by omega
  have nXZ : X < Z := by omega
  have nYZ : Y < Z := by omega
  have hVG : V.heap.size ≤ G := by omega
  have nXG : X < G := by omega
  have nYG : Y < G := by omega
  have nZG : Z < G := by omega
  have hVA : V.heap.size ≤ A := by omega
  have nXA : X < A := by omega
  have nYA : Y < A := by omega
  have nZA : Z < A := by omega
  have nGA : G < A := by omega
  clear hbV1 hsV1 hlV1 hbV2 hsV2 hlV2 hbV3 hsV3 hlV3 hbV4 hsV4 hlV4 hbV5 hsV5 hlV5
  obtain ⟨aw, al⟩ := h.low hok (X := X) (G := G) (by omega)
  have HLW := hid (h.lowA hok)
  have HS5 := hid (show Sq 53 #[.int .i64 0, .bool false, .int .u64 0, .int .u64 0, .int .u64 0, .int .u64 0, .int .u64 0, .int .u64 0] V X Y Z G wa wc la lc M #[.int .i64 4, .bool cuts, .int .u64 ((link : Nat) : Int), .int .u64 ((at_ : Nat) : Int), .int .u64 ((key : Nat) : Int), .int .u64 ((val : Nat) : Int), .int .u64 ((hash : Nat) : Int), .int .u64 ((next : Nat) : Int)] V5 from ⟨KX.out, KY.out, KZ.out, KG.out, h.grow HB.out, aw, al, HB.out, by omega⟩)
  obtain ⟨V6, hV6, a1, a2, a3⟩ := put4 KA.out (.int .i64 2) (.int .i64 0) (.int .u64 0) (.int .u64 0)
  have HS6 := hid (HS5.out.keep nGA (HLW.out.1.apart hVA) (HLW.out.2.apart hVA) a2 (a3 _ _ hVA HB.out))
  have KA6 := hid a1
  have HV6 := hid hV6
  clear hV6 a1 a2 a3
  have hwl := h.w.len
  have hll := h.l.len
  have HSO := hid hs
  have HOK := hid hok
  unfold memV edV
  dsimp only
  have y0 := cell_laid (i := 0) KY.out rfl
  obtain ⟨a0, af0, a1, af1, a2, af2, a3, af3⟩ := fcl4 KA.out
  obtain ⟨⟨M', x, d⟩, hX⟩ : ∃ X, stepM M false ((posL at_ 2 : Nat) : Int) 0 = X := ⟨_, rfl⟩
  have HSE : Hid (editE M (⟨4, cuts, link, at_, key, val, hash, next⟩ : Ede) = (M', (if d = true then (⟨5, cuts, link, at_, key, val, hash, x⟩ : Ede) else (⟨7, cuts, link, at_, key, val, hash, next⟩ : Ede)), true)) := hid (by
    have e0 : editE M (⟨4, cuts, link, at_, key, val, hash, next⟩ : Ede) = ((stepM M false ((posL at_ 2 : Nat) : Int) 0).1, (if (stepM M false ((posL at_ 2 : Nat) : Int) 0).2.2 = true then (⟨5, cuts, link, at_, key, val, hash, (stepM M false ((posL at_ 2 : Nat) : Int) 0).2.1⟩ : Ede) else (⟨7, cuts, link, at_, key, val, hash, next⟩ : Ede)), true) := by
      unfold editE; rw [if_neg (show ¬ ((6 : Int) ≤ 4) by decide)]; rfl
    rw [e0, hX])
  obtain ⟨P, hP⟩ : ∃ q, posL at_ 2 = q := ⟨_, rfl⟩
  have HAT := hid (fun W => rat_any at_ 2 W hs.at_ (by decide))
  rw [hP] at HAT
  have hp : P ≤ 5000 := by rw [← hP]; exact posL_le _ _ (by decide)
  have HST : Hid (∀ W, MemL W wa wc la lc M → Calls Try.prog 56 #[.agg #[.slice wa M.W.length wc, .slice la M.L.length lc, .bool M.F], .agg #[.int .i64 1, .int .i64 ((P : Nat) : Int), .int .u64 0, .int .u64 0]] W (GivesR wa la M' x d W)) := hid (fun W hm => by
    have := RefStep_any M wa la wc lc false 1 ((posL at_ 2 : Nat) : Int) 0 0 W hm hok (by rw [hP]; omega) rfl
    rw [hX, hP] at this
    exact this)
  have HLM : Hid (1 ≤ M'.W.length ∧ 1 ≤ M'.L.length) := hid (by have e1 := stepM_len M false ((posL at_ 2 : Nat) : Int) 0; have e2 := stepM_L M false ((posL at_ 2 : Nat) : Int) 0; rw [hX] at e1 e2; dsimp only at e1 e2; obtain ⟨a, b, d, -⟩ := okM_spec hok; rw [e2]; omega)
  clear h hok hs aw al KX KY KZ KG HB hX hP
  go_enter Try.func27, Try.ntmps27
  go_upto_region 2 with (fail)
  rw [← HV6.out]
  clear y0 a0 a1 a2 a3 af0 af1 af2 af3
  have y0 := cell_laid (i := 0) HS6.out.by_ rfl
  have y3 := cell_laid (i := 3) HS6.out.by_ rfl
  obtain ⟨a0, af0, a1, af1, a2, af2, a3, af3⟩ := fcl4 KA6.out
  go_upto_region 14 with (fail)
  go_wp2_with fail
  refine (HAT.out V6).mono ?_
  rintro e wq ⟨rfl, hwq⟩
  rw [hwq]
  clear hwq wq
  obtain ⟨U2, hU2, b1, b2, b3⟩ := put4 KA6.out (.int .i64 1) (.int .i64 ((P : Nat) : Int)) (.int .u64 0) (.int .u64 0)
  have HSU2 := hid (HS6.out.keep (W' := U2) nGA (HLW.out.1.apart hVA) (HLW.out.2.apart hVA) b2 (b3 _ _ hVA HS6.out.below))
  have KA2 := hid b1
  have HU2 := hid hU2
  clear hU2 b1 b2 b3
  go_upto_region 19 with (fail)
  rw [← HU2.out]
  clear y0 y3 a0 a1 a2 a3 af0 af1 af2 af3
  obtain ⟨p0, p1, p2⟩ := cells3 HSU2.out.bx
  obtain ⟨a0, a1, a2, a3⟩ := ncl4 KA2.out
  go_wp2_with fail
  refine (HST.out U2 HSU2.out.mem).mono ?_
  rintro e w5 ⟨wa', wc', la', lc', rfl, hm, hb5, kw, kl⟩
  have hG4 : G < U2.heap.size := lt_laid HSU2.out.bg
  have hVD := HSU2.out.below.size
  have hA4 : A < U2.heap.size := lt_laid KA2.out
  obtain ⟨w6, hw6, hb6, hs6, hl6⟩ := laid w5 #[.int .u64 0, .bool false] 69
  obtain ⟨B, hB⟩ : ∃ X, w5.heap.size = X := ⟨_, rfl⟩
  rw [hB] at hl6
  have ap : apartA wa' B ∧ apartA la' B := by
    have e1 := hm.w
    have e2 := hm.l
    constructor
    · rintro b off rfl rfl
      obtain ⟨_, _, ⟨q, _⟩ | ⟨b', o', q, q2, _⟩⟩ := e1
      · have := HLM.out; omega
      · cases q; omega
    · rintro b off rfl rfl
      obtain ⟨_, _, ⟨q, _⟩ | ⟨b', o', q, q2, _⟩⟩ := e2
      · have := HLM.out; omega
      · cases q; omega
  obtain ⟨w7, hw7, hS7, hk7⟩ := ((HSU2.out.grow hb5).grow hb6).putX (hm.grow hb6) (HSU2.out.aw.kept kw hG4) (HSU2.out.al.kept kl hG4)
  have hGB : G < B := by have := hb5.size; omega
  have hXB : X < B := by omega
  have hl7 := hk7 B _ (by omega) hl6
  obtain ⟨w8, hw8, b1, b2, b3⟩ := put_got hl7 (by decide) (by decide) (.int .u64 ((x : Nat) : Int)) (.bool d)
  have HS8 := hid (hS7.keep hGB ap.1 ap.2 b2 (b3.1 _ _ (by have := hVD; have := hb5.size; omega) hS7.below))
  have KB := hid b1
  have KW := hid (kw.mono hVD)
  have KL := hid (kl.mono hVD)
  have HW7 := hid hw7
  have HW8 := hid hw8
  have hwl' := hm.w.len
  have hll' := hm.l.len
  have hXnB : X ≠ B := by omega
  have hBnX : B ≠ X := by omega
  obtain ⟨x0, x1, x2⟩ := cells3 ((HSU2.out.grow hb5).grow hb6).bx
  have xf0 := free_laid (i := 0) ((HSU2.out.grow hb5).grow hb6).bx
  have xf1 := free_laid (i := 1) ((HSU2.out.grow hb5).grow hb6).bx
  have xf2 := free_laid (i := 2) ((HSU2.out.grow hb5).grow hb6).bx
  obtain ⟨g0, gf0, g1, gf1⟩ := fcl2 hl6
  clear hm hb5 kw kl hs6 hb6 hl6 hS7 hk7 hl7 b1 b2 b3 hw7 hw8 ap p0 p1 p2 a0 a1 a2 a3
  unfold memV
  go_upto_region 20 with (fail)
  rw [← HW7.out, ← HW8.out]
  clear x0 x1 x2 xf0 xf1 xf2 g0 g1 gf0 gf1
  cases d with
  | false =>
    obtain ⟨y0, yf0, y1, yf1, y2, yf2, y3, yf3, y4, yf4, y5, yf5, y6, yf6, y7, yf7⟩ := fcl8 HS8.out.by_
    obtain ⟨g0, g1⟩ := ncl2 KB.out
    obtain ⟨w9, hw9⟩ : ∃ W, (w8.setCell ⟨Y, 0, none⟩ (.int .i64 7)) = W := ⟨_, rfl⟩
    have HS9 : Hid (Sq 53 #[.int .i64 0, .bool false, .int .u64 0, .int .u64 0, .int .u64 0, .int .u64 0, .int .u64 0, .int .u64 0] V X Y Z G wa' wc' la' lc' M' #[.int .i64 7, .bool cuts, .int .u64 ((link : Nat) : Int), .int .u64 ((at_ : Nat) : Int), .int .u64 ((key : Nat) : Int), .int .u64 ((val : Nat) : Int), .int .u64 ((hash : Nat) : Int), .int .u64 ((next : Nat) : Int)] w9) := hid (by rw [← hw9]; exact (HS8.out.setY (i := 0) (v := .int .i64 7) (cs' := #[.int .i64 7, .bool cuts, .int .u64 ((link : Nat) : Int), .int .u64 ((at_ : Nat) : Int), .int .u64 ((key : Nat) : Int), .int .u64 ((val : Nat) : Int), .int .u64 ((hash : Nat) : Int), .int .u64 ((next : Nat) : Int)]) rfl))
    have HW9 := hid hw9
    clear hw9
    have HRES : Hid (editE M (⟨4, cuts, link, at_, key, val, hash, next⟩ : Ede) = (M', ⟨7, cuts, link, at_, key, val, hash, next⟩, true)) := hid (HSE.out.trans (by rw [if_neg (by decide)]))
    go_upto_region 22 with (fail)
    rw [HW9.out]
    clear y0 y1 y2 y3 y4 y5 y6 y7 yf0 yf1 yf2 yf3 yf4 yf5 yf6 yf7 g0 g1
    go_upto_region 22 with (fail)
    obtain ⟨D, hD⟩ : ∃ DX, (w9).drew = DX := ⟨_, rfl⟩
    have HSD := hid (HS9.out.grow (Below.refl _ _).drew)
    rw [hD] at HSD
    have HD := hid hD
    clear hD
    obtain ⟨U1, U2, hU1, hU2, d1, d2, d3, d4, d5, d6, d7, d8, d9⟩ := HSD.out.fin8 (by decide) (by decide)
    have HU1 := hid hU1
    have HU2 := hid hU2
    have D1 := hid d1
    have D2 := hid d2
    have D3 := hid d3
    have D4 := hid d4
    have D5 := hid d5
    have D6 := hid d6
    have D7 := hid d7
    have D8 := hid d8
    have D9 := hid d9
    clear hU1 hU2 d1 d2 d3 d4 d5 d6 d7 d8 d9
    haveI HNE : Nonempty (RYX 53 X Y #[.slice wa' M'.W.length wc', .slice la' M'.L.length lc', .bool M'.F] #[.int .i64 7, .bool cuts, .int .u64 ((link : Nat) : Int), .int .u64 ((at_ : Nat) : Int), .int .u64 ((key : Nat) : Int), .int .u64 ((val : Nat) : Int), .int .u64 ((hash : Nat) : Int), .int .u64 ((next : Nat) : Int)]) := ⟨⟨D, HSD.out.bx, HSD.out.by_⟩⟩
    have p0 := ryx_x HNE 0 (.slice wa' M'.W.length wc') rfl
    have p1 := ryx_x HNE 1 (.slice la' M'.L.length lc') rfl
    have p2 := ryx_x HNE 2 (.bool M'.F) rfl
    have q0 := ryx_y HNE 0 (.int .i64 7) rfl
    have q1 := ryx_y HNE 1 (.bool cuts) rfl
    have q2 := ryx_y HNE 2 (.int .u64 ((link : Nat) : Int)) rfl
    have q3 := ryx_y HNE 3 (.int .u64 ((at_ : Nat) : Int)) rfl
    have q4 := ryx_y HNE 4 (.int .u64 ((key : Nat) : Int)) rfl
    have q5 := ryx_y HNE 5 (.int .u64 ((val : Nat) : Int)) rfl
    have q6 := ryx_y HNE 6 (.int .u64 ((hash : Nat) : Int)) rfl
    have q7 := ryx_y HNE 7 (.int .u64 ((next : Nat) : Int)) rfl
    refine wp_region_mix2 (fun W => ∃ z : RYX 53 X Y #[.slice wa' M'.W.length wc', .slice la' M'.L.length lc', .bool M'.F] #[.int .i64 7, .bool cuts, .int .u64 ((link : Nat) : Int), .int .u64 ((at_ : Nat) : Int), .int .u64 ((key : Nat) : Int), .int .u64 ((val : Nat) : Int), .int .u64 ((hash : Nat) : Int), .int .u64 ((next : Nat) : Int)], W = z.w) 4 (.q 0 (.q 1 (.h 2 (.h 3 .done)))) (by kernel_rfl) (by kernel_rfl) (by rw [HD.out]; exact ⟨⟨D, HSD.out.bx, HSD.out.by_⟩, rfl⟩) ?_
    rw [HD.out]
    repeat (refine wpMix2_q rfl rfl ?_; go_big_quiet_step (fail); refine wpQuiet_nil ?_)
    obtain ⟨z0, zf0, z1, zf1, z2, zf2⟩ := fcl3 HSD.out.bz
    refine wpMix2_h rfl fun R' hR' hO => ?_
    go_wp2
    rw [← HU1.out]
    refine hR' _ _ ⟨⟨U1, D1.out, D2.out⟩, rfl⟩ ?_
    clear hR' hO R' z0 z1 z2 zf0 zf1 zf2
    obtain ⟨z0, zf0, z1, zf1, z2, zf2, z3, zf3, z4, zf4, z5, zf5, z6, zf6, z7, zf7⟩ := fcl8 D3.out
    refine wpMix2_h rfl fun R' hR' hO => ?_
    go_wp2
    rw [← HU2.out]
    refine hR' _ _ ⟨⟨U2, D4.out, D5.out⟩, rfl⟩ ?_
    clear hR' hO R' z0 z1 z2 z3 z4 z5 z6 z7 zf0 zf1 zf2 zf3 zf4 zf5 zf6 zf7
    refine wpMix2_done ?_
    simp only [List.drop_succ_cons, List.drop_nil]
    go_wp2
    refine bodyPost_ret (EditStep_result D6.out rfl D7.out rfl) rfl ?_
    rw [HRES.out]
    exact ⟨wa', wc', la', lc', rfl, D8.out, D9.out, KW.out, KL.out⟩
  | true =>
    obtain ⟨y0, yf0, y1, yf1, y2, yf2, y3, yf3, y4, yf4, y5, yf5, y6, yf6, y7, yf7⟩ := fcl8 HS8.out.by_
    obtain ⟨g0, g1⟩ := ncl2 KB.out
    obtain ⟨w9, hw9⟩ : ∃ W, ((w8.setCell ⟨Y, 7, none⟩ (.int .u64 ((x : Nat) : Int))).setCell ⟨Y, 0, none⟩ (.int .i64 5)) = W := ⟨_, rfl⟩
    have HS9 : Hid (Sq 53 #[.int .i64 0, .bool false, .int .u64 0, .int .u64 0, .int .u64 0, .int .u64 0, .int .u64 0, .int .u64 0] V X Y Z G wa' wc' la' lc' M' #[.int .i64 5, .bool cuts, .int .u64 ((link : Nat) : Int), .int .u64 ((at_ : Nat) : Int), .int .u64 ((key : Nat) : Int), .int .u64 ((val : Nat) : Int), .int .u64 ((hash : Nat) : Int), .int .u64 ((x : Nat) : Int)] w9) := hid (by rw [← hw9]; exact ((HS8.out.setY (i := 7) (v := .int .u64 ((x : Nat) : Int)) (cs' := #[.int .i64 4, .bool cuts, .int .u64 ((link : Nat) : Int), .int .u64 ((at_ : Nat) : Int), .int .u64 ((key : Nat) : Int), .int .u64 ((val : Nat) : Int), .int .u64 ((hash : Nat) : Int), .int .u64 ((x : Nat) : Int)]) rfl).setY (i := 0) (v := .int .i64 5) (cs' := #[.int .i64 5, .bool cuts, .int .u64 ((link : Nat) : Int), .int .u64 ((at_ : Nat) : Int), .int .u64 ((key : Nat) : Int), .int .u64 ((val : Nat) : Int), .int .u64 ((hash : Nat) : Int), .int .u64 ((x : Nat) : Int)]) rfl))
    have HW9 := hid hw9
    clear hw9
    have HRES : Hid (editE M (⟨4, cuts, link, at_, key, val, hash, next⟩ : Ede) = (M', ⟨5, cuts, link, at_, key, val, hash, x⟩, true)) := hid (HSE.out.trans (by rw [if_pos rfl]))
    go_upto_region 26 with (fail)
    rw [HW9.out]
    clear y0 y1 y2 y3 y4 y5 y6 y7 yf0 yf1 yf2 yf3 yf4 yf5 yf6 yf7 g0 g1
    go_upto_region 26 with (fail)
    obtain ⟨D, hD⟩ : ∃ DX, (w9).drew = DX := ⟨_, rfl⟩
    have HSD := hid (HS9.out.grow (Below.refl _ _).drew)
    rw [hD] at HSD
    have HD := hid hD
    clear hD
    obtain ⟨U1, U2, hU1, hU2, d1, d2, d3, d4, d5, d6, d7, d8, d9⟩ := HSD.out.fin8 (by decide) (by decide)
    have HU1 := hid hU1
    have HU2 := hid hU2
    have D1 := hid d1
    have D2 := hid d2
    have D3 := hid d3
    have D4 := hid d4
    have D5 := hid d5
    have D6 := hid d6
    have D7 := hid d7
    have D8 := hid d8
    have D9 := hid d9
    clear hU1 hU2 d1 d2 d3 d4 d5 d6 d7 d8 d9
    haveI HNE : Nonempty (RYX 53 X Y #[.slice wa' M'.W.length wc', .slice la' M'.L.length lc', .bool M'.F] #[.int .i64 5, .bool cuts, .int .u64 ((link : Nat) : Int), .int .u64 ((at_ : Nat) : Int), .int .u64 ((key : Nat) : Int), .int .u64 ((val : Nat) : Int), .int .u64 ((hash : Nat) : Int), .int .u64 ((x : Nat) : Int)]) := ⟨⟨D, HSD.out.bx, HSD.out.by_⟩⟩
    have p0 := ryx_x HNE 0 (.slice wa' M'.W.length wc') rfl
    have p1 := ryx_x HNE 1 (.slice la' M'.L.length lc') rfl
    have p2 := ryx_x HNE 2 (.bool M'.F) rfl
    have q0 := ryx_y HNE 0 (.int .i64 5) rfl
    have q1 := ryx_y HNE 1 (.bool cuts) rfl
    have q2 := ryx_y HNE 2 (.int .u64 ((link : Nat) : Int)) rfl
    have q3 := ryx_y HNE 3 (.int .u64 ((at_ : Nat) : Int)) rfl
    have q4 := ryx_y HNE 4 (.int .u64 ((key : Nat) : Int)) rfl
    have q5 := ryx_y HNE 5 (.int .u64 ((val : Nat) : Int)) rfl
    have q6 := ryx_y HNE 6 (.int .u64 ((hash : Nat) : Int)) rfl
    have q7 := ryx_y HNE 7 (.int .u64 ((x : Nat) : Int)) rfl
    refine wp_region_mix2 (fun W => ∃ z : RYX 53 X Y #[.slice wa' M'.W.length wc', .slice la' M'.L.length lc', .bool M'.F] #[.int .i64 5, .bool cuts, .int .u64 ((link : Nat) : Int), .int .u64 ((at_ : Nat) : Int), .int .u64 ((key : Nat) : Int), .int .u64 ((val : Nat) : Int), .int .u64 ((hash : Nat) : Int), .int .u64 ((x : Nat) : Int)], W = z.w) 4 (.q 0 (.q 1 (.h 2 (.h 3 .done)))) (by kernel_rfl) (by kernel_rfl) (by rw [HD.out]; exact ⟨⟨D, HSD.out.bx, HSD.out.by_⟩, rfl⟩) ?_
    rw [HD.out]
    repeat (refine wpMix2_q rfl rfl ?_; go_big_quiet_step (fail); refine wpQuiet_nil ?_)
    obtain ⟨z0, zf0, z1, zf1, z2, zf2⟩ := fcl3 HSD.out.bz
    refine wpMix2_h rfl fun R' hR' hO => ?_
    go_wp2
    rw [← HU1.out]
    refine hR' _ _ ⟨⟨U1, D1.out, D2.out⟩, rfl⟩ ?_
    clear hR' hO R' z0 z1 z2 zf0 zf1 zf2
    obtain ⟨z0, zf0, z1, zf1, z2, zf2, z3, zf3, z4, zf4, z5, zf5, z6, zf6, z7, zf7⟩ := fcl8 D3.out
    refine wpMix2_h rfl fun R' hR' hO => ?_
    go_wp2
    rw [← HU2.out]
    refine hR' _ _ ⟨⟨U2, D4.out, D5.out⟩, rfl⟩ ?_
    clear hR' hO R' z0 z1 z2 z3 z4 z5 z6 z7 zf0 zf1 zf2 zf3 zf4 zf5 zf6 zf7
    refine wpMix2_done ?_
    simp only [List.drop_succ_cons, List.drop_nil]
    go_wp2
    refine bodyPost_ret (EditStep_result D6.out rfl D7.out rfl) rfl ?_
    rw [HRES.out]
    exact ⟨wa', wc', la', lc', rfl, D8.out, D9.out, KW.out, KL.out⟩
set_option maxRecDepth 100000 in
set_option maxHeartbeats 8000000 in
theorem redit5t_any (M : Mem) (s : Ede) (wa la : Option Addr) (wc lc : Nat) (V : World) (h : MemL V wa wc la lc M) (hok : okM M = true) (hs : s.Ok) (hph : s.ph = 5) (hcu : s.cuts = true) :
    Calls Try.prog 27 #[memV wa wc la lc M, edV s] V (GivesRE wa la ((editE M s).1, (editE M s).2.1) V) := by
  obtain ⟨ph, cuts, link, at_, key, val, hash, next⟩ := s
  obtain rfl : ph = 5 := hph
  obtain rfl : cuts = true := hcu
  obtain ⟨V1, hV1, hbV1, hsV1, hlV1⟩ := laid V #[.slice wa M.W.length wc, .slice la M.L.length lc, .bool M.F] 25
  obtain ⟨V2, hV2, hbV2, hsV2, hlV2⟩ := laid V1 #[.int .i64 5, .bool true, .int .u64 ((link : Nat) : Int), .int .u64 ((at_ : Nat) : Int), .int .u64 ((key : Nat) : Int), .int .u64 ((val : Nat) : Int), .int .u64 ((hash : Nat) : Int), .int .u64 ((next : Nat) : Int)] 53
  obtain ⟨V3, hV3, hbV3, hsV3, hlV3⟩ := laid V2 #[.slice none 0 0, .slice none 0 0, .bool false] 25
  obtain ⟨V4, hV4, hbV4, hsV4, hlV4⟩ := laid V3 #[.int .i64 0, .bool false, .int .u64 0, .int .u64 0, .int .u64 0, .int .u64 0, .int .u64 0, .int .u64 0] 53
  obtain ⟨V5, hV5, hbV5, hsV5, hlV5⟩ := laid V4 #[.int .i64 0, .int .i64 0, .int .u64 0, .int .u64 0] 73
  obtain ⟨X, hX⟩ : ∃ X, V.heap.size = X := ⟨_, rfl⟩
  rw [hX] at hlV1
  obtain ⟨Y, hY⟩ : ∃ X, V1.heap.size = X := ⟨_, rfl⟩
  rw [hY] at hlV2
  obtain ⟨Z, hZ⟩ : ∃ X, V2.heap.size = X := ⟨_, rfl⟩
  rw [hZ] at hlV3
  obtain ⟨G, hG⟩ : ∃ X, V3.heap.size = X := ⟨_, rfl⟩
  rw [hG] at hlV4
  obtain ⟨A, hA⟩ : ∃ X, V4.heap.size = X := ⟨_, rfl⟩
  rw [hA] at hlV5
  have KX := hid (keep_laid (keep_laid (keep_laid (keep_laid hlV1 hbV2) hbV3) hbV4) hbV5)
  have KY := hid (keep_laid (keep_laid (keep_laid hlV2 hbV3) hbV4) hbV5)
  have KZ := hid (keep_laid (keep_laid hlV3 hbV4) hbV5)
  have KG := hid (keep_laid hlV4 hbV5)
  have KA := hid hlV5
  have HB := hid (step (step (step (step hbV1 hbV2) hbV3) hbV4) hbV5)
  have hVX : V.heap.size ≤ X := by omega
  have hVY : V.heap.size ≤ Y := by omega
  have nXY : X < Y := by omega
  have hVZ : V.heap.size ≤ Z := by omega
  have nXZ : X < Z := by omega
  have nYZ : Y < Z := by omega
  have hVG : V.heap.size ≤ G := by omega
  have nXG : X < G := by omega
  have nYG : Y < G := by omega
  have nZG : Z < G := by omega
  have hVA : V.heap.size ≤ A := by omega
  have nXA : X < A := by omega
  have nYA : Y < A := by omega
  have nZA : Z < A := by omega
  have nGA : G < A := by omega
  clear hbV1 hsV1 hlV1 hbV2 hsV2 hlV2 hbV3 hsV3 hlV3 hbV4 hsV4 hlV4 hbV5 hsV5 hlV5
  obtain ⟨aw, al⟩ := h.low hok (X := X) (G := G) (by omega)
  have HLW := hid (h.lowA hok)
  have HS5 := hid (show Sq 53 #[.int .i64 0, .bool false, .int .u64 0, .int .u64 0, .int .u64 0, .int .u64 0, .int .u64 0, .int .u64 0] V X Y Z G wa wc la lc M #[.int .i64 5, .bool true, .int .u64 ((link : Nat) : Int), .int .u64 ((at_ : Nat) : Int), .int .u64 ((key : Nat) : Int), .int .u64 ((val : Nat) : Int), .int .u64 ((hash : Nat) : Int), .int .u64 ((next : Nat) : Int)] V5 from ⟨KX.out, KY.out, KZ.out, KG.out, h.grow HB.out, aw, al, HB.out, by omega⟩)
  obtain ⟨V6, hV6, a1, a2, a3⟩ := put4 KA.out (.int .i64 2) (.int .i64 0) (.int .u64 0) (.int .u64 0)
  have HS6 := hid (HS5.out.keep nGA (HLW.out.1.apart hVA) (HLW.out.2.apart hVA) a2 (a3 _ _ hVA HB.out))
  have KA6 := hid a1
  have HV6 := hid hV6
  clear hV6 a1 a2 a3
  have hwl := h.w.len
  have hll := h.l.len
  have HSO := hid hs
  have HOK := hid hok
  unfold memV edV
  dsimp only
  have y0 := cell_laid (i := 0) KY.out rfl
  obtain ⟨a0, af0, a1, af1, a2, af2, a3, af3⟩ := fcl4 KA.out
  obtain ⟨⟨M', x, d⟩, hX⟩ : ∃ X, stepM M true ((posL link 0 : Nat) : Int) next = X := ⟨_, rfl⟩
  have HSE : Hid (editE M (⟨5, true, link, at_, key, val, hash, next⟩ : Ede) = (M', (if d = true then (⟨6, true, link, at_, key, val, hash, next⟩ : Ede) else (⟨7, true, link, at_, key, val, hash, next⟩ : Ede)), true)) := hid (by
    have e0 : editE M (⟨5, true, link, at_, key, val, hash, next⟩ : Ede) = ((stepM M true ((posL link 0 : Nat) : Int) next).1, (if (stepM M true ((posL link 0 : Nat) : Int) next).2.2 = true then (⟨6, true, link, at_, key, val, hash, next⟩ : Ede) else (⟨7, true, link, at_, key, val, hash, next⟩ : Ede)), true) := by
      unfold editE; rw [if_neg (show ¬ ((6 : Int) ≤ 5) by decide)]; rfl
    rw [e0, hX])
  obtain ⟨P, hP⟩ : ∃ q, posL link 0 = q := ⟨_, rfl⟩
  have HAT := hid (fun W => rat_any link 0 W hs.link (by decide))
  rw [hP] at HAT
  have hp : P ≤ 5000 := by rw [← hP]; exact posL_le _ _ (by decide)
  have HST : Hid (∀ W, MemL W wa wc la lc M → Calls Try.prog 56 #[.agg #[.slice wa M.W.length wc, .slice la M.L.length lc, .bool M.F], .agg #[.int .i64 2, .int .i64 ((P : Nat) : Int), .int .u64 0, .int .u64 ((next : Nat) : Int)]] W (GivesR wa la M' x d W)) := hid (fun W hm => by
    have := RefStep_any M wa la wc lc true 2 ((posL link 0 : Nat) : Int) 0 next W hm hok (by rw [hP]; omega) rfl
    rw [hX, hP] at this
    exact this)
  have HLM : Hid (1 ≤ M'.W.length ∧ 1 ≤ M'.L.length) := hid (by have e1 := stepM_len M true ((posL link 0 : Nat) : Int) next; have e2 := stepM_L M true ((posL link 0 : Nat) : Int) next; rw [hX] at e1 e2; dsimp only at e1 e2; obtain ⟨a, b, d, -⟩ := okM_spec hok; rw [e2]; omega)
  clear h hok hs aw al KX KY KZ KG HB hX hP
  go_enter Try.func27, Try.ntmps27
  go_upto_region 2 with (fail)
  rw [← HV6.out]
  clear y0 a0 a1 a2 a3 af0 af1 af2 af3
  have y0 := cell_laid (i := 0) HS6.out.by_ rfl
  go_upto_region 16 with (fail)
  obtain ⟨D, hD⟩ : ∃ DX, V6.drew = DX := ⟨_, rfl⟩
  have hbD : Below V6.heap.size V6 D := by rw [← hD]; exact (Below.refl _ _).drew
  have HSD := hid (HS6.out.grow hbD)
  have KAD := hid (keep_laid KA6.out hbD)
  have HD := hid hD
  clear hD hbD
  obtain ⟨U1, hU1⟩ : ∃ W, D.setCell ⟨A, 1, none⟩ (.int .i64 ((P : Nat) : Int)) = W := ⟨_, rfl⟩
  have HSU1 := hid (HSD.out.keep (W' := U1) nGA (HLW.out.1.apart hVA) (HLW.out.2.apart hVA) (fun k o hk ho => by rw [← hU1]; exact other_laid ho hk _) (by rw [← hU1]; exact HSD.out.below.setCell (p := ⟨A, 1, none⟩) hVA _))
  have KA1 : Hid (U1.heap[A]? = some (.cells #[.int .i64 2, .int .i64 ((P : Nat) : Int), .int .u64 0, .int .u64 0] 73 (0, 0))) := hid (by rw [← hU1]; exact set_laid (i := 1) KAD.out _)
  obtain ⟨U2, hU2⟩ : ∃ W, U1.setCell ⟨A, 3, none⟩ (.int .u64 ((at_ : Nat) : Int)) = W := ⟨_, rfl⟩
  have HSU2 := hid (HSU1.out.keep (W' := U2) nGA (HLW.out.1.apart hVA) (HLW.out.2.apart hVA) (fun k o hk ho => by rw [← hU2]; exact other_laid ho hk _) (by rw [← hU2]; exact HSU1.out.below.setCell (p := ⟨A, 3, none⟩) hVA _))
  have KA2 : Hid (U2.heap[A]? = some (.cells #[.int .i64 2, .int .i64 ((P : Nat) : Int), .int .u64 0, .int .u64 ((at_ : Nat) : Int)] 73 (0, 0))) := hid (by rw [← hU2]; exact set_laid (i := 3) KA1.out _)
  have HU1 := hid hU1
  have HU2 := hid hU2
  clear hU1 hU2 y0
  haveI HNE : Nonempty (RY1 53 Y #[.int .i64 5, .bool true, .int .u64 ((link : Nat) : Int), .int .u64 ((at_ : Nat) : Int), .int .u64 ((key : Nat) : Int), .int .u64 ((val : Nat) : Int), .int .u64 ((hash : Nat) : Int), .int .u64 ((next : Nat) : Int)]) := ⟨⟨D, HSD.out.by_⟩⟩
  have q0 := ry1_y HNE 0 (.int .i64 5) rfl
  have q1 := ry1_y HNE 1 (.bool true) rfl
  have q2 := ry1_y HNE 2 (.int .u64 ((link : Nat) : Int)) rfl
  have q3 := ry1_y HNE 3 (.int .u64 ((at_ : Nat) : Int)) rfl
  have q4 := ry1_y HNE 4 (.int .u64 ((key : Nat) : Int)) rfl
  have q5 := ry1_y HNE 5 (.int .u64 ((val : Nat) : Int)) rfl
  have q6 := ry1_y HNE 6 (.int .u64 ((hash : Nat) : Int)) rfl
  have q7 := ry1_y HNE 7 (.int .u64 ((next : Nat) : Int)) rfl
  refine wp_region_mix2 (fun W => ∃ z : RY1 53 Y #[.int .i64 5, .bool true, .int .u64 ((link : Nat) : Int), .int .u64 ((at_ : Nat) : Int), .int .u64 ((key : Nat) : Int), .int .u64 ((val : Nat) : Int), .int .u64 ((hash : Nat) : Int), .int .u64 ((next : Nat) : Int)], W = z.w) 10 (.q 0 (.q 1 (.q 3 (.q 4 (.q 5 (.h 2 (.q 6 (.h 7 (.q 8 (.h 9 .done)))))))))) (by kernel_rfl) (by kernel_rfl) (by rw [HD.out]; exact ⟨⟨D, HSD.out.by_⟩, rfl⟩) ?_
  rw [HD.out]
  repeat (refine wpMix2_q rfl rfl ?_; go_big_quiet_step (fail); refine wpQuiet_nil ?_)
  refine wpMix2_h rfl fun R' hR' hO => ?_
  go_wp2_with fail
  refine (HAT.out D).mono ?_
  rintro e wq ⟨rfl, hwq⟩
  rw [hwq]
  clear hwq wq
  go_wp2
  refine hR' _ _ ⟨⟨D, HSD.out.by_⟩, rfl⟩ ?_
  clear hR' hO R'
  repeat (refine wpMix2_q rfl rfl ?_; go_big_quiet_step (fail); refine wpQuiet_nil ?_)
  have a1 := cell_laid (i := 1) KAD.out rfl
  have af1 := free_laid (i := 1) KAD.out
  refine wpMix2_h rfl fun R' hR' hO => ?_
  go_wp2
  rw [HU1.out]
  refine hR' _ _ ⟨⟨U1, HSU1.out.by_⟩, rfl⟩ ?_
  clear hR' hO R' a1 af1
  repeat (refine wpMix2_q rfl rfl ?_; go_big_quiet_step (fail); refine wpQuiet_nil ?_)
  have a3 := cell_laid (i := 3) KA1.out rfl
  have af3 := free_laid (i := 3) KA1.out
  refine wpMix2_h rfl fun R' hR' hO => ?_
  go_wp2
  rw [HU2.out]
  refine hR' _ _ ⟨⟨U2, HSU2.out.by_⟩, rfl⟩ ?_
  clear hR' hO R' a3 af3
  refine wpMix2_done ?_
  simp only [List.drop_succ_cons, List.drop_nil]
  clear q0 q1 q2 q3 q4 q5 q6 q7
  have y1 := cell_laid (i := 1) HSU2.out.by_ rfl
  have y7 := cell_laid (i := 7) HSU2.out.by_ rfl
  have a3 := cell_laid (i := 3) KA2.out rfl
  have af3 := free_laid (i := 3) KA2.out
  obtain ⟨U3, hU3⟩ : ∃ W, U2.setCell ⟨A, 3, none⟩ (.int .u64 ((next : Nat) : Int)) = W := ⟨_, rfl⟩
  have HSU3 := hid (HSU2.out.keep (W' := U3) nGA (HLW.out.1.apart hVA) (HLW.out.2.apart hVA) (fun k o hk ho => by rw [← hU3]; exact other_laid ho hk _) (by rw [← hU3]; exact HSU2.out.below.setCell (p := ⟨A, 3, none⟩) hVA _))
  have KA3 : Hid (U3.heap[A]? = some (.cells #[.int .i64 2, .int .i64 ((P : Nat) : Int), .int .u64 0, .int .u64 ((next : Nat) : Int)] 73 (0, 0))) := hid (by rw [← hU3]; exact set_laid (i := 3) KA2.out _)
  have HU3 := hid hU3
  clear hU3
  go_upto_region 19 with (fail)
  rw [HU3.out]
  clear y1 y7 a3 af3
  obtain ⟨p0, p1, p2⟩ := cells3 HSU3.out.bx
  obtain ⟨a0, a1, a2, a3⟩ := ncl4 KA3.out
  go_wp2_with fail
  refine (HST.out U3 HSU3.out.mem).mono ?_
  rintro e w5 ⟨wa', wc', la', lc', rfl, hm, hb5, kw, kl⟩
  have hG4 : G < U3.heap.size := lt_laid HSU3.out.bg
  have hVD := HSU3.out.below.size
  have hA4 : A < U3.heap.size := lt_laid KA3.out
  obtain ⟨w6, hw6, hb6, hs6, hl6⟩ := laid w5 #[.int .u64 0, .bool false] 69
  obtain ⟨B, hB⟩ : ∃ X, w5.heap.size = X := ⟨_, rfl⟩
  rw [hB] at hl6
  have ap : apartA wa' B ∧ apartA la' B := by
    have e1 := hm.w
    have e2 := hm.l
    constructor
    · rintro b off rfl rfl
      obtain ⟨_, _, ⟨q, _⟩ | ⟨b', o', q, q2, _⟩⟩ := e1
      · have := HLM.out; omega
      · cases q; omega
    · rintro b off rfl rfl
      obtain ⟨_, _, ⟨q, _⟩ | ⟨b', o', q, q2, _⟩⟩ := e2
      · have := HLM.out; omega
      · cases q; omega
  obtain ⟨w7, hw7, hS7, hk7⟩ := ((HSU3.out.grow hb5).grow hb6).putX (hm.grow hb6) (HSU3.out.aw.kept kw hG4) (HSU3.out.al.kept kl hG4)
  have hGB : G < B := by have := hb5.size; omega
  have hXB : X < B := by omega
  have hl7 := hk7 B _ (by omega) hl6
  obtain ⟨w8, hw8, b1, b2, b3⟩ := put_got hl7 (by decide) (by decide) (.int .u64 ((x : Nat) : Int)) (.bool d)
  have HS8 := hid (hS7.keep hGB ap.1 ap.2 b2 (b3.1 _ _ (by have := hVD; have := hb5.size; omega) hS7.below))
  have KB := hid b1
  have KW := hid (kw.mono hVD)
  have KL := hid (kl.mono hVD)
  have HW7 := hid hw7
  have HW8 := hid hw8
  have hwl' := hm.w.len
  have hll' := hm.l.len
  have hXnB : X ≠ B := by omega
  have hBnX : B ≠ X := by omega
  obtain ⟨x0, x1, x2⟩ := cells3 ((HSU3.out.grow hb5).grow hb6).bx
  have xf0 := free_laid (i := 0) ((HSU3.out.grow hb5).grow hb6).bx
  have xf1 := free_laid (i := 1) ((HSU3.out.grow hb5).grow hb6).bx
  have xf2 := free_laid (i := 2) ((HSU3.out.grow hb5).grow hb6).bx
  obtain ⟨g0, gf0, g1, gf1⟩ := fcl2 hl6
  clear hm hb5 kw kl hs6 hb6 hl6 hS7 hk7 hl7 b1 b2 b3 hw7 hw8 ap p0 p1 p2 a0 a1 a2 a3
  unfold memV
  go_upto_region 20 with (fail)
  rw [← HW7.out, ← HW8.out]
  clear x0 x1 x2 xf0 xf1 xf2 g0 g1 gf0 gf1
  cases d with
  | false =>
    obtain ⟨y0, yf0, y1, yf1, y2, yf2, y3, yf3, y4, yf4, y5, yf5, y6, yf6, y7, yf7⟩ := fcl8 HS8.out.by_
    obtain ⟨g0, g1⟩ := ncl2 KB.out
    obtain ⟨w9, hw9⟩ : ∃ W, (w8.setCell ⟨Y, 0, none⟩ (.int .i64 7)) = W := ⟨_, rfl⟩
    have HS9 : Hid (Sq 53 #[.int .i64 0, .bool false, .int .u64 0, .int .u64 0, .int .u64 0, .int .u64 0, .int .u64 0, .int .u64 0] V X Y Z G wa' wc' la' lc' M' #[.int .i64 7, .bool true, .int .u64 ((link : Nat) : Int), .int .u64 ((at_ : Nat) : Int), .int .u64 ((key : Nat) : Int), .int .u64 ((val : Nat) : Int), .int .u64 ((hash : Nat) : Int), .int .u64 ((next : Nat) : Int)] w9) := hid (by rw [← hw9]; exact (HS8.out.setY (i := 0) (v := .int .i64 7) (cs' := #[.int .i64 7, .bool true, .int .u64 ((link : Nat) : Int), .int .u64 ((at_ : Nat) : Int), .int .u64 ((key : Nat) : Int), .int .u64 ((val : Nat) : Int), .int .u64 ((hash : Nat) : Int), .int .u64 ((next : Nat) : Int)]) rfl))
    have HW9 := hid hw9
    clear hw9
    have HRES : Hid (editE M (⟨5, true, link, at_, key, val, hash, next⟩ : Ede) = (M', ⟨7, true, link, at_, key, val, hash, next⟩, true)) := hid (HSE.out.trans (by rw [if_neg (by decide)]))
    go_upto_region 22 with (fail)
    rw [HW9.out]
    clear y0 y1 y2 y3 y4 y5 y6 y7 yf0 yf1 yf2 yf3 yf4 yf5 yf6 yf7 g0 g1
    go_upto_region 22 with (fail)
    obtain ⟨D, hD⟩ : ∃ DX, (w9).drew = DX := ⟨_, rfl⟩
    have HSD := hid (HS9.out.grow (Below.refl _ _).drew)
    rw [hD] at HSD
    have HD := hid hD
    clear hD
    obtain ⟨U1, U2, hU1, hU2, d1, d2, d3, d4, d5, d6, d7, d8, d9⟩ := HSD.out.fin8 (by decide) (by decide)
    have HU1 := hid hU1
    have HU2 := hid hU2
    have D1 := hid d1
    have D2 := hid d2
    have D3 := hid d3
    have D4 := hid d4
    have D5 := hid d5
    have D6 := hid d6
    have D7 := hid d7
    have D8 := hid d8
    have D9 := hid d9
    clear hU1 hU2 d1 d2 d3 d4 d5 d6 d7 d8 d9
    haveI HNE : Nonempty (RYX 53 X Y #[.slice wa' M'.W.length wc', .slice la' M'.L.length lc', .bool M'.F] #[.int .i64 7, .bool true, .int .u64 ((link : Nat) : Int), .int .u64 ((at_ : Nat) : Int), .int .u64 ((key : Nat) : Int), .int .u64 ((val : Nat) : Int), .int .u64 ((hash : Nat) : Int), .int .u64 ((next : Nat) : Int)]) := ⟨⟨D, HSD.out.bx, HSD.out.by_⟩⟩
    have p0 := ryx_x HNE 0 (.slice wa' M'.W.length wc') rfl
    have p1 := ryx_x HNE 1 (.slice la' M'.L.length lc') rfl
    have p2 := ryx_x HNE 2 (.bool M'.F) rfl
    have q0 := ryx_y HNE 0 (.int .i64 7) rfl
    have q1 := ryx_y HNE 1 (.bool true) rfl
    have q2 := ryx_y HNE 2 (.int .u64 ((link : Nat) : Int)) rfl
    have q3 := ryx_y HNE 3 (.int .u64 ((at_ : Nat) : Int)) rfl
    have q4 := ryx_y HNE 4 (.int .u64 ((key : Nat) : Int)) rfl
    have q5 := ryx_y HNE 5 (.int .u64 ((val : Nat) : Int)) rfl
    have q6 := ryx_y HNE 6 (.int .u64 ((hash : Nat) : Int)) rfl
    have q7 := ryx_y HNE 7 (.int .u64 ((next : Nat) : Int)) rfl
    refine wp_region_mix2 (fun W => ∃ z : RYX 53 X Y #[.slice wa' M'.W.length wc', .slice la' M'.L.length lc', .bool M'.F] #[.int .i64 7, .bool true, .int .u64 ((link : Nat) : Int), .int .u64 ((at_ : Nat) : Int), .int .u64 ((key : Nat) : Int), .int .u64 ((val : Nat) : Int), .int .u64 ((hash : Nat) : Int), .int .u64 ((next : Nat) : Int)], W = z.w) 4 (.q 0 (.q 1 (.h 2 (.h 3 .done)))) (by kernel_rfl) (by kernel_rfl) (by rw [HD.out]; exact ⟨⟨D, HSD.out.bx, HSD.out.by_⟩, rfl⟩) ?_
    rw [HD.out]
    repeat (refine wpMix2_q rfl rfl ?_; go_big_quiet_step (fail); refine wpQuiet_nil ?_)
    obtain ⟨z0, zf0, z1, zf1, z2, zf2⟩ := fcl3 HSD.out.bz
    refine wpMix2_h rfl fun R' hR' hO => ?_
    go_wp2
    rw [← HU1.out]
    refine hR' _ _ ⟨⟨U1, D1.out, D2.out⟩, rfl⟩ ?_
    clear hR' hO R' z0 z1 z2 zf0 zf1 zf2
    obtain ⟨z0, zf0, z1, zf1, z2, zf2, z3, zf3, z4, zf4, z5, zf5, z6, zf6, z7, zf7⟩ := fcl8 D3.out
    refine wpMix2_h rfl fun R' hR' hO => ?_
    go_wp2
    rw [← HU2.out]
    refine hR' _ _ ⟨⟨U2, D4.out, D5.out⟩, rfl⟩ ?_
    clear hR' hO R' z0 z1 z2 z3 z4 z5 z6 z7 zf0 zf1 zf2 zf3 zf4 zf5 zf6 zf7
    refine wpMix2_done ?_
    simp only [List.drop_succ_cons, List.drop_nil]
    go_wp2
    refine bodyPost_ret (EditStep_result D6.out rfl D7.out rfl) rfl ?_
    rw [HRES.out]
    exact ⟨wa', wc', la', lc', rfl, D8.out, D9.out, KW.out, KL.out⟩
  | true =>
    obtain ⟨y0, yf0, y1, yf1, y2, yf2, y3, yf3, y4, yf4, y5, yf5, y6, yf6, y7, yf7⟩ := fcl8 HS8.out.by_
    obtain ⟨g0, g1⟩ := ncl2 KB.out
    obtain ⟨w9, hw9⟩ : ∃ W, (w8.setCell ⟨Y, 0, none⟩ (.int .i64 6)) = W := ⟨_, rfl⟩
    have HS9 : Hid (Sq 53 #[.int .i64 0, .bool false, .int .u64 0, .int .u64 0, .int .u64 0, .int .u64 0, .int .u64 0, .int .u64 0] V X Y Z G wa' wc' la' lc' M' #[.int .i64 6, .bool true, .int .u64 ((link : Nat) : Int), .int .u64 ((at_ : Nat) : Int), .int .u64 ((key : Nat) : Int), .int .u64 ((val : Nat) : Int), .int .u64 ((hash : Nat) : Int), .int .u64 ((next : Nat) : Int)] w9) := hid (by rw [← hw9]; exact (HS8.out.setY (i := 0) (v := .int .i64 6) (cs' := #[.int .i64 6, .bool true, .int .u64 ((link : Nat) : Int), .int .u64 ((at_ : Nat) : Int), .int .u64 ((key : Nat) : Int), .int .u64 ((val : Nat) : Int), .int .u64 ((hash : Nat) : Int), .int .u64 ((next : Nat) : Int)]) rfl))
    have HW9 := hid hw9
    clear hw9
    have HRES : Hid (editE M (⟨5, true, link, at_, key, val, hash, next⟩ : Ede) = (M', ⟨6, true, link, at_, key, val, hash, next⟩, true)) := hid (HSE.out.trans (by rw [if_pos rfl]))
    go_upto_region 26 with (fail)
    rw [HW9.out]
    clear y0 y1 y2 y3 y4 y5 y6 y7 yf0 yf1 yf2 yf3 yf4 yf5 yf6 yf7 g0 g1
    go_upto_region 26 with (fail)
    obtain ⟨D, hD⟩ : ∃ DX, (w9).drew = DX := ⟨_, rfl⟩
    have HSD := hid (HS9.out.grow (Below.refl _ _).drew)
    rw [hD] at HSD
    have HD := hid hD
    clear hD
    obtain ⟨U1, U2, hU1, hU2, d1, d2, d3, d4, d5, d6, d7, d8, d9⟩ := HSD.out.fin8 (by decide) (by decide)
    have HU1 := hid hU1
    have HU2 := hid hU2
    have D1 := hid d1
    have D2 := hid d2
    have D3 := hid d3
    have D4 := hid d4
    have D5 := hid d5
    have D6 := hid d6
    have D7 := hid d7
    have D8 := hid d8
    have D9 := hid d9
    clear hU1 hU2 d1 d2 d3 d4 d5 d6 d7 d8 d9
    haveI HNE : Nonempty (RYX 53 X Y #[.slice wa' M'.W.length wc', .slice la' M'.L.length lc', .bool M'.F] #[.int .i64 6, .bool true, .int .u64 ((link : Nat) : Int), .int .u64 ((at_ : Nat) : Int), .int .u64 ((key : Nat) : Int), .int .u64 ((val : Nat) : Int), .int .u64 ((hash : Nat) : Int), .int .u64 ((next : Nat) : Int)]) := ⟨⟨D, HSD.out.bx, HSD.out.by_⟩⟩
    have p0 := ryx_x HNE 0 (.slice wa' M'.W.length wc') rfl
    have p1 := ryx_x HNE 1 (.slice la' M'.L.length lc') rfl
    have p2 := ryx_x HNE 2 (.bool M'.F) rfl
    have q0 := ryx_y HNE 0 (.int .i64 6) rfl
    have q1 := ryx_y HNE 1 (.bool true) rfl
    have q2 := ryx_y HNE 2 (.int .u64 ((link : Nat) : Int)) rfl
    have q3 := ryx_y HNE 3 (.int .u64 ((at_ : Nat) : Int)) rfl
    have q4 := ryx_y HNE 4 (.int .u64 ((key : Nat) : Int)) rfl
    have q5 := ryx_y HNE 5 (.int .u64 ((val : Nat) : Int)) rfl
    have q6 := ryx_y HNE 6 (.int .u64 ((hash : Nat) : Int)) rfl
    have q7 := ryx_y HNE 7 (.int .u64 ((next : Nat) : Int)) rfl
    refine wp_region_mix2 (fun W => ∃ z : RYX 53 X Y #[.slice wa' M'.W.length wc', .slice la' M'.L.length lc', .bool M'.F] #[.int .i64 6, .bool true, .int .u64 ((link : Nat) : Int), .int .u64 ((at_ : Nat) : Int), .int .u64 ((key : Nat) : Int), .int .u64 ((val : Nat) : Int), .int .u64 ((hash : Nat) : Int), .int .u64 ((next : Nat) : Int)], W = z.w) 4 (.q 0 (.q 1 (.h 2 (.h 3 .done)))) (by kernel_rfl) (by kernel_rfl) (by rw [HD.out]; exact ⟨⟨D, HSD.out.bx, HSD.out.by_⟩, rfl⟩) ?_
    rw [HD.out]
    repeat (refine wpMix2_q rfl rfl ?_; go_big_quiet_step (fail); refine wpQuiet_nil ?_)
    obtain ⟨z0, zf0, z1, zf1, z2, zf2⟩ := fcl3 HSD.out.bz
    refine wpMix2_h rfl fun R' hR' hO => ?_
    go_wp2
    rw [← HU1.out]
    refine hR' _ _ ⟨⟨U1, D1.out, D2.out⟩, rfl⟩ ?_
    clear hR' hO R' z0 z1 z2 zf0 zf1 zf2
    obtain ⟨z0, zf0, z1, zf1, z2, zf2, z3, zf3, z4, zf4, z5, zf5, z6, zf6, z7, zf7⟩ := fcl8 D3.out
    refine wpMix2_h rfl fun R' hR' hO => ?_
    go_wp2
    rw [← HU2.out]
    refine hR' _ _ ⟨⟨U2, D4.out, D5.out⟩, rfl⟩ ?_
    clear hR' hO R' z0 z1 z2 z3 z4 z5 z6 z7 zf0 zf1 zf2 zf3 zf4 zf5 zf6 zf7
    refine wpMix2_done ?_
    simp only [List.drop_succ_cons, List.drop_nil]
    go_wp2
    refine bodyPost_ret (EditStep_result D6.out rfl D7.out rfl) rfl ?_
    rw [HRES.out]
    exact ⟨wa', wc', la', lc', rfl, D8.out, D9.out, KW.out, KL.out⟩
set_option maxRecDepth 100000 in
set_option maxHeartbeats 8000000 in
theorem redit5f_any (M : Mem) (s : Ede) (wa la : Option Addr) (wc lc : Nat) (V : World) (h : MemL V wa wc la lc M) (hok : okM M = true) (hs : s.Ok) (hph : s.ph = 5) (hcu : s.cuts = false) :
    Calls Try.prog 27 #[memV wa wc la lc M, edV s] V (GivesRE wa la ((editE M s).1, (editE M s).2.1) V) := by
  obtain ⟨ph, cuts, link, at_, key, val, hash, next⟩ := s
  obtain rfl : ph = 5 := hph
  obtain rfl : cuts = false := hcu
  obtain ⟨V1, hV1, hbV1, hsV1, hlV1⟩ := laid V #[.slice wa M.W.length wc, .slice la M.L.length lc, .bool M.F] 25
  obtain ⟨V2, hV2, hbV2, hsV2, hlV2⟩ := laid V1 #[.int .i64 5, .bool false, .int .u64 ((link : Nat) : Int), .int .u64 ((at_ : Nat) : Int), .int .u64 ((key : Nat) : Int), .int .u64 ((val : Nat) : Int), .int .u64 ((hash : Nat) : Int), .int .u64 ((next : Nat) : Int)] 53
  obtain ⟨V3, hV3, hbV3, hsV3, hlV3⟩ := laid V2 #[.slice none 0 0, .slice none 0 0, .bool false] 25
  obtain ⟨V4, hV4, hbV4, hsV4, hlV4⟩ := laid V3 #[.int .i64 0, .bool false, .int .u64 0, .int .u64 0, .int .u64 0, .int .u64 0, .int .u64 0, .int .u64 0] 53
  obtain ⟨V5, hV5, hbV5, hsV5, hlV5⟩ := laid V4 #[.int .i64 0, .int .i64 0, .int .u64 0, .int .u64 0] 73
  obtain ⟨X, hX⟩ : ∃ X, V.heap.size = X := ⟨_, rfl⟩
  rw [hX] at hlV1
  obtain ⟨Y, hY⟩ : ∃ X, V1.heap.size = X := ⟨_, rfl⟩
  rw [hY] at hlV2
  obtain ⟨Z, hZ⟩ : ∃ X, V2.heap.size = X := ⟨_, rfl⟩
  rw [hZ] at hlV3
  obtain ⟨G, hG⟩ : ∃ X, V3.heap.size = X := ⟨_, rfl⟩
  rw [hG] at hlV4
  obtain ⟨A, hA⟩ : ∃ X, V4.heap.size = X := ⟨_, rfl⟩
  rw [hA] at hlV5
  have KX := hid (keep_laid (keep_laid (keep_laid (keep_laid hlV1 hbV2) hbV3) hbV4) hbV5)
  have KY := hid (keep_laid (keep_laid (keep_laid hlV2 hbV3) hbV4) hbV5)
  have KZ := hid (keep_laid (keep_laid hlV3 hbV4) hbV5)
  have KG := hid (keep_laid hlV4 hbV5)
  have KA := hid hlV5
  have HB := hid (step (step (step (step hbV1 hbV2) hbV3) hbV4) hbV5)
  have hVX : V.heap.size ≤ X := by omega
  have hVY : V.heap.size ≤ Y := by omega
  have nXY : X < Y := by omega
  have hVZ : V.heap.size ≤ Z := by omega
  have nXZ : X < Z := by omega
  have nYZ : Y < Z := by omega
  have hVG : V.heap.size ≤ G := by omega
  have nXG : X < G := by omega
  have nYG : Y < G := by omega
  have nZG : Z < G := by omega
  have hVA : V.heap.size ≤ A := by omega
  have nXA : X < A := by omega
  have nYA : Y < A := by omega
  have nZA : Z < A := by omega
  have nGA : G < A := by omega
  clear hbV1 hsV1 hlV1 hbV2 hsV2 hlV2 hbV3 hsV3 hlV3 hbV4 hsV4 hlV4 hbV5 hsV5 hlV5
  obtain ⟨aw, al⟩ := h.low hok (X := X) (G := G) (by omega)
  have HLW := hid (h.lowA hok)
  have HS5 := hid (show Sq 53 #[.int .i64 0, .bool false, .int .u64 0, .int .u64 0, .int .u64 0, .int .u64 0, .int .u64 0, .int .u64 0] V X Y Z G wa wc la lc M #[.int .i64 5, .bool false, .int .u64 ((link : Nat) : Int), .int .u64 ((at_ : Nat) : Int), .int .u64 ((key : Nat) : Int), .int .u64 ((val : Nat) : Int), .int .u64 ((hash : Nat) : Int), .int .u64 ((next : Nat) : Int)] V5 from ⟨KX.out, KY.out, KZ.out, KG.out, h.grow HB.out, aw, al, HB.out, by omega⟩)
  obtain ⟨V6, hV6, a1, a2, a3⟩ := put4 KA.out (.int .i64 2) (.int .i64 0) (.int .u64 0) (.int .u64 0)
  have HS6 := hid (HS5.out.keep nGA (HLW.out.1.apart hVA) (HLW.out.2.apart hVA) a2 (a3 _ _ hVA HB.out))
  have KA6 := hid a1
  have HV6 := hid hV6
  clear hV6 a1 a2 a3
  have hwl := h.w.len
  have hll := h.l.len
  have HSO := hid hs
  have HOK := hid hok
  unfold memV edV
  dsimp only
  have y0 := cell_laid (i := 0) KY.out rfl
  obtain ⟨a0, af0, a1, af1, a2, af2, a3, af3⟩ := fcl4 KA.out
  obtain ⟨⟨M', x, d⟩, hX⟩ : ∃ X, stepM M true ((posL link 0 : Nat) : Int) at_ = X := ⟨_, rfl⟩
  have HSE : Hid (editE M (⟨5, false, link, at_, key, val, hash, next⟩ : Ede) = (M', (if d = true then (⟨6, false, link, at_, key, val, hash, next⟩ : Ede) else (⟨7, false, link, at_, key, val, hash, next⟩ : Ede)), true)) := hid (by
    have e0 : editE M (⟨5, false, link, at_, key, val, hash, next⟩ : Ede) = ((stepM M true ((posL link 0 : Nat) : Int) at_).1, (if (stepM M true ((posL link 0 : Nat) : Int) at_).2.2 = true then (⟨6, false, link, at_, key, val, hash, next⟩ : Ede) else (⟨7, false, link, at_, key, val, hash, next⟩ : Ede)), true) := by
      unfold editE; rw [if_neg (show ¬ ((6 : Int) ≤ 5) by decide)]; rfl
    rw [e0, hX])
  obtain ⟨P, hP⟩ : ∃ q, posL link 0 = q := ⟨_, rfl⟩
  have HAT := hid (fun W => rat_any link 0 W hs.link (by decide))
  rw [hP] at HAT
  have hp : P ≤ 5000 := by rw [← hP]; exact posL_le _ _ (by decide)
  have HST : Hid (∀ W, MemL W wa wc la lc M → Calls Try.prog 56 #[.agg #[.slice wa M.W.length wc, .slice la M.L.length lc, .bool M.F], .agg #[.int .i64 2, .int .i64 ((P : Nat) : Int), .int .u64 0, .int .u64 ((at_ : Nat) : Int)]] W (GivesR wa la M' x d W)) := hid (fun W hm => by
    have := RefStep_any M wa la wc lc true 2 ((posL link 0 : Nat) : Int) 0 at_ W hm hok (by rw [hP]; omega) rfl
    rw [hX, hP] at this
    exact this)
  have HLM : Hid (1 ≤ M'.W.length ∧ 1 ≤ M'.L.length) := hid (by have e1 := stepM_len M true ((posL link 0 : Nat) : Int) at_; have e2 := stepM_L M true ((posL link 0 : Nat) : Int) at_; rw [hX] at e1 e2; dsimp only at e1 e2; obtain ⟨a, b, d, -⟩ := okM_spec hok; rw [e2]; omega)
  clear h hok hs aw al KX KY KZ KG HB hX hP
  go_enter Try.func27, Try.ntmps27
  go_upto_region 2 with (fail)
  rw [← HV6.out]
  clear y0 a0 a1 a2 a3 af0 af1 af2 af3
  have y0 := cell_laid (i := 0) HS6.out.by_ rfl
  go_upto_region 16 with (fail)
  obtain ⟨D, hD⟩ : ∃ DX, V6.drew = DX := ⟨_, rfl⟩
  have hbD : Below V6.heap.size V6 D := by rw [← hD]; exact (Below.refl _ _).drew
  have HSD := hid (HS6.out.grow hbD)
  have KAD := hid (keep_laid KA6.out hbD)
  have HD := hid hD
  clear hD hbD
  obtain ⟨U1, hU1⟩ : ∃ W, D.setCell ⟨A, 1, none⟩ (.int .i64 ((P : Nat) : Int)) = W := ⟨_, rfl⟩
  have HSU1 := hid (HSD.out.keep (W' := U1) nGA (HLW.out.1.apart hVA) (HLW.out.2.apart hVA) (fun k o hk ho => by rw [← hU1]; exact other_laid ho hk _) (by rw [← hU1]; exact HSD.out.below.setCell (p := ⟨A, 1, none⟩) hVA _))
  have KA1 : Hid (U1.heap[A]? = some (.cells #[.int .i64 2, .int .i64 ((P : Nat) : Int), .int .u64 0, .int .u64 0] 73 (0, 0))) := hid (by rw [← hU1]; exact set_laid (i := 1) KAD.out _)
  obtain ⟨U2, hU2⟩ : ∃ W, U1.setCell ⟨A, 3, none⟩ (.int .u64 ((at_ : Nat) : Int)) = W := ⟨_, rfl⟩
  have HSU2 := hid (HSU1.out.keep (W' := U2) nGA (HLW.out.1.apart hVA) (HLW.out.2.apart hVA) (fun k o hk ho => by rw [← hU2]; exact other_laid ho hk _) (by rw [← hU2]; exact HSU1.out.below.setCell (p := ⟨A, 3, none⟩) hVA _))
  have KA2 : Hid (U2.heap[A]? = some (.cells #[.int .i64 2, .int .i64 ((P : Nat) : Int), .int .u64 0, .int .u64 ((at_ : Nat) : Int)] 73 (0, 0))) := hid (by rw [← hU2]; exact set_laid (i := 3) KA1.out _)
  have HU1 := hid hU1
  have HU2 := hid hU2
  clear hU1 hU2 y0
  haveI HNE : Nonempty (RY1 53 Y #[.int .i64 5, .bool false, .int .u64 ((link : Nat) : Int), .int .u64 ((at_ : Nat) : Int), .int .u64 ((key : Nat) : Int), .int .u64 ((val : Nat) : Int), .int .u64 ((hash : Nat) : Int), .int .u64 ((next : Nat) : Int)]) := ⟨⟨D, HSD.out.by_⟩⟩
  have q0 := ry1_y HNE 0 (.int .i64 5) rfl
  have q1 := ry1_y HNE 1 (.bool false) rfl
  have q2 := ry1_y HNE 2 (.int .u64 ((link : Nat) : Int)) rfl
  have q3 := ry1_y HNE 3 (.int .u64 ((at_ : Nat) : Int)) rfl
  have q4 := ry1_y HNE 4 (.int .u64 ((key : Nat) : Int)) rfl
  have q5 := ry1_y HNE 5 (.int .u64 ((val : Nat) : Int)) rfl
  have q6 := ry1_y HNE 6 (.int .u64 ((hash : Nat) : Int)) rfl
  have q7 := ry1_y HNE 7 (.int .u64 ((next : Nat) : Int)) rfl
  refine wp_region_mix2 (fun W => ∃ z : RY1 53 Y #[.int .i64 5, .bool false, .int .u64 ((link : Nat) : Int), .int .u64 ((at_ : Nat) : Int), .int .u64 ((key : Nat) : Int), .int .u64 ((val : Nat) : Int), .int .u64 ((hash : Nat) : Int), .int .u64 ((next : Nat) : Int)], W = z.w) 10 (.q 0 (.q 1 (.q 3 (.q 4 (.q 5 (.h 2 (.q 6 (.h 7 (.q 8 (.h 9 .done)))))))))) (by kernel_rfl) (by kernel_rfl) (by rw [HD.out]; exact ⟨⟨D, HSD.out.by_⟩, rfl⟩) ?_
  rw [HD.out]
  repeat (refine wpMix2_q rfl rfl ?_; go_big_quiet_step (fail); refine wpQuiet_nil ?_)
  refine wpMix2_h rfl fun R' hR' hO => ?_
  go_wp2_with fail
  refine (HAT.out D).mono ?_
  rintro e wq ⟨rfl, hwq⟩
  rw [hwq]
  clear hwq wq
  go_wp2
  refine hR' _ _ ⟨⟨D, HSD.out.by_⟩, rfl⟩ ?_
  clear hR' hO R'
  repeat (refine wpMix2_q rfl rfl ?_; go_big_quiet_step (fail); refine wpQuiet_nil ?_)
  have a1 := cell_laid (i := 1) KAD.out rfl
  have af1 := free_laid (i := 1) KAD.out
  refine wpMix2_h rfl fun R' hR' hO => ?_
  go_wp2
  rw [HU1.out]
  refine hR' _ _ ⟨⟨U1, HSU1.out.by_⟩, rfl⟩ ?_
  clear hR' hO R' a1 af1
  repeat (refine wpMix2_q rfl rfl ?_; go_big_quiet_step (fail); refine wpQuiet_nil ?_)
  have a3 := cell_laid (i := 3) KA1.out rfl
  have af3 := free_laid (i := 3) KA1.out
  refine wpMix2_h rfl fun R' hR' hO => ?_
  go_wp2
  rw [HU2.out]
  refine hR' _ _ ⟨⟨U2, HSU2.out.by_⟩, rfl⟩ ?_
  clear hR' hO R' a3 af3
  refine wpMix2_done ?_
  simp only [List.drop_succ_cons, List.drop_nil]
  clear q0 q1 q2 q3 q4 q5 q6 q7
  have y1 := cell_laid (i := 1) HSU2.out.by_ rfl
  go_upto_region 19 with (fail)
  clear y1
  obtain ⟨p0, p1, p2⟩ := cells3 HSU2.out.bx
  obtain ⟨a0, a1, a2, a3⟩ := ncl4 KA2.out
  go_wp2_with fail
  refine (HST.out U2 HSU2.out.mem).mono ?_
  rintro e w5 ⟨wa', wc', la', lc', rfl, hm, hb5, kw, kl⟩
  have hG4 : G < U2.heap.size := lt_laid HSU2.out.bg
  have hVD := HSU2.out.below.size
  have hA4 : A < U2.heap.size := lt_laid KA2.out
  obtain ⟨w6, hw6, hb6, hs6, hl6⟩ := laid w5 #[.int .u64 0, .bool false] 69
  obtain ⟨B, hB⟩ : ∃ X, w5.heap.size = X := ⟨_, rfl⟩
  rw [hB] at hl6
  have ap : apartA wa' B ∧ apartA la' B := by
    have e1 := hm.w
    have e2 := hm.l
    constructor
    · rintro b off rfl rfl
      obtain ⟨_, _, ⟨q, _⟩ | ⟨b', o', q, q2, _⟩⟩ := e1
      · have := HLM.out; omega
      · cases q; omega
    · rintro b off rfl rfl
      obtain ⟨_, _, ⟨q, _⟩ | ⟨b', o', q, q2, _⟩⟩ := e2
      · have := HLM.out; omega
      · cases q; omega
  obtain ⟨w7, hw7, hS7, hk7⟩ := ((HSU2.out.grow hb5).grow hb6).putX (hm.grow hb6) (HSU2.out.aw.kept kw hG4) (HSU2.out.al.kept kl hG4)
  have hGB : G < B := by have := hb5.size; omega
  have hXB : X < B := by omega
  have hl7 := hk7 B _ (by omega) hl6
  obtain ⟨w8, hw8, b1, b2, b3⟩ := put_got hl7 (by decide) (by decide) (.int .u64 ((x : Nat) : Int)) (.bool d)
  have HS8 := hid (hS7.keep hGB ap.1 ap.2 b2 (b3.1 _ _ (by have := hVD; have := hb5.size; omega) hS7.below))
  have KB := hid b1
  have KW := hid (kw.mono hVD)
  have KL := hid (kl.mono hVD)
  have HW7 := hid hw7
  have HW8 := hid hw8
  have hwl' := hm.w.len
  have hll' := hm.l.len
  have hXnB : X ≠ B := by omega
  have hBnX : B ≠ X := by omega
  obtain ⟨x0, x1, x2⟩ := cells3 ((HSU2.out.grow hb5).grow hb6).bx
  have xf0 := free_laid (i := 0) ((HSU2.out.grow hb5).grow hb6).bx
  have xf1 := free_laid (i := 1) ((HSU2.out.grow hb5).grow hb6).bx
  have xf2 := free_laid (i := 2) ((HSU2.out.grow hb5).grow hb6).bx
  obtain ⟨g0, gf0, g1, gf1⟩ := fcl2 hl6
  clear hm hb5 kw kl hs6 hb6 hl6 hS7 hk7 hl7 b1 b2 b3 hw7 hw8 ap p0 p1 p2 a0 a1 a2 a3
  unfold memV
  go_upto_region 20 with (fail)
  rw [← HW7.out, ← HW8.out]
  clear x0 x1 x2 xf0 xf1 xf2 g0 g1 gf0 gf1
  cases d with
  | false =>
    obtain ⟨y0, yf0, y1, yf1, y2, yf2, y3, yf3, y4, yf4, y5, yf5, y6, yf6, y7, yf7⟩ := fcl8 HS8.out.by_
    obtain ⟨g0, g1⟩ := ncl2 KB.out
    obtain ⟨w9, hw9⟩ : ∃ W, (w8.setCell ⟨Y, 0, none⟩ (.int .i64 7)) = W := ⟨_, rfl⟩
    have HS9 : Hid (Sq 53 #[.int .i64 0, .bool false, .int .u64 0, .int .u64 0, .int .u64 0, .int .u64 0, .int .u64 0, .int .u64 0] V X Y Z G wa' wc' la' lc' M' #[.int .i64 7, .bool false, .int .u64 ((link : Nat) : Int), .int .u64 ((at_ : Nat) : Int), .int .u64 ((key : Nat) : Int), .int .u64 ((val : Nat) : Int), .int .u64 ((hash : Nat) : Int), .int .u64 ((next : Nat) : Int)] w9) := hid (by rw [← hw9]; exact (HS8.out.setY (i := 0) (v := .int .i64 7) (cs' := #[.int .i64 7, .bool false, .int .u64 ((link : Nat) : Int), .int .u64 ((at_ : Nat) : Int), .int .u64 ((key : Nat) : Int), .int .u64 ((val : Nat) : Int), .int .u64 ((hash : Nat) : Int), .int .u64 ((next : Nat) : Int)]) rfl))
    have HW9 := hid hw9
    clear hw9
    have HRES : Hid (editE M (⟨5, false, link, at_, key, val, hash, next⟩ : Ede) = (M', ⟨7, false, link, at_, key, val, hash, next⟩, true)) := hid (HSE.out.trans (by rw [if_neg (by decide)]))
    go_upto_region 22 with (fail)
    rw [HW9.out]
    clear y0 y1 y2 y3 y4 y5 y6 y7 yf0 yf1 yf2 yf3 yf4 yf5 yf6 yf7 g0 g1
    go_upto_region 22 with (fail)
    obtain ⟨D, hD⟩ : ∃ DX, (w9).drew = DX := ⟨_, rfl⟩
    have HSD := hid (HS9.out.grow (Below.refl _ _).drew)
    rw [hD] at HSD
    have HD := hid hD
    clear hD
    obtain ⟨U1, U2, hU1, hU2, d1, d2, d3, d4, d5, d6, d7, d8, d9⟩ := HSD.out.fin8 (by decide) (by decide)
    have HU1 := hid hU1
    have HU2 := hid hU2
    have D1 := hid d1
    have D2 := hid d2
    have D3 := hid d3
    have D4 := hid d4
    have D5 := hid d5
    have D6 := hid d6
    have D7 := hid d7
    have D8 := hid d8
    have D9 := hid d9
    clear hU1 hU2 d1 d2 d3 d4 d5 d6 d7 d8 d9
    haveI HNE : Nonempty (RYX 53 X Y #[.slice wa' M'.W.length wc', .slice la' M'.L.length lc', .bool M'.F] #[.int .i64 7, .bool false, .int .u64 ((link : Nat) : Int), .int .u64 ((at_ : Nat) : Int), .int .u64 ((key : Nat) : Int), .int .u64 ((val : Nat) : Int), .int .u64 ((hash : Nat) : Int), .int .u64 ((next : Nat) : Int)]) := ⟨⟨D, HSD.out.bx, HSD.out.by_⟩⟩
    have p0 := ryx_x HNE 0 (.slice wa' M'.W.length wc') rfl
    have p1 := ryx_x HNE 1 (.slice la' M'.L.length lc') rfl
    have p2 := ryx_x HNE 2 (.bool M'.F) rfl
    have q0 := ryx_y HNE 0 (.int .i64 7) rfl
    have q1 := ryx_y HNE 1 (.bool false) rfl
    have q2 := ryx_y HNE 2 (.int .u64 ((link : Nat) : Int)) rfl
    have q3 := ryx_y HNE 3 (.int .u64 ((at_ : Nat) : Int)) rfl
    have q4 := ryx_y HNE 4 (.int .u64 ((key : Nat) : Int)) rfl
    have q5 := ryx_y HNE 5 (.int .u64 ((val : Nat) : Int)) rfl
    have q6 := ryx_y HNE 6 (.int .u64 ((hash : Nat) : Int)) rfl
    have q7 := ryx_y HNE 7 (.int .u64 ((next : Nat) : Int)) rfl
    refine wp_region_mix2 (fun W => ∃ z : RYX 53 X Y #[.slice wa' M'.W.length wc', .slice la' M'.L.length lc', .bool M'.F] #[.int .i64 7, .bool false, .int .u64 ((link : Nat) : Int), .int .u64 ((at_ : Nat) : Int), .int .u64 ((key : Nat) : Int), .int .u64 ((val : Nat) : Int), .int .u64 ((hash : Nat) : Int), .int .u64 ((next : Nat) : Int)], W = z.w) 4 (.q 0 (.q 1 (.h 2 (.h 3 .done)))) (by kernel_rfl) (by kernel_rfl) (by rw [HD.out]; exact ⟨⟨D, HSD.out.bx, HSD.out.by_⟩, rfl⟩) ?_
    rw [HD.out]
    repeat (refine wpMix2_q rfl rfl ?_; go_big_quiet_step (fail); refine wpQuiet_nil ?_)
    obtain ⟨z0, zf0, z1, zf1, z2, zf2⟩ := fcl3 HSD.out.bz
    refine wpMix2_h rfl fun R' hR' hO => ?_
    go_wp2
    rw [← HU1.out]
    refine hR' _ _ ⟨⟨U1, D1.out, D2.out⟩, rfl⟩ ?_
    clear hR' hO R' z0 z1 z2 zf0 zf1 zf2
    obtain ⟨z0, zf0, z1, zf1, z2, zf2, z3, zf3, z4, zf4, z5, zf5, z6, zf6, z7, zf7⟩ := fcl8 D3.out
    refine wpMix2_h rfl fun R' hR' hO => ?_
    go_wp2
    rw [← HU2.out]
    refine hR' _ _ ⟨⟨U2, D4.out, D5.out⟩, rfl⟩ ?_
    clear hR' hO R' z0 z1 z2 z3 z4 z5 z6 z7 zf0 zf1 zf2 zf3 zf4 zf5 zf6 zf7
    refine wpMix2_done ?_
    simp only [List.drop_succ_cons, List.drop_nil]
    go_wp2
    refine bodyPost_ret (EditStep_result D6.out rfl D7.out rfl) rfl ?_
    rw [HRES.out]
    exact ⟨wa', wc', la', lc', rfl, D8.out, D9.out, KW.out, KL.out⟩
  | true =>
    obtain ⟨y0, yf0, y1, yf1, y2, yf2, y3, yf3, y4, yf4, y5, yf5, y6, yf6, y7, yf7⟩ := fcl8 HS8.out.by_
    obtain ⟨g0, g1⟩ := ncl2 KB.out
    obtain ⟨w9, hw9⟩ : ∃ W, (w8.setCell ⟨Y, 0, none⟩ (.int .i64 6)) = W := ⟨_, rfl⟩
    have HS9 : Hid (Sq 53 #[.int .i64 0, .bool false, .int .u64 0, .int .u64 0, .int .u64 0, .int .u64 0, .int .u64 0, .int .u64 0] V X Y Z G wa' wc' la' lc' M' #[.int .i64 6, .bool false, .int .u64 ((link : Nat) : Int), .int .u64 ((at_ : Nat) : Int), .int .u64 ((key : Nat) : Int), .int .u64 ((val : Nat) : Int), .int .u64 ((hash : Nat) : Int), .int .u64 ((next : Nat) : Int)] w9) := hid (by rw [← hw9]; exact (HS8.out.setY (i := 0) (v := .int .i64 6) (cs' := #[.int .i64 6, .bool false, .int .u64 ((link : Nat) : Int), .int .u64 ((at_ : Nat) : Int), .int .u64 ((key : Nat) : Int), .int .u64 ((val : Nat) : Int), .int .u64 ((hash : Nat) : Int), .int .u64 ((next : Nat) : Int)]) rfl))
    have HW9 := hid hw9
    clear hw9
    have HRES : Hid (editE M (⟨5, false, link, at_, key, val, hash, next⟩ : Ede) = (M', ⟨6, false, link, at_, key, val, hash, next⟩, true)) := hid (HSE.out.trans (by rw [if_pos rfl]))
    go_upto_region 26 with (fail)
    rw [HW9.out]
    clear y0 y1 y2 y3 y4 y5 y6 y7 yf0 yf1 yf2 yf3 yf4 yf5 yf6 yf7 g0 g1
    go_upto_region 26 with (fail)
    obtain ⟨D, hD⟩ : ∃ DX, (w9).drew = DX := ⟨_, rfl⟩
    have HSD := hid (HS9.out.grow (Below.refl _ _).drew)
    rw [hD] at HSD
    have HD := hid hD
    clear hD
    obtain ⟨U1, U2, hU1, hU2, d1, d2, d3, d4, d5, d6, d7, d8, d9⟩ := HSD.out.fin8 (by decide) (by decide)
    have HU1 := hid hU1
    have HU2 := hid hU2
    have D1 := hid d1
    have D2 := hid d2
    have D3 := hid d3
    have D4 := hid d4
    have D5 := hid d5
    have D6 := hid d6
    have D7 := hid d7
    have D8 := hid d8
    have D9 := hid d9
    clear hU1 hU2 d1 d2 d3 d4 d5 d6 d7 d8 d9
    haveI HNE : Nonempty (RYX 53 X Y #[.slice wa' M'.W.length wc', .slice la' M'.L.length lc', .bool M'.F] #[.int .i64 6, .bool false, .int .u64 ((link : Nat) : Int), .int .u64 ((at_ : Nat) : Int), .int .u64 ((key : Nat) : Int), .int .u64 ((val : Nat) : Int), .int .u64 ((hash : Nat) : Int), .int .u64 ((next : Nat) : Int)]) := ⟨⟨D, HSD.out.bx, HSD.out.by_⟩⟩
    have p0 := ryx_x HNE 0 (.slice wa' M'.W.length wc') rfl
    have p1 := ryx_x HNE 1 (.slice la' M'.L.length lc') rfl
    have p2 := ryx_x HNE 2 (.bool M'.F) rfl
    have q0 := ryx_y HNE 0 (.int .i64 6) rfl
    have q1 := ryx_y HNE 1 (.bool false) rfl
    have q2 := ryx_y HNE 2 (.int .u64 ((link : Nat) : Int)) rfl
    have q3 := ryx_y HNE 3 (.int .u64 ((at_ : Nat) : Int)) rfl
    have q4 := ryx_y HNE 4 (.int .u64 ((key : Nat) : Int)) rfl
    have q5 := ryx_y HNE 5 (.int .u64 ((val : Nat) : Int)) rfl
    have q6 := ryx_y HNE 6 (.int .u64 ((hash : Nat) : Int)) rfl
    have q7 := ryx_y HNE 7 (.int .u64 ((next : Nat) : Int)) rfl
    refine wp_region_mix2 (fun W => ∃ z : RYX 53 X Y #[.slice wa' M'.W.length wc', .slice la' M'.L.length lc', .bool M'.F] #[.int .i64 6, .bool false, .int .u64 ((link : Nat) : Int), .int .u64 ((at_ : Nat) : Int), .int .u64 ((key : Nat) : Int), .int .u64 ((val : Nat) : Int), .int .u64 ((hash : Nat) : Int), .int .u64 ((next : Nat) : Int)], W = z.w) 4 (.q 0 (.q 1 (.h 2 (.h 3 .done)))) (by kernel_rfl) (by kernel_rfl) (by rw [HD.out]; exact ⟨⟨D, HSD.out.bx, HSD.out.by_⟩, rfl⟩) ?_
    rw [HD.out]
    repeat (refine wpMix2_q rfl rfl ?_; go_big_quiet_step (fail); refine wpQuiet_nil ?_)
    obtain ⟨z0, zf0, z1, zf1, z2, zf2⟩ := fcl3 HSD.out.bz
    refine wpMix2_h rfl fun R' hR' hO => ?_
    go_wp2
    rw [← HU1.out]
    refine hR' _ _ ⟨⟨U1, D1.out, D2.out⟩, rfl⟩ ?_
    clear hR' hO R' z0 z1 z2 zf0 zf1 zf2
    obtain ⟨z0, zf0, z1, zf1, z2, zf2, z3, zf3, z4, zf4, z5, zf5, z6, zf6, z7, zf7⟩ := fcl8 D3.out
    refine wpMix2_h rfl fun R' hR' hO => ?_
    go_wp2
    rw [← HU2.out]
    refine hR' _ _ ⟨⟨U2, D4.out, D5.out⟩, rfl⟩ ?_
    clear hR' hO R' z0 z1 z2 z3 z4 z5 z6 z7 zf0 zf1 zf2 zf3 zf4 zf5 zf6 zf7
    refine wpMix2_done ?_
    simp only [List.drop_succ_cons, List.drop_nil]
    go_wp2
    refine bodyPost_ret (EditStep_result D6.out rfl D7.out rfl) rfl ?_
    rw [HRES.out]
    exact ⟨wa', wc', la', lc', rfl, D8.out, D9.out, KW.out, KL.out⟩
set_option maxRecDepth 100000 in
set_option maxHeartbeats 8000000 in
theorem redit6_any (M : Mem) (s : Ede) (wa la : Option Addr) (wc lc : Nat) (V : World) (h : MemL V wa wc la lc M) (hok : okM M = true) (hs : s.Ok) (hph : 6 ≤ s.ph) :
    Calls Try.prog 27 #[memV wa wc la lc M, edV s] V (GivesRE wa la ((editE M s).1, (editE M s).2.1) V) := by
  obtain ⟨ph, cuts, link, at_, key, val, hash, next⟩ := s
  obtain ⟨V1, hV1, hbV1, hsV1, hlV1⟩ := laid V #[.slice wa M.W.length wc, .slice la M.L.length lc, .bool M.F] 25
  obtain ⟨V2, hV2, hbV2, hsV2, hlV2⟩ := laid V1 #[.int .i64 ph, .bool cuts, .int .u64 ((link : Nat) : Int), .int .u64 ((at_ : Nat) : Int), .int .u64 ((key : Nat) : Int), .int .u64 ((val : Nat) : Int), .int .u64 ((hash : Nat) : Int), .int .u64 ((next : Nat) : Int)] 53
  obtain ⟨V3, hV3, hbV3, hsV3, hlV3⟩ := laid V2 #[.slice none 0 0, .slice none 0 0, .bool false] 25
  obtain ⟨V4, hV4, hbV4, hsV4, hlV4⟩ := laid V3 #[.int .i64 0, .bool false, .int .u64 0, .int .u64 0, .int .u64 0, .int .u64 0, .int .u64 0, .int .u64 0] 53
  obtain ⟨V5, hV5, hbV5, hsV5, hlV5⟩ := laid V4 #[.int .i64 0, .int .i64 0, .int .u64 0, .int .u64 0] 73
  obtain ⟨X, hX⟩ : ∃ X, V.heap.size = X := ⟨_, rfl⟩
  rw [hX] at hlV1
  obtain ⟨Y, hY⟩ : ∃ X, V1.heap.size = X := ⟨_, rfl⟩
  rw [hY] at hlV2
  obtain ⟨Z, hZ⟩ : ∃ X, V2.heap.size = X := ⟨_, rfl⟩
  rw [hZ] at hlV3
  obtain ⟨G, hG⟩ : ∃ X, V3.heap.size = X := ⟨_, rfl⟩
  rw [hG] at hlV4
  obtain ⟨A, hA⟩ : ∃ X, V4.heap.size = X := ⟨_, rfl⟩
  rw [hA] at hlV5
  have KX := hid (keep_laid (keep_laid (keep_laid (keep_laid hlV1 hbV2) hbV3) hbV4) hbV5)
  have KY := hid (keep_laid (keep_laid (keep_laid hlV2 hbV3) hbV4) hbV5)
  have KZ := hid (keep_laid (keep_laid hlV3 hbV4) hbV5)
  have KG := hid (keep_laid hlV4 hbV5)
  have KA := hid hlV5
  have HB := hid (step (step (step (step hbV1 hbV2) hbV3) hbV4) hbV5)
  have hVX : V.heap.size ≤ X := by omega
  have hVY : V.heap.size ≤ Y := by omega
  have nXY : X < Y := by omega
  have hVZ : V.heap.size ≤ Z := by omega
  have nXZ : X < Z := by omega
  have nYZ : Y < Z := by omega
  have hVG : V.heap.size ≤ G := by omega
  have nXG : X < G := by omega
  have nYG : Y < G := by omega
  have nZG : Z < G := by omega
  have hVA : V.heap.size ≤ A := by omega
  have nXA : X < A := by omega
  have nYA : Y < A := by omega
  have nZA : Z < A := by omega
  have nGA : G < A := by omega
  clear hbV1 hsV1 hlV1 hbV2 hsV2 hlV2 hbV3 hsV3 hlV3 hbV4 hsV4 hlV4 hbV5 hsV5 hlV5
  obtain ⟨aw, al⟩ := h.low hok (X := X) (G := G) (by omega)
  have HLW := hid (h.lowA hok)
  have HS5 := hid (show Sq 53 #[.int .i64 0, .bool false, .int .u64 0, .int .u64 0, .int .u64 0, .int .u64 0, .int .u64 0, .int .u64 0] V X Y Z G wa wc la lc M #[.int .i64 ph, .bool cuts, .int .u64 ((link : Nat) : Int), .int .u64 ((at_ : Nat) : Int), .int .u64 ((key : Nat) : Int), .int .u64 ((val : Nat) : Int), .int .u64 ((hash : Nat) : Int), .int .u64 ((next : Nat) : Int)] V5 from ⟨KX.out, KY.out, KZ.out, KG.out, h.grow HB.out, aw, al, HB.out, by omega⟩)
  obtain ⟨V6, hV6, a1, a2, a3⟩ := put4 KA.out (.int .i64 2) (.int .i64 0) (.int .u64 0) (.int .u64 0)
  have HS6 := hid (HS5.out.keep nGA (HLW.out.1.apart hVA) (HLW.out.2.apart hVA) a2 (a3 _ _ hVA HB.out))
  have KA6 := hid a1
  have HV6 := hid hV6
  clear hV6 a1 a2 a3
  have hwl := h.w.len
  have hll := h.l.len
  have HSO := hid hs
  have HOK := hid hok
  unfold memV edV
  dsimp only
  have y0 := cell_laid (i := 0) KY.out rfl
  obtain ⟨a0, af0, a1, af1, a2, af2, a3, af3⟩ := fcl4 KA.out
  have t0 : ∀ k : Int, k < 6 → (ph == k) = false := fun k hk => by have : (6 : Int) ≤ ph := hph; simp; omega
  have u0 := t0 0 (by decide)
  have u1 := t0 1 (by decide)
  have u2 := t0 2 (by decide)
  have u3 := t0 3 (by decide)
  have u4 := t0 4 (by decide)
  have u5 := t0 5 (by decide)
  have HE : Hid (editE M ⟨ph, cuts, link, at_, key, val, hash, next⟩ = (M, ⟨ph, cuts, link, at_, key, val, hash, next⟩, false)) := hid (by unfold editE; rw [if_pos hph])
  clear h hok hs aw al KX KY KZ KG HB t0 hph
  go_enter Try.func27, Try.ntmps27
  go_upto_region 2 with (fail)
  rw [← HV6.out]
  clear y0 a0 a1 a2 a3 af0 af1 af2 af3
  have y0 := cell_laid (i := 0) HS6.out.by_ rfl
  go_upto_region 4 with (fail)
  obtain ⟨D, hD⟩ : ∃ DX, (V6).drew = DX := ⟨_, rfl⟩
  have HSD := hid (HS6.out.grow (Below.refl _ _).drew)
  rw [hD] at HSD
  have HD := hid hD
  clear hD
  obtain ⟨U1, U2, hU1, hU2, d1, d2, d3, d4, d5, d6, d7, d8, d9⟩ := HSD.out.fin8 (by decide) (by decide)
  have HU1 := hid hU1
  have HU2 := hid hU2
  have D1 := hid d1
  have D2 := hid d2
  have D3 := hid d3
  have D4 := hid d4
  have D5 := hid d5
  have D6 := hid d6
  have D7 := hid d7
  have D8 := hid d8
  have D9 := hid d9
  clear hU1 hU2 d1 d2 d3 d4 d5 d6 d7 d8 d9
  haveI HNE : Nonempty (RYX 53 X Y #[.slice wa M.W.length wc, .slice la M.L.length lc, .bool M.F] #[.int .i64 ph, .bool cuts, .int .u64 ((link : Nat) : Int), .int .u64 ((at_ : Nat) : Int), .int .u64 ((key : Nat) : Int), .int .u64 ((val : Nat) : Int), .int .u64 ((hash : Nat) : Int), .int .u64 ((next : Nat) : Int)]) := ⟨⟨D, HSD.out.bx, HSD.out.by_⟩⟩
  have p0 := ryx_x HNE 0 (.slice wa M.W.length wc) rfl
  have p1 := ryx_x HNE 1 (.slice la M.L.length lc) rfl
  have p2 := ryx_x HNE 2 (.bool M.F) rfl
  have q0 := ryx_y HNE 0 (.int .i64 ph) rfl
  have q1 := ryx_y HNE 1 (.bool cuts) rfl
  have q2 := ryx_y HNE 2 (.int .u64 ((link : Nat) : Int)) rfl
  have q3 := ryx_y HNE 3 (.int .u64 ((at_ : Nat) : Int)) rfl
  have q4 := ryx_y HNE 4 (.int .u64 ((key : Nat) : Int)) rfl
  have q5 := ryx_y HNE 5 (.int .u64 ((val : Nat) : Int)) rfl
  have q6 := ryx_y HNE 6 (.int .u64 ((hash : Nat) : Int)) rfl
  have q7 := ryx_y HNE 7 (.int .u64 ((next : Nat) : Int)) rfl
  refine wp_region_mix2 (fun W => ∃ z : RYX 53 X Y #[.slice wa M.W.length wc, .slice la M.L.length lc, .bool M.F] #[.int .i64 ph, .bool cuts, .int .u64 ((link : Nat) : Int), .int .u64 ((at_ : Nat) : Int), .int .u64 ((key : Nat) : Int), .int .u64 ((val : Nat) : Int), .int .u64 ((hash : Nat) : Int), .int .u64 ((next : Nat) : Int)], W = z.w) 4 (.q 0 (.q 1 (.h 2 (.h 3 .done)))) (by kernel_rfl) (by kernel_rfl) (by rw [HD.out]; exact ⟨⟨D, HSD.out.bx, HSD.out.by_⟩, rfl⟩) ?_
  rw [HD.out]
  repeat (refine wpMix2_q rfl rfl ?_; go_big_quiet_step (fail); refine wpQuiet_nil ?_)
  obtain ⟨z0, zf0, z1, zf1, z2, zf2⟩ := fcl3 HSD.out.bz
  refine wpMix2_h rfl fun R' hR' hO => ?_
  go_wp2
  rw [← HU1.out]
  refine hR' _ _ ⟨⟨U1, D1.out, D2.out⟩, rfl⟩ ?_
  clear hR' hO R' z0 z1 z2 zf0 zf1 zf2
  obtain ⟨z0, zf0, z1, zf1, z2, zf2, z3, zf3, z4, zf4, z5, zf5, z6, zf6, z7, zf7⟩ := fcl8 D3.out
  refine wpMix2_h rfl fun R' hR' hO => ?_
  go_wp2
  rw [← HU2.out]
  refine hR' _ _ ⟨⟨U2, D4.out, D5.out⟩, rfl⟩ ?_
  clear hR' hO R' z0 z1 z2 z3 z4 z5 z6 z7 zf0 zf1 zf2 zf3 zf4 zf5 zf6 zf7
  refine wpMix2_done ?_
  simp only [List.drop_succ_cons, List.drop_nil]
  go_wp2
  refine bodyPost_ret (EditStep_result D6.out rfl D7.out rfl) rfl ?_
  rw [HE.out]
  exact ⟨wa, wc, la, lc, rfl, D8.out, D9.out, keptA.refl _ _, keptA.refl _ _⟩
theorem rEditStep_any (M : Mem) (s : Ede) (wa la : Option Addr) (wc lc : Nat) (V : World) (h : MemL V wa wc la lc M) (hok : okM M = true) (hs : s.Ok) (h0 : 0 ≤ s.ph) :
    Calls Try.prog 27 #[memV wa wc la lc M, edV s] V (GivesRE wa la ((editE M s).1, (editE M s).2.1) V) := by
  rcases (show s.ph = 0 ∨ s.ph = 1 ∨ s.ph = 2 ∨ s.ph = 3 ∨ s.ph = 4 ∨ s.ph = 5 ∨ 6 ≤ s.ph by omega) with e | e | e | e | e | e | e
  · exact redit0_any M s wa la wc lc V h hok hs e
  · exact redit1_any M s wa la wc lc V h hok hs e
  · exact redit2_any M s wa la wc lc V h hok hs e
  · exact redit3_any M s wa la wc lc V h hok hs e
  · exact redit4_any M s wa la wc lc V h hok hs e
  · cases hc : s.cuts with
    | true => exact redit5t_any M s wa la wc lc V h hok hs e hc
    | false => exact redit5f_any M s wa la wc lc V h hok hs e hc
  · exact redit6_any M s wa la wc lc V h hok hs e
end Go.Proofs.Ytdkkjcflcegeoaa
