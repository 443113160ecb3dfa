/- The document's lists (printed by gen_lsref3.py): a step of who seeks. -/
import Derived.Test.YtdkkjcflcegeoaaLsRefQ
namespace Go.Proofs.Ytdkkjcflcegeoaa
open Go.RowKit
open Go.Proofs
set_option linter.unusedVariables false
attribute [local go_sem] Oper.semAt_some
theorem SeekStep_result {W : World} {b4 b5 : Nat} {v4_0 v4_1 v4_2 v5_0 v5_1 v5_2 v5_3 v5_4 v5_5 v5_6 : Value} {tmps : Array Value} (h4 : W.heap[b4]? = some (.cells #[v4_0, v4_1, v4_2] 25 (0, 0))) (q4 : tmps[4]?.getD undef = .pointer (some ⟨b4, 0, none⟩)) (h5 : W.heap[b5]? = some (.cells #[v5_0, v5_1, v5_2, v5_3, v5_4, v5_5, v5_6] 40 (0, 0))) (q5 : tmps[5]?.getD undef = .pointer (some ⟨b5, 0, none⟩)) :
    (results Try.f26 tmps).run Try.prog W = .ok (.tuple #[.agg #[v4_0, v4_1, v4_2], .agg #[v5_0, v5_1, v5_2, v5_3, v5_4, v5_5, v5_6]]) W := by
  have e4_0 := cell_laid (i := 0) (v := v4_0) h4 rfl
  have e4_1 := cell_laid (i := 1) (v := v4_1) h4 rfl
  have e4_2 := cell_laid (i := 2) (v := v4_2) h4 rfl
  have e5_0 := cell_laid (i := 0) (v := v5_0) h5 rfl
  have e5_1 := cell_laid (i := 1) (v := v5_1) h5 rfl
  have e5_2 := cell_laid (i := 2) (v := v5_2) h5 rfl
  have e5_3 := cell_laid (i := 3) (v := v5_3) h5 rfl
  have e5_4 := cell_laid (i := 4) (v := v5_4) h5 rfl
  have e5_5 := cell_laid (i := 5) (v := v5_5) h5 rfl
  have e5_6 := cell_laid (i := 6) (v := v5_6) h5 rfl
  simp [results, Try.results26, go_sem, e4_0, e4_1, e4_2, q4, e5_0, e5_1, e5_2, e5_3, e5_4, e5_5, e5_6, q5]
def GivesRQ (wa0 la0 : Option Addr) (R : Mem × Sk) (w : World) (e : Ending) (W : World) : Prop := ∃ wa wc la lc, e = .returned (.tuple #[memV wa wc la lc R.1, skV R.2]) ∧ MemL W wa wc la lc R.1 ∧ Below w.heap.size w W ∧ keptA w wa0 wa ∧ keptA w la0 la

set_option maxRecDepth 100000 in
set_option maxHeartbeats 8000000 in
theorem rseek0_any (M : Mem) (s : Sk) (wa la : Option Addr) (wc lc : Nat) (V : World) (h : MemL V wa wc la lc M) (hok : okM M = true) (hs : s.Ok) (hph : s.ph = 0) :
    Calls Try.prog 26 #[memV wa wc la lc M, skV s] V (GivesRQ wa la ((seekE M s).1, (seekE M s).2.1) V) := by
  obtain ⟨ph, hash, key, link, node, val, found⟩ := s
  obtain rfl : ph = 0 := hph
  obtain ⟨V1, hV1, hbV1, hsV1, hlV1⟩ := laid V #[.slice wa M.W.length wc, .slice la M.L.length lc, .bool M.F] 25
  obtain ⟨V2, hV2, hbV2, hsV2, hlV2⟩ := laid V1 #[.int .i64 0, .int .u64 ((hash : Nat) : Int), .int .u64 ((key : Nat) : Int), .int .u64 ((link : Nat) : Int), .int .u64 ((node : Nat) : Int), .int .u64 ((val : Nat) : Int), .bool found] 40
  obtain ⟨V3, hV3, hbV3, hsV3, hlV3⟩ := laid V2 #[.slice none 0 0, .slice none 0 0, .bool false] 25
  obtain ⟨V4, hV4, hbV4, hsV4, hlV4⟩ := laid V3 #[.int .i64 0, .int .u64 0, .int .u64 0, .int .u64 0, .int .u64 0, .int .u64 0, .bool false] 40
  obtain ⟨X, hX⟩ : ∃ X, V.heap.size = X := ⟨_, rfl⟩
  rw [hX] at hlV1
  obtain ⟨Y, hY⟩ : ∃ X, V1.heap.size = X := ⟨_, rfl⟩
  rw [hY] at hlV2
  obtain ⟨Z, hZ⟩ : ∃ X, V2.heap.size = X := ⟨_, rfl⟩
  rw [hZ] at hlV3
  obtain ⟨G, hG⟩ : ∃ X, V3.heap.size = X := ⟨_, rfl⟩
  rw [hG] at hlV4
  have KX := hid (keep_laid (keep_laid (keep_laid hlV1 hbV2) hbV3) hbV4)
  have KY := hid (keep_laid (keep_laid hlV2 hbV3) hbV4)
  have KZ := hid (keep_laid hlV3 hbV4)
  have KG := hid hlV4
  have HB := hid (step (step (step hbV1 hbV2) hbV3) hbV4)
  have hVX : V.heap.size ≤ X := by omega
  have hVY : V.heap.size ≤ Y := by omega
  have nXY : X < Y := by omega
  have hVZ : V.heap.size ≤ Z := by omega
  have nXZ : X < Z := by omega
  have nYZ : Y < Z := by omega
  have hVG : V.heap.size ≤ G := by omega
  have nXG : X < G := by omega
  have nYG : Y < G := by omega
  have nZG : Z < G := by omega
  clear hbV1 hsV1 hlV1 hbV2 hsV2 hlV2 hbV3 hsV3 hlV3 hbV4 hsV4 hlV4
  obtain ⟨aw, al⟩ := h.low hok (X := X) (G := G) (by omega)
  have HS := hid (show Sq 40 #[.int .i64 0, .int .u64 0, .int .u64 0, .int .u64 0, .int .u64 0, .int .u64 0, .bool false] V X Y Z G wa wc la lc M #[.int .i64 0, .int .u64 ((hash : Nat) : Int), .int .u64 ((key : Nat) : Int), .int .u64 ((link : Nat) : Int), .int .u64 ((node : Nat) : Int), .int .u64 ((val : Nat) : Int), .bool found] V4 from ⟨KX.out, KY.out, KZ.out, KG.out, h.grow HB.out, aw, al, HB.out, by omega⟩)
  have hwl := h.w.len
  have hll := h.l.len
  have HSO := hid hs
  have HOK := hid hok
  unfold memV skV
  dsimp only
  have y0 := cell_laid (i := 0) KY.out rfl
  obtain ⟨⟨M', x, d⟩, hX⟩ : ∃ X, stepM M false ((posL link 0 : Nat) : Int) 0 = X := ⟨_, rfl⟩
  have HSE : Hid (seekE M ⟨0, hash, key, link, node, val, found⟩ = (M', (if d = true then thenS ⟨0, hash, key, link, node, val, found⟩ x 0 else ⟨5, hash, key, link, node, val, found⟩), true)) := hid (by
    have e0 : seekE M ⟨0, hash, key, link, node, val, found⟩ = ((stepM M false ((posL link 0 : Nat) : Int) 0).1, (if (stepM M false ((posL link 0 : Nat) : Int) 0).2.2 = true then thenS ⟨0, hash, key, link, node, val, found⟩ (stepM M false ((posL link 0 : Nat) : Int) 0).2.1 0 else ⟨5, hash, key, link, node, val, found⟩), true) := by
      unfold seekE; rw [if_neg (show ¬ ((4 : Int) ≤ 0) by decide)]; rfl
    rw [e0, hX])
  obtain ⟨P0, hP0⟩ : ∃ q, posL link 0 = q := ⟨_, rfl⟩
  have HA0 := hid (fun W => rat_any link 0 W hs.link (by decide))
  rw [hP0] at HA0
  have hp0 : P0 ≤ 5000 := by rw [← hP0]; exact posL_le _ _ (by decide)
  obtain ⟨P1, hP1⟩ : ∃ q, posL node 3 = q := ⟨_, rfl⟩
  have HA1 := hid (fun W => rat_any node 3 W hs.node (by decide))
  rw [hP1] at HA1
  have hp1 : P1 ≤ 5000 := by rw [← hP1]; exact posL_le _ _ (by decide)
  obtain ⟨P2, hP2⟩ : ∃ q, posL node 0 = q := ⟨_, rfl⟩
  have HA2 := hid (fun W => rat_any node 0 W hs.node (by decide))
  rw [hP2] at HA2
  have hp2 : P2 ≤ 5000 := by rw [← hP2]; exact posL_le _ _ (by decide)
  obtain ⟨P3, hP3⟩ : ∃ q, posL node 1 = q := ⟨_, rfl⟩
  have HA3 := hid (fun W => rat_any node 1 W hs.node (by decide))
  rw [hP3] at HA3
  have hp3 : P3 ≤ 5000 := by rw [← hP3]; exact posL_le _ _ (by decide)
  have HST : Hid (∀ W, MemL W wa wc la lc M → Calls Try.prog 56 #[.agg #[.slice wa M.W.length wc, .slice la M.L.length lc, .bool M.F], .agg #[.int .i64 1, .int .i64 ((P0 : Nat) : Int), .int .u64 0, .int .u64 0]] W (GivesR wa la M' x d W)) := hid (fun W hm => by
    have := RefStep_any M wa la wc lc false 1 ((posL link 0 : Nat) : Int) 0 0 W hm hok (by rw [hP0]; omega) rfl
    rw [hX, hP0] at this
    exact this)
  have hix : ∀ W, (Instr.index 117 (.agg #[.int .i64 ((P0 : Nat) : Int), .int .i64 ((P1 : Nat) : Int), .int .i64 ((P2 : Nat) : Int), .int .i64 ((P3 : Nat) : Int)]) (.int .i64 0)).run Try.prog W = .ok (.int .i64 ((P0 : Nat) : Int)) W := fun W => by kernel_rfl
  have hjx : ∀ W, (Instr.index 120 (.agg #[.int .u64 0, .int .u64 ((hash : Nat) : Int), .int .u64 ((key : Nat) : Int), .int .u64 0]) (.int .i64 0)).run Try.prog W = .ok (.int .u64 0) W := fun W => by kernel_rfl
  have HLM : Hid (1 ≤ M'.W.length ∧ 1 ≤ M'.L.length) := hid (by have e1 := stepM_len M false ((posL link 0 : Nat) : Int) 0; have e2 := stepM_L M false ((posL link 0 : Nat) : Int) 0; rw [hX] at e1 e2; dsimp only at e1 e2; obtain ⟨a, b, d, -⟩ := okM_spec hok; rw [e2]; omega)
  clear h hok hs aw al KX KY KZ KG hX hP0 hP1 hP2 hP3
  go_enter Try.func26, Try.ntmps26
  go_upto_region 3 with (fail)
  have HSD := hid (HS.out.grow (Below.refl _ _).drew)
  obtain ⟨D, hD⟩ : ∃ DX, V4.drew = DX := ⟨_, rfl⟩
  rw [hD] at HSD
  have HD := hid hD
  clear hD
  haveI HNE : Nonempty (RYX 40 X Y #[.slice wa M.W.length wc, .slice la M.L.length lc, .bool M.F] #[.int .i64 0, .int .u64 ((hash : Nat) : Int), .int .u64 ((key : Nat) : Int), .int .u64 ((link : Nat) : Int), .int .u64 ((node : Nat) : Int), .int .u64 ((val : Nat) : Int), .bool found]) := ⟨⟨D, HSD.out.bx, HSD.out.by_⟩⟩
  have q0 := ryx_y HNE 0 (.int .i64 0) rfl
  have q1 := ryx_y HNE 1 (.int .u64 ((hash : Nat) : Int)) rfl
  have q2 := ryx_y HNE 2 (.int .u64 ((key : Nat) : Int)) rfl
  have q3 := ryx_y HNE 3 (.int .u64 ((link : Nat) : Int)) rfl
  have q4 := ryx_y HNE 4 (.int .u64 ((node : Nat) : Int)) rfl
  have q5 := ryx_y HNE 5 (.int .u64 ((val : Nat) : Int)) rfl
  have q6 := ryx_y HNE 6 (.bool found) rfl
  refine wp_region_mix2 (fun W => ∃ z : RYX 40 X Y #[.slice wa M.W.length wc, .slice la M.L.length lc, .bool M.F] #[.int .i64 0, .int .u64 ((hash : Nat) : Int), .int .u64 ((key : Nat) : Int), .int .u64 ((link : Nat) : Int), .int .u64 ((node : Nat) : Int), .int .u64 ((val : Nat) : Int), .bool found], W = z.w) 17 (.q 0 (.q 1 (.q 3 (.q 4 (.q 6 (.q 7 (.q 9 (.q 10 (.q 13 (.q 14 (.h 2 (.h 5 (.h 8 (.h 11 (.q 12 (.q 15 (.q 16 .done))))))))))))))))) (by kernel_rfl) (by kernel_rfl) (by rw [HD.out]; exact ⟨⟨D, HSD.out.bx, HSD.out.by_⟩, rfl⟩) ?_
  rw [HD.out]
  repeat (refine wpMix2_q rfl rfl ?_; go_big_quiet_step (fail); refine wpQuiet_nil ?_)
  refine wpMix2_h rfl fun R' hR' hO => ?_
  go_wp2_with fail
  refine (HA0.out D).mono ?_
  rintro e wq ⟨rfl, hwq⟩
  rw [hwq]
  clear hwq wq
  go_wp2
  refine hR' _ _ ⟨⟨D, HSD.out.bx, HSD.out.by_⟩, rfl⟩ ?_
  clear hR' hO R'
  refine wpMix2_h rfl fun R' hR' hO => ?_
  go_wp2_with fail
  refine (HA1.out D).mono ?_
  rintro e wq ⟨rfl, hwq⟩
  rw [hwq]
  clear hwq wq
  go_wp2
  refine hR' _ _ ⟨⟨D, HSD.out.bx, HSD.out.by_⟩, rfl⟩ ?_
  clear hR' hO R'
  refine wpMix2_h rfl fun R' hR' hO => ?_
  go_wp2_with fail
  refine (HA2.out D).mono ?_
  rintro e wq ⟨rfl, hwq⟩
  rw [hwq]
  clear hwq wq
  go_wp2
  refine hR' _ _ ⟨⟨D, HSD.out.bx, HSD.out.by_⟩, rfl⟩ ?_
  clear hR' hO R'
  refine wpMix2_h rfl fun R' hR' hO => ?_
  go_wp2_with fail
  refine (HA3.out D).mono ?_
  rintro e wq ⟨rfl, hwq⟩
  rw [hwq]
  clear hwq wq
  go_wp2
  refine hR' _ _ ⟨⟨D, HSD.out.bx, HSD.out.by_⟩, rfl⟩ ?_
  clear hR' hO R'
  repeat (refine wpMix2_q rfl rfl ?_; go_big_quiet_step (fail); refine wpQuiet_nil ?_)
  refine wpMix2_done ?_
  simp only [List.drop_succ_cons, List.drop_nil]
  clear q0 q1 q2 q3 q4 q5 q6
  obtain ⟨p0, p1, p2⟩ := cells3 HSD.out.bx
  go_wp2_with fail
  refine (HST.out D HSD.out.mem).mono ?_
  rintro e w5 ⟨wa', wc', la', lc', rfl, hm, hb5, kw, kl⟩
  have hG4 : G < D.heap.size := lt_laid HSD.out.bg
  have hVD := HSD.out.below.size
  obtain ⟨w6, hw6, hb6, hs6, hl6⟩ := laid w5 #[.int .u64 0, .bool false] 69
  obtain ⟨B, hB⟩ : ∃ X, w5.heap.size = X := ⟨_, rfl⟩
  rw [hB] at hl6
  have ap : apartA wa' B ∧ apartA la' B := by
    have e1 := hm.w
    have e2 := hm.l
    constructor
    · rintro b off rfl rfl
      obtain ⟨_, _, ⟨q, _⟩ | ⟨b', o', q, q2, _⟩⟩ := e1
      · have := HLM.out; omega
      · cases q; omega
    · rintro b off rfl rfl
      obtain ⟨_, _, ⟨q, _⟩ | ⟨b', o', q, q2, _⟩⟩ := e2
      · have := HLM.out; omega
      · cases q; omega
  obtain ⟨w7, hw7, hS7, hk7⟩ := ((HSD.out.grow hb5).grow hb6).putX (hm.grow hb6) (HSD.out.aw.kept kw hG4) (HSD.out.al.kept kl hG4)
  have hGB : G < B := by have := hb5.size; omega
  have hXB : X < B := by have := HSD.out.ord; omega
  have hl7 := hk7 B _ (by omega) hl6
  obtain ⟨w8, hw8, a1, a2, a3⟩ := put_got hl7 (by decide) (by decide) (.int .u64 ((x : Nat) : Int)) (.bool d)
  have HS8 := hid (hS7.keep hGB ap.1 ap.2 a2 (a3.1 _ _ (by have := hVD; have := hb5.size; omega) hS7.below))
  have KB := hid a1
  have KW := hid (kw.mono hVD)
  have KL := hid (kl.mono hVD)
  have HW7 := hid hw7
  have HW8 := hid hw8
  have hwl' := hm.w.len
  have hll' := hm.l.len
  have hXnB : X ≠ B := by omega
  have hBnX : B ≠ X := by omega
  obtain ⟨x0, x1, x2⟩ := cells3 ((HSD.out.grow hb5).grow hb6).bx
  have xf0 := free_laid (i := 0) ((HSD.out.grow hb5).grow hb6).bx
  have xf1 := free_laid (i := 1) ((HSD.out.grow hb5).grow hb6).bx
  have xf2 := free_laid (i := 2) ((HSD.out.grow hb5).grow hb6).bx
  obtain ⟨g0, gf0, g1, gf1⟩ := fcl2 hl6
  clear hm hb5 kw kl hs6 hb6 hl6 hS7 hk7 hl7 a1 a2 a3 hw7 hw8 ap p0 p1 p2
  unfold memV
  go_upto_region 5 with (fail)
  rw [← HW7.out, ← HW8.out]
  cases d with
  | false =>
    obtain ⟨y0, yf0, y1, yf1, y2, yf2, y3, yf3, y4, yf4, y5, yf5, y6, yf6⟩ := fcl7 HS8.out.by_
    obtain ⟨g0, g1⟩ := ncl2 KB.out
    obtain ⟨w9, hw9⟩ : ∃ W, (w8.setCell ⟨Y, 0, none⟩ (.int .i64 5)) = W := ⟨_, rfl⟩
    have HS9 : Hid (Sq 40 #[.int .i64 0, .int .u64 0, .int .u64 0, .int .u64 0, .int .u64 0, .int .u64 0, .bool false] V X Y Z G wa' wc' la' lc' M' #[.int .i64 5, .int .u64 ((hash : Nat) : Int), .int .u64 ((key : Nat) : Int), .int .u64 ((link : Nat) : Int), .int .u64 ((node : Nat) : Int), .int .u64 ((val : Nat) : Int), .bool found] w9) := hid (by rw [← hw9]; exact (HS8.out.setY (i := 0) (v := .int .i64 5) (cs' := #[.int .i64 5, .int .u64 ((hash : Nat) : Int), .int .u64 ((key : Nat) : Int), .int .u64 ((link : Nat) : Int), .int .u64 ((node : Nat) : Int), .int .u64 ((val : Nat) : Int), .bool found]) rfl))
    have HW9 := hid hw9
    clear hw9
    have HRES : Hid (seekE M ⟨0, hash, key, link, node, val, found⟩ = (M', ⟨5, hash, key, link, node, val, found⟩, true)) := hid (HSE.out.trans (by rw [if_neg (by decide)]))
    go_upto_region 19 with (fail)
    rw [HW9.out]
    clear y0 yf0 y1 yf1 y2 yf2 y3 yf3 y4 yf4 y5 yf5 y6 yf6 g0 g1
    go_upto_region 19 with (fail)
    obtain ⟨D, hD⟩ : ∃ DX, (w9).drew = DX := ⟨_, rfl⟩
    have HSD := hid (HS9.out.grow (Below.refl _ _).drew)
    rw [hD] at HSD
    have HD := hid hD
    clear hD
    obtain ⟨U1, U2, hU1, hU2, d1, d2, d3, d4, d5, d6, d7, d8, d9⟩ := HSD.out.fin7 (by decide) (by decide)
    have HU1 := hid hU1
    have HU2 := hid hU2
    have D1 := hid d1
    have D2 := hid d2
    have D3 := hid d3
    have D4 := hid d4
    have D5 := hid d5
    have D6 := hid d6
    have D7 := hid d7
    have D8 := hid d8
    have D9 := hid d9
    clear hU1 hU2 d1 d2 d3 d4 d5 d6 d7 d8 d9
    haveI HNE : Nonempty (RYX 40 X Y #[.slice wa' M'.W.length wc', .slice la' M'.L.length lc', .bool M'.F] #[.int .i64 5, .int .u64 ((hash : Nat) : Int), .int .u64 ((key : Nat) : Int), .int .u64 ((link : Nat) : Int), .int .u64 ((node : Nat) : Int), .int .u64 ((val : Nat) : Int), .bool found]) := ⟨⟨D, HSD.out.bx, HSD.out.by_⟩⟩
    have p0 := ryx_x HNE 0 (.slice wa' M'.W.length wc') rfl
    have p1 := ryx_x HNE 1 (.slice la' M'.L.length lc') rfl
    have p2 := ryx_x HNE 2 (.bool M'.F) rfl
    have q0 := ryx_y HNE 0 (.int .i64 5) rfl
    have q1 := ryx_y HNE 1 (.int .u64 ((hash : Nat) : Int)) rfl
    have q2 := ryx_y HNE 2 (.int .u64 ((key : Nat) : Int)) rfl
    have q3 := ryx_y HNE 3 (.int .u64 ((link : Nat) : Int)) rfl
    have q4 := ryx_y HNE 4 (.int .u64 ((node : Nat) : Int)) rfl
    have q5 := ryx_y HNE 5 (.int .u64 ((val : Nat) : Int)) rfl
    have q6 := ryx_y HNE 6 (.bool found) rfl
    refine wp_region_mix2 (fun W => ∃ z : RYX 40 X Y #[.slice wa' M'.W.length wc', .slice la' M'.L.length lc', .bool M'.F] #[.int .i64 5, .int .u64 ((hash : Nat) : Int), .int .u64 ((key : Nat) : Int), .int .u64 ((link : Nat) : Int), .int .u64 ((node : Nat) : Int), .int .u64 ((val : Nat) : Int), .bool found], W = z.w) 4 (.q 0 (.q 1 (.h 2 (.h 3 .done)))) (by kernel_rfl) (by kernel_rfl) (by rw [HD.out]; exact ⟨⟨D, HSD.out.bx, HSD.out.by_⟩, rfl⟩) ?_
    rw [HD.out]
    repeat (refine wpMix2_q rfl rfl ?_; go_big_quiet_step (fail); refine wpQuiet_nil ?_)
    obtain ⟨z0, zf0, z1, zf1, z2, zf2⟩ := fcl3 HSD.out.bz
    refine wpMix2_h rfl fun R' hR' hO => ?_
    go_wp2
    rw [← HU1.out]
    refine hR' _ _ ⟨⟨U1, D1.out, D2.out⟩, rfl⟩ ?_
    clear hR' hO R' z0 z1 z2 zf0 zf1 zf2
    obtain ⟨z0, zf0, z1, zf1, z2, zf2, z3, zf3, z4, zf4, z5, zf5, z6, zf6⟩ := fcl7 D3.out
    refine wpMix2_h rfl fun R' hR' hO => ?_
    go_wp2
    rw [← HU2.out]
    refine hR' _ _ ⟨⟨U2, D4.out, D5.out⟩, rfl⟩ ?_
    clear hR' hO R' z0 z1 z2 z3 z4 z5 z6 zf0 zf1 zf2 zf3 zf4 zf5 zf6
    refine wpMix2_done ?_
    simp only [List.drop_succ_cons, List.drop_nil]
    go_wp2
    refine bodyPost_ret (SeekStep_result D6.out rfl D7.out rfl) rfl ?_
    rw [HRES.out]
    exact ⟨wa', wc', la', lc', rfl, D8.out, D9.out, KW.out, KL.out⟩
  | true =>
    by_cases hx : x = 0
    · have tx : (((x : Nat) : Int) == 0) = true := by simp; omega
      obtain ⟨y0, yf0, y1, yf1, y2, yf2, y3, yf3, y4, yf4, y5, yf5, y6, yf6⟩ := fcl7 HS8.out.by_
      obtain ⟨g0, g1⟩ := ncl2 KB.out
      obtain ⟨w9, hw9⟩ : ∃ W, ((w8.setCell ⟨Y, 4, none⟩ (.int .u64 0)).setCell ⟨Y, 0, none⟩ (.int .i64 4)) = W := ⟨_, rfl⟩
      have HS9 : Hid (Sq 40 #[.int .i64 0, .int .u64 0, .int .u64 0, .int .u64 0, .int .u64 0, .int .u64 0, .bool false] V X Y Z G wa' wc' la' lc' M' #[.int .i64 4, .int .u64 ((hash : Nat) : Int), .int .u64 ((key : Nat) : Int), .int .u64 ((link : Nat) : Int), .int .u64 0, .int .u64 ((val : Nat) : Int), .bool found] w9) := hid (by rw [← hw9]; exact ((HS8.out.setY (i := 4) (v := .int .u64 0) (cs' := #[.int .i64 0, .int .u64 ((hash : Nat) : Int), .int .u64 ((key : Nat) : Int), .int .u64 ((link : Nat) : Int), .int .u64 0, .int .u64 ((val : Nat) : Int), .bool found]) rfl).setY (i := 0) (v := .int .i64 4) (cs' := #[.int .i64 4, .int .u64 ((hash : Nat) : Int), .int .u64 ((key : Nat) : Int), .int .u64 ((link : Nat) : Int), .int .u64 0, .int .u64 ((val : Nat) : Int), .bool found]) rfl))
      have HW9 := hid hw9
      clear hw9
      have HRES : Hid (seekE M ⟨0, hash, key, link, node, val, found⟩ = (M', ⟨4, hash, key, link, 0, val, found⟩, true)) := hid (HSE.out.trans (by rw [if_pos rfl]; rw [show thenS ⟨0, hash, key, link, node, val, found⟩ x 0 = (⟨if x = 0 then 4 else 1, hash, key, link, x, val, found⟩ : Sk) from rfl, if_pos hx, hx]))
      go_upto_region 19 with (fail)
      rw [HW9.out]
      clear y0 yf0 y1 yf1 y2 yf2 y3 yf3 y4 yf4 y5 yf5 y6 yf6 g0 g1
      go_upto_region 19 with (fail)
      obtain ⟨D, hD⟩ : ∃ DX, (w9).drew = DX := ⟨_, rfl⟩
      have HSD := hid (HS9.out.grow (Below.refl _ _).drew)
      rw [hD] at HSD
      have HD := hid hD
      clear hD
      obtain ⟨U1, U2, hU1, hU2, d1, d2, d3, d4, d5, d6, d7, d8, d9⟩ := HSD.out.fin7 (by decide) (by decide)
      have HU1 := hid hU1
      have HU2 := hid hU2
      have D1 := hid d1
      have D2 := hid d2
      have D3 := hid d3
      have D4 := hid d4
      have D5 := hid d5
      have D6 := hid d6
      have D7 := hid d7
      have D8 := hid d8
      have D9 := hid d9
      clear hU1 hU2 d1 d2 d3 d4 d5 d6 d7 d8 d9
      haveI HNE : Nonempty (RYX 40 X Y #[.slice wa' M'.W.length wc', .slice la' M'.L.length lc', .bool M'.F] #[.int .i64 4, .int .u64 ((hash : Nat) : Int), .int .u64 ((key : Nat) : Int), .int .u64 ((link : Nat) : Int), .int .u64 0, .int .u64 ((val : Nat) : Int), .bool found]) := ⟨⟨D, HSD.out.bx, HSD.out.by_⟩⟩
      have p0 := ryx_x HNE 0 (.slice wa' M'.W.length wc') rfl
      have p1 := ryx_x HNE 1 (.slice la' M'.L.length lc') rfl
      have p2 := ryx_x HNE 2 (.bool M'.F) rfl
      have q0 := ryx_y HNE 0 (.int .i64 4) rfl
      have q1 := ryx_y HNE 1 (.int .u64 ((hash : Nat) : Int)) rfl
      have q2 := ryx_y HNE 2 (.int .u64 ((key : Nat) : Int)) rfl
      have q3 := ryx_y HNE 3 (.int .u64 ((link : Nat) : Int)) rfl
      have q4 := ryx_y HNE 4 (.int .u64 0) rfl
      have q5 := ryx_y HNE 5 (.int .u64 ((val : Nat) : Int)) rfl
      have q6 := ryx_y HNE 6 (.bool found) rfl
      refine wp_region_mix2 (fun W => ∃ z : RYX 40 X Y #[.slice wa' M'.W.length wc', .slice la' M'.L.length lc', .bool M'.F] #[.int .i64 4, .int .u64 ((hash : Nat) : Int), .int .u64 ((key : Nat) : Int), .int .u64 ((link : Nat) : Int), .int .u64 0, .int .u64 ((val : Nat) : Int), .bool found], W = z.w) 4 (.q 0 (.q 1 (.h 2 (.h 3 .done)))) (by kernel_rfl) (by kernel_rfl) (by rw [HD.out]; exact ⟨⟨D, HSD.out.bx, HSD.out.by_⟩, rfl⟩) ?_
      rw [HD.out]
      repeat (refine wpMix2_q rfl rfl ?_; go_big_quiet_step (fail); refine wpQuiet_nil ?_)
      obtain ⟨z0, zf0, z1, zf1, z2, zf2⟩ := fcl3 HSD.out.bz
      refine wpMix2_h rfl fun R' hR' hO => ?_
      go_wp2
      rw [← HU1.out]
      refine hR' _ _ ⟨⟨U1, D1.out, D2.out⟩, rfl⟩ ?_
      clear hR' hO R' z0 z1 z2 zf0 zf1 zf2
      obtain ⟨z0, zf0, z1, zf1, z2, zf2, z3, zf3, z4, zf4, z5, zf5, z6, zf6⟩ := fcl7 D3.out
      refine wpMix2_h rfl fun R' hR' hO => ?_
      go_wp2
      rw [← HU2.out]
      refine hR' _ _ ⟨⟨U2, D4.out, D5.out⟩, rfl⟩ ?_
      clear hR' hO R' z0 z1 z2 z3 z4 z5 z6 zf0 zf1 zf2 zf3 zf4 zf5 zf6
      refine wpMix2_done ?_
      simp only [List.drop_succ_cons, List.drop_nil]
      go_wp2
      refine bodyPost_ret (SeekStep_result D6.out rfl D7.out rfl) rfl ?_
      rw [HRES.out]
      exact ⟨wa', wc', la', lc', rfl, D8.out, D9.out, KW.out, KL.out⟩
    · have tx : (((x : Nat) : Int) == 0) = false := by simp; omega
      obtain ⟨y0, yf0, y1, yf1, y2, yf2, y3, yf3, y4, yf4, y5, yf5, y6, yf6⟩ := fcl7 HS8.out.by_
      obtain ⟨g0, g1⟩ := ncl2 KB.out
      obtain ⟨w9, hw9⟩ : ∃ W, ((w8.setCell ⟨Y, 4, none⟩ (.int .u64 ((x : Nat) : Int))).setCell ⟨Y, 0, none⟩ (.int .i64 1)) = W := ⟨_, rfl⟩
      have HS9 : Hid (Sq 40 #[.int .i64 0, .int .u64 0, .int .u64 0, .int .u64 0, .int .u64 0, .int .u64 0, .bool false] V X Y Z G wa' wc' la' lc' M' #[.int .i64 1, .int .u64 ((hash : Nat) : Int), .int .u64 ((key : Nat) : Int), .int .u64 ((link : Nat) : Int), .int .u64 ((x : Nat) : Int), .int .u64 ((val : Nat) : Int), .bool found] w9) := hid (by rw [← hw9]; exact ((HS8.out.setY (i := 4) (v := .int .u64 ((x : Nat) : Int)) (cs' := #[.int .i64 0, .int .u64 ((hash : Nat) : Int), .int .u64 ((key : Nat) : Int), .int .u64 ((link : Nat) : Int), .int .u64 ((x : Nat) : Int), .int .u64 ((val : Nat) : Int), .bool found]) rfl).setY (i := 0) (v := .int .i64 1) (cs' := #[.int .i64 1, .int .u64 ((hash : Nat) : Int), .int .u64 ((key : Nat) : Int), .int .u64 ((link : Nat) : Int), .int .u64 ((x : Nat) : Int), .int .u64 ((val : Nat) : Int), .bool found]) rfl))
      have HW9 := hid hw9
      clear hw9
      have HRES : Hid (seekE M ⟨0, hash, key, link, node, val, found⟩ = (M', ⟨1, hash, key, link, x, val, found⟩, true)) := hid (HSE.out.trans (by rw [if_pos rfl]; rw [show thenS ⟨0, hash, key, link, node, val, found⟩ x 0 = (⟨if x = 0 then 4 else 1, hash, key, link, x, val, found⟩ : Sk) from rfl, if_neg hx]))
      go_upto_region 19 with (fail)
      rw [HW9.out]
      clear y0 yf0 y1 yf1 y2 yf2 y3 yf3 y4 yf4 y5 yf5 y6 yf6 g0 g1
      go_upto_region 19 with (fail)
      obtain ⟨D, hD⟩ : ∃ DX, (w9).drew = DX := ⟨_, rfl⟩
      have HSD := hid (HS9.out.grow (Below.refl _ _).drew)
      rw [hD] at HSD
      have HD := hid hD
      clear hD
      obtain ⟨U1, U2, hU1, hU2, d1, d2, d3, d4, d5, d6, d7, d8, d9⟩ := HSD.out.fin7 (by decide) (by decide)
      have HU1 := hid hU1
      have HU2 := hid hU2
      have D1 := hid d1
      have D2 := hid d2
      have D3 := hid d3
      have D4 := hid d4
      have D5 := hid d5
      have D6 := hid d6
      have D7 := hid d7
      have D8 := hid d8
      have D9 := hid d9
      clear hU1 hU2 d1 d2 d3 d4 d5 d6 d7 d8 d9
      haveI HNE : Nonempty (RYX 40 X Y #[.slice wa' M'.W.length wc', .slice la' M'.L.length lc', .bool M'.F] #[.int .i64 1, .int .u64 ((hash : Nat) : Int), .int .u64 ((key : Nat) : Int), .int .u64 ((link : Nat) : Int), .int .u64 ((x : Nat) : Int), .int .u64 ((val : Nat) : Int), .bool found]) := ⟨⟨D, HSD.out.bx, HSD.out.by_⟩⟩
      have p0 := ryx_x HNE 0 (.slice wa' M'.W.length wc') rfl
      have p1 := ryx_x HNE 1 (.slice la' M'.L.length lc') rfl
      have p2 := ryx_x HNE 2 (.bool M'.F) rfl
      have q0 := ryx_y HNE 0 (.int .i64 1) rfl
      have q1 := ryx_y HNE 1 (.int .u64 ((hash : Nat) : Int)) rfl
      have q2 := ryx_y HNE 2 (.int .u64 ((key : Nat) : Int)) rfl
      have q3 := ryx_y HNE 3 (.int .u64 ((link : Nat) : Int)) rfl
      have q4 := ryx_y HNE 4 (.int .u64 ((x : Nat) : Int)) rfl
      have q5 := ryx_y HNE 5 (.int .u64 ((val : Nat) : Int)) rfl
      have q6 := ryx_y HNE 6 (.bool found) rfl
      refine wp_region_mix2 (fun W => ∃ z : RYX 40 X Y #[.slice wa' M'.W.length wc', .slice la' M'.L.length lc', .bool M'.F] #[.int .i64 1, .int .u64 ((hash : Nat) : Int), .int .u64 ((key : Nat) : Int), .int .u64 ((link : Nat) : Int), .int .u64 ((x : Nat) : Int), .int .u64 ((val : Nat) : Int), .bool found], W = z.w) 4 (.q 0 (.q 1 (.h 2 (.h 3 .done)))) (by kernel_rfl) (by kernel_rfl) (by rw [HD.out]; exact ⟨⟨D, HSD.out.bx, HSD.out.by_⟩, rfl⟩) ?_
      rw [HD.out]
      repeat (refine wpMix2_q rfl rfl ?_; go_big_quiet_step (fail); refine wpQuiet_nil ?_)
      obtain ⟨z0, zf0, z1, zf1, z2, zf2⟩ := fcl3 HSD.out.bz
      refine wpMix2_h rfl fun R' hR' hO => ?_
      go_wp2
      rw [← HU1.out]
      refine hR' _ _ ⟨⟨U1, D1.out, D2.out⟩, rfl⟩ ?_
      clear hR' hO R' z0 z1 z2 zf0 zf1 zf2
      obtain ⟨z0, zf0, z1, zf1, z2, zf2, z3, zf3, z4, zf4, z5, zf5, z6, zf6⟩ := fcl7 D3.out
      refine wpMix2_h rfl fun R' hR' hO => ?_
      go_wp2
      rw [← HU2.out]
      refine hR' _ _ ⟨⟨U2, D4.out, D5.out⟩, rfl⟩ ?_
      clear hR' hO R' z0 z1 z2 z3 z4 z5 z6 zf0 zf1 zf2 zf3 zf4 zf5 zf6
      refine wpMix2_done ?_
      simp only [List.drop_succ_cons, List.drop_nil]
      go_wp2
      refine bodyPost_ret (SeekStep_result D6.out rfl D7.out rfl) rfl ?_
      rw [HRES.out]
      exact ⟨wa', wc', la', lc', rfl, D8.out, D9.out, KW.out, KL.out⟩
set_option maxRecDepth 100000 in
set_option maxHeartbeats 8000000 in
theorem rseek1_any (M : Mem) (s : Sk) (wa la : Option Addr) (wc lc : Nat) (V : World) (h : MemL V wa wc la lc M) (hok : okM M = true) (hs : s.Ok) (hph : s.ph = 1) :
    Calls Try.prog 26 #[memV wa wc la lc M, skV s] V (GivesRQ wa la ((seekE M s).1, (seekE M s).2.1) V) := by
  obtain ⟨ph, hash, key, link, node, val, found⟩ := s
  obtain rfl : ph = 1 := hph
  obtain ⟨V1, hV1, hbV1, hsV1, hlV1⟩ := laid V #[.slice wa M.W.length wc, .slice la M.L.length lc, .bool M.F] 25
  obtain ⟨V2, hV2, hbV2, hsV2, hlV2⟩ := laid V1 #[.int .i64 1, .int .u64 ((hash : Nat) : Int), .int .u64 ((key : Nat) : Int), .int .u64 ((link : Nat) : Int), .int .u64 ((node : Nat) : Int), .int .u64 ((val : Nat) : Int), .bool found] 40
  obtain ⟨V3, hV3, hbV3, hsV3, hlV3⟩ := laid V2 #[.slice none 0 0, .slice none 0 0, .bool false] 25
  obtain ⟨V4, hV4, hbV4, hsV4, hlV4⟩ := laid V3 #[.int .i64 0, .int .u64 0, .int .u64 0, .int .u64 0, .int .u64 0, .int .u64 0, .bool false] 40
  obtain ⟨X, hX⟩ : ∃ X, V.heap.size = X := ⟨_, rfl⟩
  rw [hX] at hlV1
  obtain ⟨Y, hY⟩ : ∃ X, V1.heap.size = X := ⟨_, rfl⟩
  rw [hY] at hlV2
  obtain ⟨Z, hZ⟩ : ∃ X, V2.heap.size = X := ⟨_, rfl⟩
  rw [hZ] at hlV3
  obtain ⟨G, hG⟩ : ∃ X, V3.heap.size = X := ⟨_, rfl⟩
  rw [hG] at hlV4
  have KX := hid (keep_laid (keep_laid (keep_laid hlV1 hbV2) hbV3) hbV4)
  have KY := hid (keep_laid (keep_laid hlV2 hbV3) hbV4)
  have KZ := hid (keep_laid hlV3 hbV4)
  have KG := hid hlV4
  have HB := hid (step (step (step hbV1 hbV2) hbV3) hbV4)
  have hVX : V.heap.size ≤ X := by omega
  have hVY : V.heap.size ≤ Y := by omega
  have nXY : X < Y := by omega
  have hVZ : V.heap.size ≤ Z := by omega
  have nXZ : X < Z := by omega
  have nYZ : Y < Z := by omega
  have hVG : V.heap.size ≤ G := by omega
  have nXG : X < G := by omega
  have nYG : Y < G := by omega
  have nZG : Z < G := by omega
  clear hbV1 hsV1 hlV1 hbV2 hsV2 hlV2 hbV3 hsV3 hlV3 hbV4 hsV4 hlV4
  obtain ⟨aw, al⟩ := h.low hok (X := X) (G := G) (by omega)
  have HS := hid (show Sq 40 #[.int .i64 0, .int .u64 0, .int .u64 0, .int .u64 0, .int .u64 0, .int .u64 0, .bool false] V X Y Z G wa wc la lc M #[.int .i64 1, .int .u64 ((hash : Nat) : Int), .int .u64 ((key : Nat) : Int), .int .u64 ((link : Nat) : Int), .int .u64 ((node : Nat) : Int), .int .u64 ((val : Nat) : Int), .bool found] V4 from ⟨KX.out, KY.out, KZ.out, KG.out, h.grow HB.out, aw, al, HB.out, by omega⟩)
  have hwl := h.w.len
  have hll := h.l.len
  have HSO := hid hs
  have HOK := hid hok
  unfold memV skV
  dsimp only
  have y0 := cell_laid (i := 0) KY.out rfl
  obtain ⟨⟨M', x, d⟩, hX⟩ : ∃ X, stepM M false ((posL node 3 : Nat) : Int) 0 = X := ⟨_, rfl⟩
  have HSE : Hid (seekE M ⟨1, hash, key, link, node, val, found⟩ = (M', (if d = true then thenS ⟨1, hash, key, link, node, val, found⟩ x 1 else ⟨5, hash, key, link, node, val, found⟩), true)) := hid (by
    have e0 : seekE M ⟨1, hash, key, link, node, val, found⟩ = ((stepM M false ((posL node 3 : Nat) : Int) 0).1, (if (stepM M false ((posL node 3 : Nat) : Int) 0).2.2 = true then thenS ⟨1, hash, key, link, node, val, found⟩ (stepM M false ((posL node 3 : Nat) : Int) 0).2.1 1 else ⟨5, hash, key, link, node, val, found⟩), true) := by
      unfold seekE; rw [if_neg (show ¬ ((4 : Int) ≤ 1) by decide)]; rfl
    rw [e0, hX])
  obtain ⟨P0, hP0⟩ : ∃ q, posL link 0 = q := ⟨_, rfl⟩
  have HA0 := hid (fun W => rat_any link 0 W hs.link (by decide))
  rw [hP0] at HA0
  have hp0 : P0 ≤ 5000 := by rw [← hP0]; exact posL_le _ _ (by decide)
  obtain ⟨P1, hP1⟩ : ∃ q, posL node 3 = q := ⟨_, rfl⟩
  have HA1 := hid (fun W => rat_any node 3 W hs.node (by decide))
  rw [hP1] at HA1
  have hp1 : P1 ≤ 5000 := by rw [← hP1]; exact posL_le _ _ (by decide)
  obtain ⟨P2, hP2⟩ : ∃ q, posL node 0 = q := ⟨_, rfl⟩
  have HA2 := hid (fun W => rat_any node 0 W hs.node (by decide))
  rw [hP2] at HA2
  have hp2 : P2 ≤ 5000 := by rw [← hP2]; exact posL_le _ _ (by decide)
  obtain ⟨P3, hP3⟩ : ∃ q, posL node 1 = q := ⟨_, rfl⟩
  have HA3 := hid (fun W => rat_any node 1 W hs.node (by decide))
  rw [hP3] at HA3
  have hp3 : P3 ≤ 5000 := by rw [← hP3]; exact posL_le _ _ (by decide)
  have HST : Hid (∀ W, MemL W wa wc la lc M → Calls Try.prog 56 #[.agg #[.slice wa M.W.length wc, .slice la M.L.length lc, .bool M.F], .agg #[.int .i64 1, .int .i64 ((P1 : Nat) : Int), .int .u64 0, .int .u64 0]] W (GivesR wa la M' x d W)) := hid (fun W hm => by
    have := RefStep_any M wa la wc lc false 1 ((posL node 3 : Nat) : Int) 0 0 W hm hok (by rw [hP1]; omega) rfl
    rw [hX, hP1] at this
    exact this)
  have hix : ∀ W, (Instr.index 117 (.agg #[.int .i64 ((P0 : Nat) : Int), .int .i64 ((P1 : Nat) : Int), .int .i64 ((P2 : Nat) : Int), .int .i64 ((P3 : Nat) : Int)]) (.int .i64 1)).run Try.prog W = .ok (.int .i64 ((P1 : Nat) : Int)) W := fun W => by kernel_rfl
  have hjx : ∀ W, (Instr.index 120 (.agg #[.int .u64 0, .int .u64 ((hash : Nat) : Int), .int .u64 ((key : Nat) : Int), .int .u64 0]) (.int .i64 1)).run Try.prog W = .ok (.int .u64 ((hash : Nat) : Int)) W := fun W => by kernel_rfl
  have HLM : Hid (1 ≤ M'.W.length ∧ 1 ≤ M'.L.length) := hid (by have e1 := stepM_len M false ((posL node 3 : Nat) : Int) 0; have e2 := stepM_L M false ((posL node 3 : Nat) : Int) 0; rw [hX] at e1 e2; dsimp only at e1 e2; obtain ⟨a, b, d, -⟩ := okM_spec hok; rw [e2]; omega)
  clear h hok hs aw al KX KY KZ KG hX hP0 hP1 hP2 hP3
  go_enter Try.func26, Try.ntmps26
  go_upto_region 3 with (fail)
  have HSD := hid (HS.out.grow (Below.refl _ _).drew)
  obtain ⟨D, hD⟩ : ∃ DX, V4.drew = DX := ⟨_, rfl⟩
  rw [hD] at HSD
  have HD := hid hD
  clear hD
  haveI HNE : Nonempty (RYX 40 X Y #[.slice wa M.W.length wc, .slice la M.L.length lc, .bool M.F] #[.int .i64 1, .int .u64 ((hash : Nat) : Int), .int .u64 ((key : Nat) : Int), .int .u64 ((link : Nat) : Int), .int .u64 ((node : Nat) : Int), .int .u64 ((val : Nat) : Int), .bool found]) := ⟨⟨D, HSD.out.bx, HSD.out.by_⟩⟩
  have q0 := ryx_y HNE 0 (.int .i64 1) rfl
  have q1 := ryx_y HNE 1 (.int .u64 ((hash : Nat) : Int)) rfl
  have q2 := ryx_y HNE 2 (.int .u64 ((key : Nat) : Int)) rfl
  have q3 := ryx_y HNE 3 (.int .u64 ((link : Nat) : Int)) rfl
  have q4 := ryx_y HNE 4 (.int .u64 ((node : Nat) : Int)) rfl
  have q5 := ryx_y HNE 5 (.int .u64 ((val : Nat) : Int)) rfl
  have q6 := ryx_y HNE 6 (.bool found) rfl
  refine wp_region_mix2 (fun W => ∃ z : RYX 40 X Y #[.slice wa M.W.length wc, .slice la M.L.length lc, .bool M.F] #[.int .i64 1, .int .u64 ((hash : Nat) : Int), .int .u64 ((key : Nat) : Int), .int .u64 ((link : Nat) : Int), .int .u64 ((node : Nat) : Int), .int .u64 ((val : Nat) : Int), .bool found], W = z.w) 17 (.q 0 (.q 1 (.q 3 (.q 4 (.q 6 (.q 7 (.q 9 (.q 10 (.q 13 (.q 14 (.h 2 (.h 5 (.h 8 (.h 11 (.q 12 (.q 15 (.q 16 .done))))))))))))))))) (by kernel_rfl) (by kernel_rfl) (by rw [HD.out]; exact ⟨⟨D, HSD.out.bx, HSD.out.by_⟩, rfl⟩) ?_
  rw [HD.out]
  repeat (refine wpMix2_q rfl rfl ?_; go_big_quiet_step (fail); refine wpQuiet_nil ?_)
  refine wpMix2_h rfl fun R' hR' hO => ?_
  go_wp2_with fail
  refine (HA0.out D).mono ?_
  rintro e wq ⟨rfl, hwq⟩
  rw [hwq]
  clear hwq wq
  go_wp2
  refine hR' _ _ ⟨⟨D, HSD.out.bx, HSD.out.by_⟩, rfl⟩ ?_
  clear hR' hO R'
  refine wpMix2_h rfl fun R' hR' hO => ?_
  go_wp2_with fail
  refine (HA1.out D).mono ?_
  rintro e wq ⟨rfl, hwq⟩
  rw [hwq]
  clear hwq wq
  go_wp2
  refine hR' _ _ ⟨⟨D, HSD.out.bx, HSD.out.by_⟩, rfl⟩ ?_
  clear hR' hO R'
  refine wpMix2_h rfl fun R' hR' hO => ?_
  go_wp2_with fail
  refine (HA2.out D).mono ?_
  rintro e wq ⟨rfl, hwq⟩
  rw [hwq]
  clear hwq wq
  go_wp2
  refine hR' _ _ ⟨⟨D, HSD.out.bx, HSD.out.by_⟩, rfl⟩ ?_
  clear hR' hO R'
  refine wpMix2_h rfl fun R' hR' hO => ?_
  go_wp2_with fail
  refine (HA3.out D).mono ?_
  rintro e wq ⟨rfl, hwq⟩
  rw [hwq]
  clear hwq wq
  go_wp2
  refine hR' _ _ ⟨⟨D, HSD.out.bx, HSD.out.by_⟩, rfl⟩ ?_
  clear hR' hO R'
  repeat (refine wpMix2_q rfl rfl ?_; go_big_quiet_step (fail); refine wpQuiet_nil ?_)
  refine wpMix2_done ?_
  simp only [List.drop_succ_cons, List.drop_nil]
  clear q0 q1 q2 q3 q4 q5 q6
  obtain ⟨p0, p1, p2⟩ := cells3 HSD.out.bx
  go_wp2_with fail
  refine (HST.out D HSD.out.mem).mono ?_
  rintro e w5 ⟨wa', wc', la', lc', rfl, hm, hb5, kw, kl⟩
  have hG4 : G < D.heap.size := lt_laid HSD.out.bg
  have hVD := HSD.out.below.size
  obtain ⟨w6, hw6, hb6, hs6, hl6⟩ := laid w5 #[.int .u64 0, .bool false] 69
  obtain ⟨B, hB⟩ : ∃ X, w5.heap.size = X := ⟨_, rfl⟩
  rw [hB] at hl6
  have ap : apartA wa' B ∧ apartA la' B := by
    have e1 := hm.w
    have e2 := hm.l
    constructor
    · rintro b off rfl rfl
      obtain ⟨_, _, ⟨q, _⟩ | ⟨b', o', q, q2, _⟩⟩ := e1
      · have := HLM.out; omega
      · cases q; omega
    · rintro b off rfl rfl
      obtain ⟨_, _, ⟨q, _⟩ | ⟨b', o', q, q2, _⟩⟩ := e2
      · have := HLM.out; omega
      · cases q; omega
  obtain ⟨w7, hw7, hS7, hk7⟩ := ((HSD.out.grow hb5).grow hb6).putX (hm.grow hb6) (HSD.out.aw.kept kw hG4) (HSD.out.al.kept kl hG4)
  have hGB : G < B := by have := hb5.size; omega
  have hXB : X < B := by have := HSD.out.ord; omega
  have hl7 := hk7 B _ (by omega) hl6
  obtain ⟨w8, hw8, a1, a2, a3⟩ := put_got hl7 (by decide) (by decide) (.int .u64 ((x : Nat) : Int)) (.bool d)
  have HS8 := hid (hS7.keep hGB ap.1 ap.2 a2 (a3.1 _ _ (by have := hVD; have := hb5.size; omega) hS7.below))
  have KB := hid a1
  have KW := hid (kw.mono hVD)
  have KL := hid (kl.mono hVD)
  have HW7 := hid hw7
  have HW8 := hid hw8
  have hwl' := hm.w.len
  have hll' := hm.l.len
  have hXnB : X ≠ B := by omega
  have hBnX : B ≠ X := by omega
  obtain ⟨x0, x1, x2⟩ := cells3 ((HSD.out.grow hb5).grow hb6).bx
  have xf0 := free_laid (i := 0) ((HSD.out.grow hb5).grow hb6).bx
  have xf1 := free_laid (i := 1) ((HSD.out.grow hb5).grow hb6).bx
  have xf2 := free_laid (i := 2) ((HSD.out.grow hb5).grow hb6).bx
  obtain ⟨g0, gf0, g1, gf1⟩ := fcl2 hl6
  clear hm hb5 kw kl hs6 hb6 hl6 hS7 hk7 hl7 a1 a2 a3 hw7 hw8 ap p0 p1 p2
  unfold memV
  go_upto_region 5 with (fail)
  rw [← HW7.out, ← HW8.out]
  cases d with
  | false =>
    obtain ⟨y0, yf0, y1, yf1, y2, yf2, y3, yf3, y4, yf4, y5, yf5, y6, yf6⟩ := fcl7 HS8.out.by_
    obtain ⟨g0, g1⟩ := ncl2 KB.out
    obtain ⟨w9, hw9⟩ : ∃ W, (w8.setCell ⟨Y, 0, none⟩ (.int .i64 5)) = W := ⟨_, rfl⟩
    have HS9 : Hid (Sq 40 #[.int .i64 0, .int .u64 0, .int .u64 0, .int .u64 0, .int .u64 0, .int .u64 0, .bool false] V X Y Z G wa' wc' la' lc' M' #[.int .i64 5, .int .u64 ((hash : Nat) : Int), .int .u64 ((key : Nat) : Int), .int .u64 ((link : Nat) : Int), .int .u64 ((node : Nat) : Int), .int .u64 ((val : Nat) : Int), .bool found] w9) := hid (by rw [← hw9]; exact (HS8.out.setY (i := 0) (v := .int .i64 5) (cs' := #[.int .i64 5, .int .u64 ((hash : Nat) : Int), .int .u64 ((key : Nat) : Int), .int .u64 ((link : Nat) : Int), .int .u64 ((node : Nat) : Int), .int .u64 ((val : Nat) : Int), .bool found]) rfl))
    have HW9 := hid hw9
    clear hw9
    have HRES : Hid (seekE M ⟨1, hash, key, link, node, val, found⟩ = (M', ⟨5, hash, key, link, node, val, found⟩, true)) := hid (HSE.out.trans (by rw [if_neg (by decide)]))
    go_upto_region 19 with (fail)
    rw [HW9.out]
    clear y0 yf0 y1 yf1 y2 yf2 y3 yf3 y4 yf4 y5 yf5 y6 yf6 g0 g1
    go_upto_region 19 with (fail)
    obtain ⟨D, hD⟩ : ∃ DX, (w9).drew = DX := ⟨_, rfl⟩
    have HSD := hid (HS9.out.grow (Below.refl _ _).drew)
    rw [hD] at HSD
    have HD := hid hD
    clear hD
    obtain ⟨U1, U2, hU1, hU2, d1, d2, d3, d4, d5, d6, d7, d8, d9⟩ := HSD.out.fin7 (by decide) (by decide)
    have HU1 := hid hU1
    have HU2 := hid hU2
    have D1 := hid d1
    have D2 := hid d2
    have D3 := hid d3
    have D4 := hid d4
    have D5 := hid d5
    have D6 := hid d6
    have D7 := hid d7
    have D8 := hid d8
    have D9 := hid d9
    clear hU1 hU2 d1 d2 d3 d4 d5 d6 d7 d8 d9
    haveI HNE : Nonempty (RYX 40 X Y #[.slice wa' M'.W.length wc', .slice la' M'.L.length lc', .bool M'.F] #[.int .i64 5, .int .u64 ((hash : Nat) : Int), .int .u64 ((key : Nat) : Int), .int .u64 ((link : Nat) : Int), .int .u64 ((node : Nat) : Int), .int .u64 ((val : Nat) : Int), .bool found]) := ⟨⟨D, HSD.out.bx, HSD.out.by_⟩⟩
    have p0 := ryx_x HNE 0 (.slice wa' M'.W.length wc') rfl
    have p1 := ryx_x HNE 1 (.slice la' M'.L.length lc') rfl
    have p2 := ryx_x HNE 2 (.bool M'.F) rfl
    have q0 := ryx_y HNE 0 (.int .i64 5) rfl
    have q1 := ryx_y HNE 1 (.int .u64 ((hash : Nat) : Int)) rfl
    have q2 := ryx_y HNE 2 (.int .u64 ((key : Nat) : Int)) rfl
    have q3 := ryx_y HNE 3 (.int .u64 ((link : Nat) : Int)) rfl
    have q4 := ryx_y HNE 4 (.int .u64 ((node : Nat) : Int)) rfl
    have q5 := ryx_y HNE 5 (.int .u64 ((val : Nat) : Int)) rfl
    have q6 := ryx_y HNE 6 (.bool found) rfl
    refine wp_region_mix2 (fun W => ∃ z : RYX 40 X Y #[.slice wa' M'.W.length wc', .slice la' M'.L.length lc', .bool M'.F] #[.int .i64 5, .int .u64 ((hash : Nat) : Int), .int .u64 ((key : Nat) : Int), .int .u64 ((link : Nat) : Int), .int .u64 ((node : Nat) : Int), .int .u64 ((val : Nat) : Int), .bool found], W = z.w) 4 (.q 0 (.q 1 (.h 2 (.h 3 .done)))) (by kernel_rfl) (by kernel_rfl) (by rw [HD.out]; exact ⟨⟨D, HSD.out.bx, HSD.out.by_⟩, rfl⟩) ?_
    rw [HD.out]
    repeat (refine wpMix2_q rfl rfl ?_; go_big_quiet_step (fail); refine wpQuiet_nil ?_)
    obtain ⟨z0, zf0, z1, zf1, z2, zf2⟩ := fcl3 HSD.out.bz
    refine wpMix2_h rfl fun R' hR' hO => ?_
    go_wp2
    rw [← HU1.out]
    refine hR' _ _ ⟨⟨U1, D1.out, D2.out⟩, rfl⟩ ?_
    clear hR' hO R' z0 z1 z2 zf0 zf1 zf2
    obtain ⟨z0, zf0, z1, zf1, z2, zf2, z3, zf3, z4, zf4, z5, zf5, z6, zf6⟩ := fcl7 D3.out
    refine wpMix2_h rfl fun R' hR' hO => ?_
    go_wp2
    rw [← HU2.out]
    refine hR' _ _ ⟨⟨U2, D4.out, D5.out⟩, rfl⟩ ?_
    clear hR' hO R' z0 z1 z2 z3 z4 z5 z6 zf0 zf1 zf2 zf3 zf4 zf5 zf6
    refine wpMix2_done ?_
    simp only [List.drop_succ_cons, List.drop_nil]
    go_wp2
    refine bodyPost_ret (SeekStep_result D6.out rfl D7.out rfl) rfl ?_
    rw [HRES.out]
    exact ⟨wa', wc', la', lc', rfl, D8.out, D9.out, KW.out, KL.out⟩
  | true =>
    by_cases hx : x < hash
    · have tx : decide (((x : Nat) : Int) < ((hash : Nat) : Int)) = true := decide_eq_true (by omega)
      obtain ⟨n2, hn2⟩ : ∃ n, (node + 2) % 18446744073709551616 = n := ⟨_, rfl⟩
      have hn2i : IntKind.u64.wrap (((node : Nat) : Int) + 2) = ((n2 : Nat) : Int) := by rw [IntKind.wrap_u64]; omega
      have HN2 := hid hn2
      clear hn2
      obtain ⟨y0, yf0, y1, yf1, y2, yf2, y3, yf3, y4, yf4, y5, yf5, y6, yf6⟩ := fcl7 HS8.out.by_
      obtain ⟨g0, g1⟩ := ncl2 KB.out
      obtain ⟨w9, hw9⟩ : ∃ W, ((w8.setCell ⟨Y, 3, none⟩ (.int .u64 ((n2 : Nat) : Int))).setCell ⟨Y, 0, none⟩ (.int .i64 0)) = W := ⟨_, rfl⟩
      have HS9 : Hid (Sq 40 #[.int .i64 0, .int .u64 0, .int .u64 0, .int .u64 0, .int .u64 0, .int .u64 0, .bool false] V X Y Z G wa' wc' la' lc' M' #[.int .i64 0, .int .u64 ((hash : Nat) : Int), .int .u64 ((key : Nat) : Int), .int .u64 ((n2 : Nat) : Int), .int .u64 ((node : Nat) : Int), .int .u64 ((val : Nat) : Int), .bool found] w9) := hid (by rw [← hw9]; exact ((HS8.out.setY (i := 3) (v := .int .u64 ((n2 : Nat) : Int)) (cs' := #[.int .i64 1, .int .u64 ((hash : Nat) : Int), .int .u64 ((key : Nat) : Int), .int .u64 ((n2 : Nat) : Int), .int .u64 ((node : Nat) : Int), .int .u64 ((val : Nat) : Int), .bool found]) rfl).setY (i := 0) (v := .int .i64 0) (cs' := #[.int .i64 0, .int .u64 ((hash : Nat) : Int), .int .u64 ((key : Nat) : Int), .int .u64 ((n2 : Nat) : Int), .int .u64 ((node : Nat) : Int), .int .u64 ((val : Nat) : Int), .bool found]) rfl))
      have HW9 := hid hw9
      clear hw9
      have HRES : Hid (seekE M ⟨1, hash, key, link, node, val, found⟩ = (M', ⟨0, hash, key, n2, node, val, found⟩, true)) := hid (HSE.out.trans (by rw [if_pos rfl]; rw [show thenS ⟨1, hash, key, link, node, val, found⟩ x 1 = cmpS ⟨1, hash, key, link, node, val, found⟩ x hash 2 from rfl]; unfold cmpS; rw [if_pos hx]; show (M', (⟨0, hash, key, (node + 2) % 18446744073709551616, node, val, found⟩ : Sk), true) = _; rw [HN2.out]))
      go_upto_region 19 with (fail)
      rw [HW9.out]
      clear y0 yf0 y1 yf1 y2 yf2 y3 yf3 y4 yf4 y5 yf5 y6 yf6 g0 g1
      go_upto_region 19 with (fail)
      obtain ⟨D, hD⟩ : ∃ DX, (w9).drew = DX := ⟨_, rfl⟩
      have HSD := hid (HS9.out.grow (Below.refl _ _).drew)
      rw [hD] at HSD
      have HD := hid hD
      clear hD
      obtain ⟨U1, U2, hU1, hU2, d1, d2, d3, d4, d5, d6, d7, d8, d9⟩ := HSD.out.fin7 (by decide) (by decide)
      have HU1 := hid hU1
      have HU2 := hid hU2
      have D1 := hid d1
      have D2 := hid d2
      have D3 := hid d3
      have D4 := hid d4
      have D5 := hid d5
      have D6 := hid d6
      have D7 := hid d7
      have D8 := hid d8
      have D9 := hid d9
      clear hU1 hU2 d1 d2 d3 d4 d5 d6 d7 d8 d9
      haveI HNE : Nonempty (RYX 40 X Y #[.slice wa' M'.W.length wc', .slice la' M'.L.length lc', .bool M'.F] #[.int .i64 0, .int .u64 ((hash : Nat) : Int), .int .u64 ((key : Nat) : Int), .int .u64 ((n2 : Nat) : Int), .int .u64 ((node : Nat) : Int), .int .u64 ((val : Nat) : Int), .bool found]) := ⟨⟨D, HSD.out.bx, HSD.out.by_⟩⟩
      have p0 := ryx_x HNE 0 (.slice wa' M'.W.length wc') rfl
      have p1 := ryx_x HNE 1 (.slice la' M'.L.length lc') rfl
      have p2 := ryx_x HNE 2 (.bool M'.F) rfl
      have q0 := ryx_y HNE 0 (.int .i64 0) rfl
      have q1 := ryx_y HNE 1 (.int .u64 ((hash : Nat) : Int)) rfl
      have q2 := ryx_y HNE 2 (.int .u64 ((key : Nat) : Int)) rfl
      have q3 := ryx_y HNE 3 (.int .u64 ((n2 : Nat) : Int)) rfl
      have q4 := ryx_y HNE 4 (.int .u64 ((node : Nat) : Int)) rfl
      have q5 := ryx_y HNE 5 (.int .u64 ((val : Nat) : Int)) rfl
      have q6 := ryx_y HNE 6 (.bool found) rfl
      refine wp_region_mix2 (fun W => ∃ z : RYX 40 X Y #[.slice wa' M'.W.length wc', .slice la' M'.L.length lc', .bool M'.F] #[.int .i64 0, .int .u64 ((hash : Nat) : Int), .int .u64 ((key : Nat) : Int), .int .u64 ((n2 : Nat) : Int), .int .u64 ((node : Nat) : Int), .int .u64 ((val : Nat) : Int), .bool found], W = z.w) 4 (.q 0 (.q 1 (.h 2 (.h 3 .done)))) (by kernel_rfl) (by kernel_rfl) (by rw [HD.out]; exact ⟨⟨D, HSD.out.bx, HSD.out.by_⟩, rfl⟩) ?_
      rw [HD.out]
      repeat (refine wpMix2_q rfl rfl ?_; go_big_quiet_step (fail); refine wpQuiet_nil ?_)
      obtain ⟨z0, zf0, z1, zf1, z2, zf2⟩ := fcl3 HSD.out.bz
      refine wpMix2_h rfl fun R' hR' hO => ?_
      go_wp2
      rw [← HU1.out]
      refine hR' _ _ ⟨⟨U1, D1.out, D2.out⟩, rfl⟩ ?_
      clear hR' hO R' z0 z1 z2 zf0 zf1 zf2
      obtain ⟨z0, zf0, z1, zf1, z2, zf2, z3, zf3, z4, zf4, z5, zf5, z6, zf6⟩ := fcl7 D3.out
      refine wpMix2_h rfl fun R' hR' hO => ?_
      go_wp2
      rw [← HU2.out]
      refine hR' _ _ ⟨⟨U2, D4.out, D5.out⟩, rfl⟩ ?_
      clear hR' hO R' z0 z1 z2 z3 z4 z5 z6 zf0 zf1 zf2 zf3 zf4 zf5 zf6
      refine wpMix2_done ?_
      simp only [List.drop_succ_cons, List.drop_nil]
      go_wp2
      refine bodyPost_ret (SeekStep_result D6.out rfl D7.out rfl) rfl ?_
      rw [HRES.out]
      exact ⟨wa', wc', la', lc', rfl, D8.out, D9.out, KW.out, KL.out⟩
    · have tx : decide (((x : Nat) : Int) < ((hash : Nat) : Int)) = false := decide_eq_false (by omega)
      by_cases hy : hash < x
      · have ty : decide (((hash : Nat) : Int) < ((x : Nat) : Int)) = true := decide_eq_true (by omega)
        obtain ⟨y0, yf0, y1, yf1, y2, yf2, y3, yf3, y4, yf4, y5, yf5, y6, yf6⟩ := fcl7 HS8.out.by_
        obtain ⟨g0, g1⟩ := ncl2 KB.out
        obtain ⟨w9, hw9⟩ : ∃ W, (w8.setCell ⟨Y, 0, none⟩ (.int .i64 4)) = W := ⟨_, rfl⟩
        have HS9 : Hid (Sq 40 #[.int .i64 0, .int .u64 0, .int .u64 0, .int .u64 0, .int .u64 0, .int .u64 0, .bool false] V X Y Z G wa' wc' la' lc' M' #[.int .i64 4, .int .u64 ((hash : Nat) : Int), .int .u64 ((key : Nat) : Int), .int .u64 ((link : Nat) : Int), .int .u64 ((node : Nat) : Int), .int .u64 ((val : Nat) : Int), .bool found] w9) := hid (by rw [← hw9]; exact (HS8.out.setY (i := 0) (v := .int .i64 4) (cs' := #[.int .i64 4, .int .u64 ((hash : Nat) : Int), .int .u64 ((key : Nat) : Int), .int .u64 ((link : Nat) : Int), .int .u64 ((node : Nat) : Int), .int .u64 ((val : Nat) : Int), .bool found]) rfl))
        have HW9 := hid hw9
        clear hw9
        have HRES : Hid (seekE M ⟨1, hash, key, link, node, val, found⟩ = (M', ⟨4, hash, key, link, node, val, found⟩, true)) := hid (HSE.out.trans (by rw [if_pos rfl]; rw [show thenS ⟨1, hash, key, link, node, val, found⟩ x 1 = cmpS ⟨1, hash, key, link, node, val, found⟩ x hash 2 from rfl]; unfold cmpS; rw [if_neg hx, if_pos hy]))
        go_upto_region 19 with (fail)
        rw [HW9.out]
        clear y0 yf0 y1 yf1 y2 yf2 y3 yf3 y4 yf4 y5 yf5 y6 yf6 g0 g1
        go_upto_region 19 with (fail)
        obtain ⟨D, hD⟩ : ∃ DX, (w9).drew = DX := ⟨_, rfl⟩
        have HSD := hid (HS9.out.grow (Below.refl _ _).drew)
        rw [hD] at HSD
        have HD := hid hD
        clear hD
        obtain ⟨U1, U2, hU1, hU2, d1, d2, d3, d4, d5, d6, d7, d8, d9⟩ := HSD.out.fin7 (by decide) (by decide)
        have HU1 := hid hU1
        have HU2 := hid hU2
        have D1 := hid d1
        have D2 := hid d2
        have D3 := hid d3
        have D4 := hid d4
        have D5 := hid d5
        have D6 := hid d6
        have D7 := hid d7
        have D8 := hid d8
        have D9 := hid d9
        clear hU1 hU2 d1 d2 d3 d4 d5 d6 d7 d8 d9
        haveI HNE : Nonempty (RYX 40 X Y #[.slice wa' M'.W.length wc', .slice la' M'.L.length lc', .bool M'.F] #[.int .i64 4, .int .u64 ((hash : Nat) : Int), .int .u64 ((key : Nat) : Int), .int .u64 ((link : Nat) : Int), .int .u64 ((node : Nat) : Int), .int .u64 ((val : Nat) : Int), .bool found]) := ⟨⟨D, HSD.out.bx, HSD.out.by_⟩⟩
        have p0 := ryx_x HNE 0 (.slice wa' M'.W.length wc') rfl
        have p1 := ryx_x HNE 1 (.slice la' M'.L.length lc') rfl
        have p2 := ryx_x HNE 2 (.bool M'.F) rfl
        have q0 := ryx_y HNE 0 (.int .i64 4) rfl
        have q1 := ryx_y HNE 1 (.int .u64 ((hash : Nat) : Int)) rfl
        have q2 := ryx_y HNE 2 (.int .u64 ((key : Nat) : Int)) rfl
        have q3 := ryx_y HNE 3 (.int .u64 ((link : Nat) : Int)) rfl
        have q4 := ryx_y HNE 4 (.int .u64 ((node : Nat) : Int)) rfl
        have q5 := ryx_y HNE 5 (.int .u64 ((val : Nat) : Int)) rfl
        have q6 := ryx_y HNE 6 (.bool found) rfl
        refine wp_region_mix2 (fun W => ∃ z : RYX 40 X Y #[.slice wa' M'.W.length wc', .slice la' M'.L.length lc', .bool M'.F] #[.int .i64 4, .int .u64 ((hash : Nat) : Int), .int .u64 ((key : Nat) : Int), .int .u64 ((link : Nat) : Int), .int .u64 ((node : Nat) : Int), .int .u64 ((val : Nat) : Int), .bool found], W = z.w) 4 (.q 0 (.q 1 (.h 2 (.h 3 .done)))) (by kernel_rfl) (by kernel_rfl) (by rw [HD.out]; exact ⟨⟨D, HSD.out.bx, HSD.out.by_⟩, rfl⟩) ?_
        rw [HD.out]
        repeat (refine wpMix2_q rfl rfl ?_; go_big_quiet_step (fail); refine wpQuiet_nil ?_)
        obtain ⟨z0, zf0, z1, zf1, z2, zf2⟩ := fcl3 HSD.out.bz
        refine wpMix2_h rfl fun R' hR' hO => ?_
        go_wp2
        rw [← HU1.out]
        refine hR' _ _ ⟨⟨U1, D1.out, D2.out⟩, rfl⟩ ?_
        clear hR' hO R' z0 z1 z2 zf0 zf1 zf2
        obtain ⟨z0, zf0, z1, zf1, z2, zf2, z3, zf3, z4, zf4, z5, zf5, z6, zf6⟩ := fcl7 D3.out
        refine wpMix2_h rfl fun R' hR' hO => ?_
        go_wp2
        rw [← HU2.out]
        refine hR' _ _ ⟨⟨U2, D4.out, D5.out⟩, rfl⟩ ?_
        clear hR' hO R' z0 z1 z2 z3 z4 z5 z6 zf0 zf1 zf2 zf3 zf4 zf5 zf6
        refine wpMix2_done ?_
        simp only [List.drop_succ_cons, List.drop_nil]
        go_wp2
        refine bodyPost_ret (SeekStep_result D6.out rfl D7.out rfl) rfl ?_
        rw [HRES.out]
        exact ⟨wa', wc', la', lc', rfl, D8.out, D9.out, KW.out, KL.out⟩
      · have ty : decide (((hash : Nat) : Int) < ((x : Nat) : Int)) = false := decide_eq_false (by omega)
        obtain ⟨y0, yf0, y1, yf1, y2, yf2, y3, yf3, y4, yf4, y5, yf5, y6, yf6⟩ := fcl7 HS8.out.by_
        obtain ⟨g0, g1⟩ := ncl2 KB.out
        obtain ⟨w9, hw9⟩ : ∃ W, (w8.setCell ⟨Y, 0, none⟩ (.int .i64 2)) = W := ⟨_, rfl⟩
        have HS9 : Hid (Sq 40 #[.int .i64 0, .int .u64 0, .int .u64 0, .int .u64 0, .int .u64 0, .int .u64 0, .bool false] V X Y Z G wa' wc' la' lc' M' #[.int .i64 2, .int .u64 ((hash : Nat) : Int), .int .u64 ((key : Nat) : Int), .int .u64 ((link : Nat) : Int), .int .u64 ((node : Nat) : Int), .int .u64 ((val : Nat) : Int), .bool found] w9) := hid (by rw [← hw9]; exact (HS8.out.setY (i := 0) (v := .int .i64 2) (cs' := #[.int .i64 2, .int .u64 ((hash : Nat) : Int), .int .u64 ((key : Nat) : Int), .int .u64 ((link : Nat) : Int), .int .u64 ((node : Nat) : Int), .int .u64 ((val : Nat) : Int), .bool found]) rfl))
        have HW9 := hid hw9
        clear hw9
        have HRES : Hid (seekE M ⟨1, hash, key, link, node, val, found⟩ = (M', ⟨2, hash, key, link, node, val, found⟩, true)) := hid (HSE.out.trans (by rw [if_pos rfl]; rw [show thenS ⟨1, hash, key, link, node, val, found⟩ x 1 = cmpS ⟨1, hash, key, link, node, val, found⟩ x hash 2 from rfl]; unfold cmpS; rw [if_neg hx, if_neg hy]))
        go_upto_region 19 with (fail)
        rw [HW9.out]
        clear y0 yf0 y1 yf1 y2 yf2 y3 yf3 y4 yf4 y5 yf5 y6 yf6 g0 g1
        go_upto_region 19 with (fail)
        obtain ⟨D, hD⟩ : ∃ DX, (w9).drew = DX := ⟨_, rfl⟩
        have HSD := hid (HS9.out.grow (Below.refl _ _).drew)
        rw [hD] at HSD
        have HD := hid hD
        clear hD
        obtain ⟨U1, U2, hU1, hU2, d1, d2, d3, d4, d5, d6, d7, d8, d9⟩ := HSD.out.fin7 (by decide) (by decide)
        have HU1 := hid hU1
        have HU2 := hid hU2
        have D1 := hid d1
        have D2 := hid d2
        have D3 := hid d3
        have D4 := hid d4
        have D5 := hid d5
        have D6 := hid d6
        have D7 := hid d7
        have D8 := hid d8
        have D9 := hid d9
        clear hU1 hU2 d1 d2 d3 d4 d5 d6 d7 d8 d9
        haveI HNE : Nonempty (RYX 40 X Y #[.slice wa' M'.W.length wc', .slice la' M'.L.length lc', .bool M'.F] #[.int .i64 2, .int .u64 ((hash : Nat) : Int), .int .u64 ((key : Nat) : Int), .int .u64 ((link : Nat) : Int), .int .u64 ((node : Nat) : Int), .int .u64 ((val : Nat) : Int), .bool found]) := ⟨⟨D, HSD.out.bx, HSD.out.by_⟩⟩
        have p0 := ryx_x HNE 0 (.slice wa' M'.W.length wc') rfl
        have p1 := ryx_x HNE 1 (.slice la' M'.L.length lc') rfl
        have p2 := ryx_x HNE 2 (.bool M'.F) rfl
        have q0 := ryx_y HNE 0 (.int .i64 2) rfl
        have q1 := ryx_y HNE 1 (.int .u64 ((hash : Nat) : Int)) rfl
        have q2 := ryx_y HNE 2 (.int .u64 ((key : Nat) : Int)) rfl
        have q3 := ryx_y HNE 3 (.int .u64 ((link : Nat) : Int)) rfl
        have q4 := ryx_y HNE 4 (.int .u64 ((node : Nat) : Int)) rfl
        have q5 := ryx_y HNE 5 (.int .u64 ((val : Nat) : Int)) rfl
        have q6 := ryx_y HNE 6 (.bool found) rfl
        refine wp_region_mix2 (fun W => ∃ z : RYX 40 X Y #[.slice wa' M'.W.length wc', .slice la' M'.L.length lc', .bool M'.F] #[.int .i64 2, .int .u64 ((hash : Nat) : Int), .int .u64 ((key : Nat) : Int), .int .u64 ((link : Nat) : Int), .int .u64 ((node : Nat) : Int), .int .u64 ((val : Nat) : Int), .bool found], W = z.w) 4 (.q 0 (.q 1 (.h 2 (.h 3 .done)))) (by kernel_rfl) (by kernel_rfl) (by rw [HD.out]; exact ⟨⟨D, HSD.out.bx, HSD.out.by_⟩, rfl⟩) ?_
        rw [HD.out]
        repeat (refine wpMix2_q rfl rfl ?_; go_big_quiet_step (fail); refine wpQuiet_nil ?_)
        obtain ⟨z0, zf0, z1, zf1, z2, zf2⟩ := fcl3 HSD.out.bz
        refine wpMix2_h rfl fun R' hR' hO => ?_
        go_wp2
        rw [← HU1.out]
        refine hR' _ _ ⟨⟨U1, D1.out, D2.out⟩, rfl⟩ ?_
        clear hR' hO R' z0 z1 z2 zf0 zf1 zf2
        obtain ⟨z0, zf0, z1, zf1, z2, zf2, z3, zf3, z4, zf4, z5, zf5, z6, zf6⟩ := fcl7 D3.out
        refine wpMix2_h rfl fun R' hR' hO => ?_
        go_wp2
        rw [← HU2.out]
        refine hR' _ _ ⟨⟨U2, D4.out, D5.out⟩, rfl⟩ ?_
        clear hR' hO R' z0 z1 z2 z3 z4 z5 z6 zf0 zf1 zf2 zf3 zf4 zf5 zf6
        refine wpMix2_done ?_
        simp only [List.drop_succ_cons, List.drop_nil]
        go_wp2
        refine bodyPost_ret (SeekStep_result D6.out rfl D7.out rfl) rfl ?_
        rw [HRES.out]
        exact ⟨wa', wc', la', lc', rfl, D8.out, D9.out, KW.out, KL.out⟩
set_option maxRecDepth 100000 in
set_option maxHeartbeats 8000000 in
theorem rseek2_any (M : Mem) (s : Sk) (wa la : Option Addr) (wc lc : Nat) (V : World) (h : MemL V wa wc la lc M) (hok : okM M = true) (hs : s.Ok) (hph : s.ph = 2) :
    Calls Try.prog 26 #[memV wa wc la lc M, skV s] V (GivesRQ wa la ((seekE M s).1, (seekE M s).2.1) V) := by
  obtain ⟨ph, hash, key, link, node, val, found⟩ := s
  obtain rfl : ph = 2 := hph
  obtain ⟨V1, hV1, hbV1, hsV1, hlV1⟩ := laid V #[.slice wa M.W.length wc, .slice la M.L.length lc, .bool M.F] 25
  obtain ⟨V2, hV2, hbV2, hsV2, hlV2⟩ := laid V1 #[.int .i64 2, .int .u64 ((hash : Nat) : Int), .int .u64 ((key : Nat) : Int), .int .u64 ((link : Nat) : Int), .int .u64 ((node : Nat) : Int), .int .u64 ((val : Nat) : Int), .bool found] 40
  obtain ⟨V3, hV3, hbV3, hsV3, hlV3⟩ := laid V2 #[.slice none 0 0, .slice none 0 0, .bool false] 25
  obtain ⟨V4, hV4, hbV4, hsV4, hlV4⟩ := laid V3 #[.int .i64 0, .int .u64 0, .int .u64 0, .int .u64 0, .int .u64 0, .int .u64 0, .bool false] 40
  obtain ⟨X, hX⟩ : ∃ X, V.heap.size = X := ⟨_, rfl⟩
  rw [hX] at hlV1
  obtain ⟨Y, hY⟩ : ∃ X, V1.heap.size = X := ⟨_, rfl⟩
  rw [hY] at hlV2
  obtain ⟨Z, hZ⟩ : ∃ X, V2.heap.size = X := ⟨_, rfl⟩
  rw [hZ] at hlV3
  obtain ⟨G, hG⟩ : ∃ X, V3.heap.size = X := ⟨_, rfl⟩
  rw [hG] at hlV4
  have KX := hid (keep_laid (keep_laid (keep_laid hlV1 hbV2) hbV3) hbV4)
  have KY := hid (keep_laid (keep_laid hlV2 hbV3) hbV4)
  have KZ := hid (keep_laid hlV3 hbV4)
  have KG := hid hlV4
  have HB := hid (step (step (step hbV1 hbV2) hbV3) hbV4)
  have hVX : V.heap.size ≤ X := by omega
  have hVY : V.heap.size ≤ Y := by omega
  have nXY : X < Y := by omega
  have hVZ : V.heap.size ≤ Z := by omega
  have nXZ : X < Z := by omega
  have nYZ : Y < Z := by omega
  have hVG : V.heap.size ≤ G := by omega
  have nXG : X < G := by omega
  have nYG : Y < G := by omega
  have nZG : Z < G := by omega
  clear hbV1 hsV1 hlV1 hbV2 hsV2 hlV2 hbV3 hsV3 hlV3 hbV4 hsV4 hlV4
  obtain ⟨aw, al⟩ := h.low hok (X := X) (G := G) (by omega)
  have HS := hid (show Sq 40 #[.int .i64 0, .int .u64 0, .int .u64 0, .int .u64 0, .int .u64 0, .int .u64 0, .bool false] V X Y Z G wa wc la lc M #[.int .i64 2, .int .u64 ((hash : Nat) : Int), .int .u64 ((key : Nat) : Int), .int .u64 ((link : Nat) : Int), .int .u64 ((node : Nat) : Int), .int .u64 ((val : Nat) : Int), .bool found] V4 from ⟨KX.out, KY.out, KZ.out, KG.out, h.grow HB.out, aw, al, HB.out, by omega⟩)
  have hwl := h.w.len
  have hll := h.l.len
  have HSO := hid hs
  have HOK := hid hok
  unfold memV skV
  dsimp only
  have y0 := cell_laid (i := 0) KY.out rfl
  obtain ⟨⟨M', x, d⟩, hX⟩ : ∃ X, stepM M false ((posL node 0 : Nat) : Int) 0 = X := ⟨_, rfl⟩
  have HSE : Hid (seekE M ⟨2, hash, key, link, node, val, found⟩ = (M', (if d = true then thenS ⟨2, hash, key, link, node, val, found⟩ x 2 else ⟨5, hash, key, link, node, val, found⟩), true)) := hid (by
    have e0 : seekE M ⟨2, hash, key, link, node, val, found⟩ = ((stepM M false ((posL node 0 : Nat) : Int) 0).1, (if (stepM M false ((posL node 0 : Nat) : Int) 0).2.2 = true then thenS ⟨2, hash, key, link, node, val, found⟩ (stepM M false ((posL node 0 : Nat) : Int) 0).2.1 2 else ⟨5, hash, key, link, node, val, found⟩), true) := by
      unfold seekE; rw [if_neg (show ¬ ((4 : Int) ≤ 2) by decide)]; rfl
    rw [e0, hX])
  obtain ⟨P0, hP0⟩ : ∃ q, posL link 0 = q := ⟨_, rfl⟩
  have HA0 := hid (fun W => rat_any link 0 W hs.link (by decide))
  rw [hP0] at HA0
  have hp0 : P0 ≤ 5000 := by rw [← hP0]; exact posL_le _ _ (by decide)
  obtain ⟨P1, hP1⟩ : ∃ q, posL node 3 = q := ⟨_, rfl⟩
  have HA1 := hid (fun W => rat_any node 3 W hs.node (by decide))
  rw [hP1] at HA1
  have hp1 : P1 ≤ 5000 := by rw [← hP1]; exact posL_le _ _ (by decide)
  obtain ⟨P2, hP2⟩ : ∃ q, posL node 0 = q := ⟨_, rfl⟩
  have HA2 := hid (fun W => rat_any node 0 W hs.node (by decide))
  rw [hP2] at HA2
  have hp2 : P2 ≤ 5000 := by rw [← hP2]; exact posL_le _ _ (by decide)
  obtain ⟨P3, hP3⟩ : ∃ q, posL node 1 = q := ⟨_, rfl⟩
  have HA3 := hid (fun W => rat_any node 1 W hs.node (by decide))
  rw [hP3] at HA3
  have hp3 : P3 ≤ 5000 := by rw [← hP3]; exact posL_le _ _ (by decide)
  have HST : Hid (∀ W, MemL W wa wc la lc M → Calls Try.prog 56 #[.agg #[.slice wa M.W.length wc, .slice la M.L.length lc, .bool M.F], .agg #[.int .i64 1, .int .i64 ((P2 : Nat) : Int), .int .u64 0, .int .u64 0]] W (GivesR wa la M' x d W)) := hid (fun W hm => by
    have := RefStep_any M wa la wc lc false 1 ((posL node 0 : Nat) : Int) 0 0 W hm hok (by rw [hP2]; omega) rfl
    rw [hX, hP2] at this
    exact this)
  have hix : ∀ W, (Instr.index 117 (.agg #[.int .i64 ((P0 : Nat) : Int), .int .i64 ((P1 : Nat) : Int), .int .i64 ((P2 : Nat) : Int), .int .i64 ((P3 : Nat) : Int)]) (.int .i64 2)).run Try.prog W = .ok (.int .i64 ((P2 : Nat) : Int)) W := fun W => by kernel_rfl
  have hjx : ∀ W, (Instr.index 120 (.agg #[.int .u64 0, .int .u64 ((hash : Nat) : Int), .int .u64 ((key : Nat) : Int), .int .u64 0]) (.int .i64 2)).run Try.prog W = .ok (.int .u64 ((key : Nat) : Int)) W := fun W => by kernel_rfl
  have HLM : Hid (1 ≤ M'.W.length ∧ 1 ≤ M'.L.length) := hid (by have e1 := stepM_len M false ((posL node 0 : Nat) : Int) 0; have e2 := stepM_L M false ((posL node 0 : Nat) : Int) 0; rw [hX] at e1 e2; dsimp only at e1 e2; obtain ⟨a, b, d, -⟩ := okM_spec hok; rw [e2]; omega)
  clear h hok hs aw al KX KY KZ KG hX hP0 hP1 hP2 hP3
  go_enter Try.func26, Try.ntmps26
  go_upto_region 3 with (fail)
  have HSD := hid (HS.out.grow (Below.refl _ _).drew)
  obtain ⟨D, hD⟩ : ∃ DX, V4.drew = DX := ⟨_, rfl⟩
  rw [hD] at HSD
  have HD := hid hD
  clear hD
  haveI HNE : Nonempty (RYX 40 X Y #[.slice wa M.W.length wc, .slice la M.L.length lc, .bool M.F] #[.int .i64 2, .int .u64 ((hash : Nat) : Int), .int .u64 ((key : Nat) : Int), .int .u64 ((link : Nat) : Int), .int .u64 ((node : Nat) : Int), .int .u64 ((val : Nat) : Int), .bool found]) := ⟨⟨D, HSD.out.bx, HSD.out.by_⟩⟩
  have q0 := ryx_y HNE 0 (.int .i64 2) rfl
  have q1 := ryx_y HNE 1 (.int .u64 ((hash : Nat) : Int)) rfl
  have q2 := ryx_y HNE 2 (.int .u64 ((key : Nat) : Int)) rfl
  have q3 := ryx_y HNE 3 (.int .u64 ((link : Nat) : Int)) rfl
  have q4 := ryx_y HNE 4 (.int .u64 ((node : Nat) : Int)) rfl
  have q5 := ryx_y HNE 5 (.int .u64 ((val : Nat) : Int)) rfl
  have q6 := ryx_y HNE 6 (.bool found) rfl
  refine wp_region_mix2 (fun W => ∃ z : RYX 40 X Y #[.slice wa M.W.length wc, .slice la M.L.length lc, .bool M.F] #[.int .i64 2, .int .u64 ((hash : Nat) : Int), .int .u64 ((key : Nat) : Int), .int .u64 ((link : Nat) : Int), .int .u64 ((node : Nat) : Int), .int .u64 ((val : Nat) : Int), .bool found], W = z.w) 17 (.q 0 (.q 1 (.q 3 (.q 4 (.q 6 (.q 7 (.q 9 (.q 10 (.q 13 (.q 14 (.h 2 (.h 5 (.h 8 (.h 11 (.q 12 (.q 15 (.q 16 .done))))))))))))))))) (by kernel_rfl) (by kernel_rfl) (by rw [HD.out]; exact ⟨⟨D, HSD.out.bx, HSD.out.by_⟩, rfl⟩) ?_
  rw [HD.out]
  repeat (refine wpMix2_q rfl rfl ?_; go_big_quiet_step (fail); refine wpQuiet_nil ?_)
  refine wpMix2_h rfl fun R' hR' hO => ?_
  go_wp2_with fail
  refine (HA0.out D).mono ?_
  rintro e wq ⟨rfl, hwq⟩
  rw [hwq]
  clear hwq wq
  go_wp2
  refine hR' _ _ ⟨⟨D, HSD.out.bx, HSD.out.by_⟩, rfl⟩ ?_
  clear hR' hO R'
  refine wpMix2_h rfl fun R' hR' hO => ?_
  go_wp2_with fail
  refine (HA1.out D).mono ?_
  rintro e wq ⟨rfl, hwq⟩
  rw [hwq]
  clear hwq wq
  go_wp2
  refine hR' _ _ ⟨⟨D, HSD.out.bx, HSD.out.by_⟩, rfl⟩ ?_
  clear hR' hO R'
  refine wpMix2_h rfl fun R' hR' hO => ?_
  go_wp2_with fail
  refine (HA2.out D).mono ?_
  rintro e wq ⟨rfl, hwq⟩
  rw [hwq]
  clear hwq wq
  go_wp2
  refine hR' _ _ ⟨⟨D, HSD.out.bx, HSD.out.by_⟩, rfl⟩ ?_
  clear hR' hO R'
  refine wpMix2_h rfl fun R' hR' hO => ?_
  go_wp2_with fail
  refine (HA3.out D).mono ?_
  rintro e wq ⟨rfl, hwq⟩
  rw [hwq]
  clear hwq wq
  go_wp2
  refine hR' _ _ ⟨⟨D, HSD.out.bx, HSD.out.by_⟩, rfl⟩ ?_
  clear hR' hO R'
  repeat (refine wpMix2_q rfl rfl ?_; go_big_quiet_step (fail); refine wpQuiet_nil ?_)
  refine wpMix2_done ?_
  simp only [List.drop_succ_cons, List.drop_nil]
  clear q0 q1 q2 q3 q4 q5 q6
  obtain ⟨p0, p1, p2⟩ := cells3 HSD.out.bx
  go_wp2_with fail
  refine (HST.out D HSD.out.mem).mono ?_
  rintro e w5 ⟨wa', wc', la', lc', rfl, hm, hb5, kw, kl⟩
  have hG4 : G < D.heap.size := lt_laid HSD.out.bg
  have hVD := HSD.out.below.size
  obtain ⟨w6, hw6, hb6, hs6, hl6⟩ := laid w5 #[.int .u64 0, .bool false] 69
  obtain ⟨B, hB⟩ : ∃ X, w5.heap.size = X := ⟨_, rfl⟩
  rw [hB] at hl6
  have ap : apartA wa' B ∧ apartA la' B := by
    have e1 := hm.w
    have e2 := hm.l
    constructor
    · rintro b off rfl rfl
      obtain ⟨_, _, ⟨q, _⟩ | ⟨b', o', q, q2, _⟩⟩ := e1
      · have := HLM.out; omega
      · cases q; omega
    · rintro b off rfl rfl
      obtain ⟨_, _, ⟨q, _⟩ | ⟨b', o', q, q2, _⟩⟩ := e2
      · have := HLM.out; omega
      · cases q; omega
  obtain ⟨w7, hw7, hS7, hk7⟩ := ((HSD.out.grow hb5).grow hb6).putX (hm.grow hb6) (HSD.out.aw.kept kw hG4) (HSD.out.al.kept kl hG4)
  have hGB : G < B := by have := hb5.size; omega
  have hXB : X < B := by have := HSD.out.ord; omega
  have hl7 := hk7 B _ (by omega) hl6
  obtain ⟨w8, hw8, a1, a2, a3⟩ := put_got hl7 (by decide) (by decide) (.int .u64 ((x : Nat) : Int)) (.bool d)
  have HS8 := hid (hS7.keep hGB ap.1 ap.2 a2 (a3.1 _ _ (by have := hVD; have := hb5.size; omega) hS7.below))
  have KB := hid a1
  have KW := hid (kw.mono hVD)
  have KL := hid (kl.mono hVD)
  have HW7 := hid hw7
  have HW8 := hid hw8
  have hwl' := hm.w.len
  have hll' := hm.l.len
  have hXnB : X ≠ B := by omega
  have hBnX : B ≠ X := by omega
  obtain ⟨x0, x1, x2⟩ := cells3 ((HSD.out.grow hb5).grow hb6).bx
  have xf0 := free_laid (i := 0) ((HSD.out.grow hb5).grow hb6).bx
  have xf1 := free_laid (i := 1) ((HSD.out.grow hb5).grow hb6).bx
  have xf2 := free_laid (i := 2) ((HSD.out.grow hb5).grow hb6).bx
  obtain ⟨g0, gf0, g1, gf1⟩ := fcl2 hl6
  clear hm hb5 kw kl hs6 hb6 hl6 hS7 hk7 hl7 a1 a2 a3 hw7 hw8 ap p0 p1 p2
  unfold memV
  go_upto_region 5 with (fail)
  rw [← HW7.out, ← HW8.out]
  cases d with
  | false =>
    obtain ⟨y0, yf0, y1, yf1, y2, yf2, y3, yf3, y4, yf4, y5, yf5, y6, yf6⟩ := fcl7 HS8.out.by_
    obtain ⟨g0, g1⟩ := ncl2 KB.out
    obtain ⟨w9, hw9⟩ : ∃ W, (w8.setCell ⟨Y, 0, none⟩ (.int .i64 5)) = W := ⟨_, rfl⟩
    have HS9 : Hid (Sq 40 #[.int .i64 0, .int .u64 0, .int .u64 0, .int .u64 0, .int .u64 0, .int .u64 0, .bool false] V X Y Z G wa' wc' la' lc' M' #[.int .i64 5, .int .u64 ((hash : Nat) : Int), .int .u64 ((key : Nat) : Int), .int .u64 ((link : Nat) : Int), .int .u64 ((node : Nat) : Int), .int .u64 ((val : Nat) : Int), .bool found] w9) := hid (by rw [← hw9]; exact (HS8.out.setY (i := 0) (v := .int .i64 5) (cs' := #[.int .i64 5, .int .u64 ((hash : Nat) : Int), .int .u64 ((key : Nat) : Int), .int .u64 ((link : Nat) : Int), .int .u64 ((node : Nat) : Int), .int .u64 ((val : Nat) : Int), .bool found]) rfl))
    have HW9 := hid hw9
    clear hw9
    have HRES : Hid (seekE M ⟨2, hash, key, link, node, val, found⟩ = (M', ⟨5, hash, key, link, node, val, found⟩, true)) := hid (HSE.out.trans (by rw [if_neg (by decide)]))
    go_upto_region 19 with (fail)
    rw [HW9.out]
    clear y0 yf0 y1 yf1 y2 yf2 y3 yf3 y4 yf4 y5 yf5 y6 yf6 g0 g1
    go_upto_region 19 with (fail)
    obtain ⟨D, hD⟩ : ∃ DX, (w9).drew = DX := ⟨_, rfl⟩
    have HSD := hid (HS9.out.grow (Below.refl _ _).drew)
    rw [hD] at HSD
    have HD := hid hD
    clear hD
    obtain ⟨U1, U2, hU1, hU2, d1, d2, d3, d4, d5, d6, d7, d8, d9⟩ := HSD.out.fin7 (by decide) (by decide)
    have HU1 := hid hU1
    have HU2 := hid hU2
    have D1 := hid d1
    have D2 := hid d2
    have D3 := hid d3
    have D4 := hid d4
    have D5 := hid d5
    have D6 := hid d6
    have D7 := hid d7
    have D8 := hid d8
    have D9 := hid d9
    clear hU1 hU2 d1 d2 d3 d4 d5 d6 d7 d8 d9
    haveI HNE : Nonempty (RYX 40 X Y #[.slice wa' M'.W.length wc', .slice la' M'.L.length lc', .bool M'.F] #[.int .i64 5, .int .u64 ((hash : Nat) : Int), .int .u64 ((key : Nat) : Int), .int .u64 ((link : Nat) : Int), .int .u64 ((node : Nat) : Int), .int .u64 ((val : Nat) : Int), .bool found]) := ⟨⟨D, HSD.out.bx, HSD.out.by_⟩⟩
    have p0 := ryx_x HNE 0 (.slice wa' M'.W.length wc') rfl
    have p1 := ryx_x HNE 1 (.slice la' M'.L.length lc') rfl
    have p2 := ryx_x HNE 2 (.bool M'.F) rfl
    have q0 := ryx_y HNE 0 (.int .i64 5) rfl
    have q1 := ryx_y HNE 1 (.int .u64 ((hash : Nat) : Int)) rfl
    have q2 := ryx_y HNE 2 (.int .u64 ((key : Nat) : Int)) rfl
    have q3 := ryx_y HNE 3 (.int .u64 ((link : Nat) : Int)) rfl
    have q4 := ryx_y HNE 4 (.int .u64 ((node : Nat) : Int)) rfl
    have q5 := ryx_y HNE 5 (.int .u64 ((val : Nat) : Int)) rfl
    have q6 := ryx_y HNE 6 (.bool found) rfl
    refine wp_region_mix2 (fun W => ∃ z : RYX 40 X Y #[.slice wa' M'.W.length wc', .slice la' M'.L.length lc', .bool M'.F] #[.int .i64 5, .int .u64 ((hash : Nat) : Int), .int .u64 ((key : Nat) : Int), .int .u64 ((link : Nat) : Int), .int .u64 ((node : Nat) : Int), .int .u64 ((val : Nat) : Int), .bool found], W = z.w) 4 (.q 0 (.q 1 (.h 2 (.h 3 .done)))) (by kernel_rfl) (by kernel_rfl) (by rw [HD.out]; exact ⟨⟨D, HSD.out.bx, HSD.out.by_⟩, rfl⟩) ?_
    rw [HD.out]
    repeat (refine wpMix2_q rfl rfl ?_; go_big_quiet_step (fail); refine wpQuiet_nil ?_)
    obtain ⟨z0, zf0, z1, zf1, z2, zf2⟩ := fcl3 HSD.out.bz
    refine wpMix2_h rfl fun R' hR' hO => ?_
    go_wp2
    rw [← HU1.out]
    refine hR' _ _ ⟨⟨U1, D1.out, D2.out⟩, rfl⟩ ?_
    clear hR' hO R' z0 z1 z2 zf0 zf1 zf2
    obtain ⟨z0, zf0, z1, zf1, z2, zf2, z3, zf3, z4, zf4, z5, zf5, z6, zf6⟩ := fcl7 D3.out
    refine wpMix2_h rfl fun R' hR' hO => ?_
    go_wp2
    rw [← HU2.out]
    refine hR' _ _ ⟨⟨U2, D4.out, D5.out⟩, rfl⟩ ?_
    clear hR' hO R' z0 z1 z2 z3 z4 z5 z6 zf0 zf1 zf2 zf3 zf4 zf5 zf6
    refine wpMix2_done ?_
    simp only [List.drop_succ_cons, List.drop_nil]
    go_wp2
    refine bodyPost_ret (SeekStep_result D6.out rfl D7.out rfl) rfl ?_
    rw [HRES.out]
    exact ⟨wa', wc', la', lc', rfl, D8.out, D9.out, KW.out, KL.out⟩
  | true =>
    by_cases hx : x < key
    · have tx : decide (((x : Nat) : Int) < ((key : Nat) : Int)) = true := decide_eq_true (by omega)
      obtain ⟨n2, hn2⟩ : ∃ n, (node + 2) % 18446744073709551616 = n := ⟨_, rfl⟩
      have hn2i : IntKind.u64.wrap (((node : Nat) : Int) + 2) = ((n2 : Nat) : Int) := by rw [IntKind.wrap_u64]; omega
      have HN2 := hid hn2
      clear hn2
      obtain ⟨y0, yf0, y1, yf1, y2, yf2, y3, yf3, y4, yf4, y5, yf5, y6, yf6⟩ := fcl7 HS8.out.by_
      obtain ⟨g0, g1⟩ := ncl2 KB.out
      obtain ⟨w9, hw9⟩ : ∃ W, ((w8.setCell ⟨Y, 3, none⟩ (.int .u64 ((n2 : Nat) : Int))).setCell ⟨Y, 0, none⟩ (.int .i64 0)) = W := ⟨_, rfl⟩
      have HS9 : Hid (Sq 40 #[.int .i64 0, .int .u64 0, .int .u64 0, .int .u64 0, .int .u64 0, .int .u64 0, .bool false] V X Y Z G wa' wc' la' lc' M' #[.int .i64 0, .int .u64 ((hash : Nat) : Int), .int .u64 ((key : Nat) : Int), .int .u64 ((n2 : Nat) : Int), .int .u64 ((node : Nat) : Int), .int .u64 ((val : Nat) : Int), .bool found] w9) := hid (by rw [← hw9]; exact ((HS8.out.setY (i := 3) (v := .int .u64 ((n2 : Nat) : Int)) (cs' := #[.int .i64 2, .int .u64 ((hash : Nat) : Int), .int .u64 ((key : Nat) : Int), .int .u64 ((n2 : Nat) : Int), .int .u64 ((node : Nat) : Int), .int .u64 ((val : Nat) : Int), .bool found]) rfl).setY (i := 0) (v := .int .i64 0) (cs' := #[.int .i64 0, .int .u64 ((hash : Nat) : Int), .int .u64 ((key : Nat) : Int), .int .u64 ((n2 : Nat) : Int), .int .u64 ((node : Nat) : Int), .int .u64 ((val : Nat) : Int), .bool found]) rfl))
      have HW9 := hid hw9
      clear hw9
      have HRES : Hid (seekE M ⟨2, hash, key, link, node, val, found⟩ = (M', ⟨0, hash, key, n2, node, val, found⟩, true)) := hid (HSE.out.trans (by rw [if_pos rfl]; rw [show thenS ⟨2, hash, key, link, node, val, found⟩ x 2 = cmpS ⟨2, hash, key, link, node, val, found⟩ x key 3 from rfl]; unfold cmpS; rw [if_pos hx]; show (M', (⟨0, hash, key, (node + 2) % 18446744073709551616, node, val, found⟩ : Sk), true) = _; rw [HN2.out]))
      go_upto_region 19 with (fail)
      rw [HW9.out]
      clear y0 yf0 y1 yf1 y2 yf2 y3 yf3 y4 yf4 y5 yf5 y6 yf6 g0 g1
      go_upto_region 19 with (fail)
      obtain ⟨D, hD⟩ : ∃ DX, (w9).drew = DX := ⟨_, rfl⟩
      have HSD := hid (HS9.out.grow (Below.refl _ _).drew)
      rw [hD] at HSD
      have HD := hid hD
      clear hD
      obtain ⟨U1, U2, hU1, hU2, d1, d2, d3, d4, d5, d6, d7, d8, d9⟩ := HSD.out.fin7 (by decide) (by decide)
      have HU1 := hid hU1
      have HU2 := hid hU2
      have D1 := hid d1
      have D2 := hid d2
      have D3 := hid d3
      have D4 := hid d4
      have D5 := hid d5
      have D6 := hid d6
      have D7 := hid d7
      have D8 := hid d8
      have D9 := hid d9
      clear hU1 hU2 d1 d2 d3 d4 d5 d6 d7 d8 d9
      haveI HNE : Nonempty (RYX 40 X Y #[.slice wa' M'.W.length wc', .slice la' M'.L.length lc', .bool M'.F] #[.int .i64 0, .int .u64 ((hash : Nat) : Int), .int .u64 ((key : Nat) : Int), .int .u64 ((n2 : Nat) : Int), .int .u64 ((node : Nat) : Int), .int .u64 ((val : Nat) : Int), .bool found]) := ⟨⟨D, HSD.out.bx, HSD.out.by_⟩⟩
      have p0 := ryx_x HNE 0 (.slice wa' M'.W.length wc') rfl
      have p1 := ryx_x HNE 1 (.slice la' M'.L.length lc') rfl
      have p2 := ryx_x HNE 2 (.bool M'.F) rfl
      have q0 := ryx_y HNE 0 (.int .i64 0) rfl
      have q1 := ryx_y HNE 1 (.int .u64 ((hash : Nat) : Int)) rfl
      have q2 := ryx_y HNE 2 (.int .u64 ((key : Nat) : Int)) rfl
      have q3 := ryx_y HNE 3 (.int .u64 ((n2 : Nat) : Int)) rfl
      have q4 := ryx_y HNE 4 (.int .u64 ((node : Nat) : Int)) rfl
      have q5 := ryx_y HNE 5 (.int .u64 ((val : Nat) : Int)) rfl
      have q6 := ryx_y HNE 6 (.bool found) rfl
      refine wp_region_mix2 (fun W => ∃ z : RYX 40 X Y #[.slice wa' M'.W.length wc', .slice la' M'.L.length lc', .bool M'.F] #[.int .i64 0, .int .u64 ((hash : Nat) : Int), .int .u64 ((key : Nat) : Int), .int .u64 ((n2 : Nat) : Int), .int .u64 ((node : Nat) : Int), .int .u64 ((val : Nat) : Int), .bool found], W = z.w) 4 (.q 0 (.q 1 (.h 2 (.h 3 .done)))) (by kernel_rfl) (by kernel_rfl) (by rw [HD.out]; exact ⟨⟨D, HSD.out.bx, HSD.out.by_⟩, rfl⟩) ?_
      rw [HD.out]
      repeat (refine wpMix2_q rfl rfl ?_; go_big_quiet_step (fail); refine wpQuiet_nil ?_)
      obtain ⟨z0, zf0, z1, zf1, z2, zf2⟩ := fcl3 HSD.out.bz
      refine wpMix2_h rfl fun R' hR' hO => ?_
      go_wp2
      rw [← HU1.out]
      refine hR' _ _ ⟨⟨U1, D1.out, D2.out⟩, rfl⟩ ?_
      clear hR' hO R' z0 z1 z2 zf0 zf1 zf2
      obtain ⟨z0, zf0, z1, zf1, z2, zf2, z3, zf3, z4, zf4, z5, zf5, z6, zf6⟩ := fcl7 D3.out
      refine wpMix2_h rfl fun R' hR' hO => ?_
      go_wp2
      rw [← HU2.out]
      refine hR' _ _ ⟨⟨U2, D4.out, D5.out⟩, rfl⟩ ?_
      clear hR' hO R' z0 z1 z2 z3 z4 z5 z6 zf0 zf1 zf2 zf3 zf4 zf5 zf6
      refine wpMix2_done ?_
      simp only [List.drop_succ_cons, List.drop_nil]
      go_wp2
      refine bodyPost_ret (SeekStep_result D6.out rfl D7.out rfl) rfl ?_
      rw [HRES.out]
      exact ⟨wa', wc', la', lc', rfl, D8.out, D9.out, KW.out, KL.out⟩
    · have tx : decide (((x : Nat) : Int) < ((key : Nat) : Int)) = false := decide_eq_false (by omega)
      by_cases hy : key < x
      · have ty : decide (((key : Nat) : Int) < ((x : Nat) : Int)) = true := decide_eq_true (by omega)
        obtain ⟨y0, yf0, y1, yf1, y2, yf2, y3, yf3, y4, yf4, y5, yf5, y6, yf6⟩ := fcl7 HS8.out.by_
        obtain ⟨g0, g1⟩ := ncl2 KB.out
        obtain ⟨w9, hw9⟩ : ∃ W, (w8.setCell ⟨Y, 0, none⟩ (.int .i64 4)) = W := ⟨_, rfl⟩
        have HS9 : Hid (Sq 40 #[.int .i64 0, .int .u64 0, .int .u64 0, .int .u64 0, .int .u64 0, .int .u64 0, .bool false] V X Y Z G wa' wc' la' lc' M' #[.int .i64 4, .int .u64 ((hash : Nat) : Int), .int .u64 ((key : Nat) : Int), .int .u64 ((link : Nat) : Int), .int .u64 ((node : Nat) : Int), .int .u64 ((val : Nat) : Int), .bool found] w9) := hid (by rw [← hw9]; exact (HS8.out.setY (i := 0) (v := .int .i64 4) (cs' := #[.int .i64 4, .int .u64 ((hash : Nat) : Int), .int .u64 ((key : Nat) : Int), .int .u64 ((link : Nat) : Int), .int .u64 ((node : Nat) : Int), .int .u64 ((val : Nat) : Int), .bool found]) rfl))
        have HW9 := hid hw9
        clear hw9
        have HRES : Hid (seekE M ⟨2, hash, key, link, node, val, found⟩ = (M', ⟨4, hash, key, link, node, val, found⟩, true)) := hid (HSE.out.trans (by rw [if_pos rfl]; rw [show thenS ⟨2, hash, key, link, node, val, found⟩ x 2 = cmpS ⟨2, hash, key, link, node, val, found⟩ x key 3 from rfl]; unfold cmpS; rw [if_neg hx, if_pos hy]))
        go_upto_region 19 with (fail)
        rw [HW9.out]
        clear y0 yf0 y1 yf1 y2 yf2 y3 yf3 y4 yf4 y5 yf5 y6 yf6 g0 g1
        go_upto_region 19 with (fail)
        obtain ⟨D, hD⟩ : ∃ DX, (w9).drew = DX := ⟨_, rfl⟩
        have HSD := hid (HS9.out.grow (Below.refl _ _).drew)
        rw [hD] at HSD
        have HD := hid hD
        clear hD
        obtain ⟨U1, U2, hU1, hU2, d1, d2, d3, d4, d5, d6, d7, d8, d9⟩ := HSD.out.fin7 (by decide) (by decide)
        have HU1 := hid hU1
        have HU2 := hid hU2
        have D1 := hid d1
        have D2 := hid d2
        have D3 := hid d3
        have D4 := hid d4
        have D5 := hid d5
        have D6 := hid d6
        have D7 := hid d7
        have D8 := hid d8
        have D9 := hid d9
        clear hU1 hU2 d1 d2 d3 d4 d5 d6 d7 d8 d9
        haveI HNE : Nonempty (RYX 40 X Y #[.slice wa' M'.W.length wc', .slice la' M'.L.length lc', .bool M'.F] #[.int .i64 4, .int .u64 ((hash : Nat) : Int), .int .u64 ((key : Nat) : Int), .int .u64 ((link : Nat) : Int), .int .u64 ((node : Nat) : Int), .int .u64 ((val : Nat) : Int), .bool found]) := ⟨⟨D, HSD.out.bx, HSD.out.by_⟩⟩
        have p0 := ryx_x HNE 0 (.slice wa' M'.W.length wc') rfl
        have p1 := ryx_x HNE 1 (.slice la' M'.L.length lc') rfl
        have p2 := ryx_x HNE 2 (.bool M'.F) rfl
        have q0 := ryx_y HNE 0 (.int .i64 4) rfl
        have q1 := ryx_y HNE 1 (.int .u64 ((hash : Nat) : Int)) rfl
        have q2 := ryx_y HNE 2 (.int .u64 ((key : Nat) : Int)) rfl
        have q3 := ryx_y HNE 3 (.int .u64 ((link : Nat) : Int)) rfl
        have q4 := ryx_y HNE 4 (.int .u64 ((node : Nat) : Int)) rfl
        have q5 := ryx_y HNE 5 (.int .u64 ((val : Nat) : Int)) rfl
        have q6 := ryx_y HNE 6 (.bool found) rfl
        refine wp_region_mix2 (fun W => ∃ z : RYX 40 X Y #[.slice wa' M'.W.length wc', .slice la' M'.L.length lc', .bool M'.F] #[.int .i64 4, .int .u64 ((hash : Nat) : Int), .int .u64 ((key : Nat) : Int), .int .u64 ((link : Nat) : Int), .int .u64 ((node : Nat) : Int), .int .u64 ((val : Nat) : Int), .bool found], W = z.w) 4 (.q 0 (.q 1 (.h 2 (.h 3 .done)))) (by kernel_rfl) (by kernel_rfl) (by rw [HD.out]; exact ⟨⟨D, HSD.out.bx, HSD.out.by_⟩, rfl⟩) ?_
        rw [HD.out]
        repeat (refine wpMix2_q rfl rfl ?_; go_big_quiet_step (fail); refine wpQuiet_nil ?_)
        obtain ⟨z0, zf0, z1, zf1, z2, zf2⟩ := fcl3 HSD.out.bz
        refine wpMix2_h rfl fun R' hR' hO => ?_
        go_wp2
        rw [← HU1.out]
        refine hR' _ _ ⟨⟨U1, D1.out, D2.out⟩, rfl⟩ ?_
        clear hR' hO R' z0 z1 z2 zf0 zf1 zf2
        obtain ⟨z0, zf0, z1, zf1, z2, zf2, z3, zf3, z4, zf4, z5, zf5, z6, zf6⟩ := fcl7 D3.out
        refine wpMix2_h rfl fun R' hR' hO => ?_
        go_wp2
        rw [← HU2.out]
        refine hR' _ _ ⟨⟨U2, D4.out, D5.out⟩, rfl⟩ ?_
        clear hR' hO R' z0 z1 z2 z3 z4 z5 z6 zf0 zf1 zf2 zf3 zf4 zf5 zf6
        refine wpMix2_done ?_
        simp only [List.drop_succ_cons, List.drop_nil]
        go_wp2
        refine bodyPost_ret (SeekStep_result D6.out rfl D7.out rfl) rfl ?_
        rw [HRES.out]
        exact ⟨wa', wc', la', lc', rfl, D8.out, D9.out, KW.out, KL.out⟩
      · have ty : decide (((key : Nat) : Int) < ((x : Nat) : Int)) = false := decide_eq_false (by omega)
        obtain ⟨y0, yf0, y1, yf1, y2, yf2, y3, yf3, y4, yf4, y5, yf5, y6, yf6⟩ := fcl7 HS8.out.by_
        obtain ⟨g0, g1⟩ := ncl2 KB.out
        obtain ⟨w9, hw9⟩ : ∃ W, (w8.setCell ⟨Y, 0, none⟩ (.int .i64 3)) = W := ⟨_, rfl⟩
        have HS9 : Hid (Sq 40 #[.int .i64 0, .int .u64 0, .int .u64 0, .int .u64 0, .int .u64 0, .int .u64 0, .bool false] V X Y Z G wa' wc' la' lc' M' #[.int .i64 3, .int .u64 ((hash : Nat) : Int), .int .u64 ((key : Nat) : Int), .int .u64 ((link : Nat) : Int), .int .u64 ((node : Nat) : Int), .int .u64 ((val : Nat) : Int), .bool found] w9) := hid (by rw [← hw9]; exact (HS8.out.setY (i := 0) (v := .int .i64 3) (cs' := #[.int .i64 3, .int .u64 ((hash : Nat) : Int), .int .u64 ((key : Nat) : Int), .int .u64 ((link : Nat) : Int), .int .u64 ((node : Nat) : Int), .int .u64 ((val : Nat) : Int), .bool found]) rfl))
        have HW9 := hid hw9
        clear hw9
        have HRES : Hid (seekE M ⟨2, hash, key, link, node, val, found⟩ = (M', ⟨3, hash, key, link, node, val, found⟩, true)) := hid (HSE.out.trans (by rw [if_pos rfl]; rw [show thenS ⟨2, hash, key, link, node, val, found⟩ x 2 = cmpS ⟨2, hash, key, link, node, val, found⟩ x key 3 from rfl]; unfold cmpS; rw [if_neg hx, if_neg hy]))
        go_upto_region 19 with (fail)
        rw [HW9.out]
        clear y0 yf0 y1 yf1 y2 yf2 y3 yf3 y4 yf4 y5 yf5 y6 yf6 g0 g1
        go_upto_region 19 with (fail)
        obtain ⟨D, hD⟩ : ∃ DX, (w9).drew = DX := ⟨_, rfl⟩
        have HSD := hid (HS9.out.grow (Below.refl _ _).drew)
        rw [hD] at HSD
        have HD := hid hD
        clear hD
        obtain ⟨U1, U2, hU1, hU2, d1, d2, d3, d4, d5, d6, d7, d8, d9⟩ := HSD.out.fin7 (by decide) (by decide)
        have HU1 := hid hU1
        have HU2 := hid hU2
        have D1 := hid d1
        have D2 := hid d2
        have D3 := hid d3
        have D4 := hid d4
        have D5 := hid d5
        have D6 := hid d6
        have D7 := hid d7
        have D8 := hid d8
        have D9 := hid d9
        clear hU1 hU2 d1 d2 d3 d4 d5 d6 d7 d8 d9
        haveI HNE : Nonempty (RYX 40 X Y #[.slice wa' M'.W.length wc', .slice la' M'.L.length lc', .bool M'.F] #[.int .i64 3, .int .u64 ((hash : Nat) : Int), .int .u64 ((key : Nat) : Int), .int .u64 ((link : Nat) : Int), .int .u64 ((node : Nat) : Int), .int .u64 ((val : Nat) : Int), .bool found]) := ⟨⟨D, HSD.out.bx, HSD.out.by_⟩⟩
        have p0 := ryx_x HNE 0 (.slice wa' M'.W.length wc') rfl
        have p1 := ryx_x HNE 1 (.slice la' M'.L.length lc') rfl
        have p2 := ryx_x HNE 2 (.bool M'.F) rfl
        have q0 := ryx_y HNE 0 (.int .i64 3) rfl
        have q1 := ryx_y HNE 1 (.int .u64 ((hash : Nat) : Int)) rfl
        have q2 := ryx_y HNE 2 (.int .u64 ((key : Nat) : Int)) rfl
        have q3 := ryx_y HNE 3 (.int .u64 ((link : Nat) : Int)) rfl
        have q4 := ryx_y HNE 4 (.int .u64 ((node : Nat) : Int)) rfl
        have q5 := ryx_y HNE 5 (.int .u64 ((val : Nat) : Int)) rfl
        have q6 := ryx_y HNE 6 (.bool found) rfl
        refine wp_region_mix2 (fun W => ∃ z : RYX 40 X Y #[.slice wa' M'.W.length wc', .slice la' M'.L.length lc', .bool M'.F] #[.int .i64 3, .int .u64 ((hash : Nat) : Int), .int .u64 ((key : Nat) : Int), .int .u64 ((link : Nat) : Int), .int .u64 ((node : Nat) : Int), .int .u64 ((val : Nat) : Int), .bool found], W = z.w) 4 (.q 0 (.q 1 (.h 2 (.h 3 .done)))) (by kernel_rfl) (by kernel_rfl) (by rw [HD.out]; exact ⟨⟨D, HSD.out.bx, HSD.out.by_⟩, rfl⟩) ?_
        rw [HD.out]
        repeat (refine wpMix2_q rfl rfl ?_; go_big_quiet_step (fail); refine wpQuiet_nil ?_)
        obtain ⟨z0, zf0, z1, zf1, z2, zf2⟩ := fcl3 HSD.out.bz
        refine wpMix2_h rfl fun R' hR' hO => ?_
        go_wp2
        rw [← HU1.out]
        refine hR' _ _ ⟨⟨U1, D1.out, D2.out⟩, rfl⟩ ?_
        clear hR' hO R' z0 z1 z2 zf0 zf1 zf2
        obtain ⟨z0, zf0, z1, zf1, z2, zf2, z3, zf3, z4, zf4, z5, zf5, z6, zf6⟩ := fcl7 D3.out
        refine wpMix2_h rfl fun R' hR' hO => ?_
        go_wp2
        rw [← HU2.out]
        refine hR' _ _ ⟨⟨U2, D4.out, D5.out⟩, rfl⟩ ?_
        clear hR' hO R' z0 z1 z2 z3 z4 z5 z6 zf0 zf1 zf2 zf3 zf4 zf5 zf6
        refine wpMix2_done ?_
        simp only [List.drop_succ_cons, List.drop_nil]
        go_wp2
        refine bodyPost_ret (SeekStep_result D6.out rfl D7.out rfl) rfl ?_
        rw [HRES.out]
        exact ⟨wa', wc', la', lc', rfl, D8.out, D9.out, KW.out, KL.out⟩
set_option maxRecDepth 100000 in
set_option maxHeartbeats 8000000 in
theorem rseek3_any (M : Mem) (s : Sk) (wa la : Option Addr) (wc lc : Nat) (V : World) (h : MemL V wa wc la lc M) (hok : okM M = true) (hs : s.Ok) (hph : s.ph = 3) :
    Calls Try.prog 26 #[memV wa wc la lc M, skV s] V (GivesRQ wa la ((seekE M s).1, (seekE M s).2.1) V) := by
  obtain ⟨ph, hash, key, link, node, val, found⟩ := s
  obtain rfl : ph = 3 := hph
  obtain ⟨V1, hV1, hbV1, hsV1, hlV1⟩ := laid V #[.slice wa M.W.length wc, .slice la M.L.length lc, .bool M.F] 25
  obtain ⟨V2, hV2, hbV2, hsV2, hlV2⟩ := laid V1 #[.int .i64 3, .int .u64 ((hash : Nat) : Int), .int .u64 ((key : Nat) : Int), .int .u64 ((link : Nat) : Int), .int .u64 ((node : Nat) : Int), .int .u64 ((val : Nat) : Int), .bool found] 40
  obtain ⟨V3, hV3, hbV3, hsV3, hlV3⟩ := laid V2 #[.slice none 0 0, .slice none 0 0, .bool false] 25
  obtain ⟨V4, hV4, hbV4, hsV4, hlV4⟩ := laid V3 #[.int .i64 0, .int .u64 0, .int .u64 0, .int .u64 0, .int .u64 0, .int .u64 0, .bool false] 40
  obtain ⟨X, hX⟩ : ∃ X, V.heap.size = X := ⟨_, rfl⟩
  rw [hX] at hlV1
  obtain ⟨Y, hY⟩ : ∃ X, V1.heap.size = X := ⟨_, rfl⟩
  rw [hY] at hlV2
  obtain ⟨Z, hZ⟩ : ∃ X, V2.heap.size = X := ⟨_, rfl⟩
  rw [hZ] at hlV3
  obtain ⟨G, hG⟩ : ∃ X, V3.heap.size = X := ⟨_, rfl⟩
  rw [hG] at hlV4
  have KX := hid (keep_laid (keep_laid (keep_laid hlV1 hbV2) hbV3) hbV4)
  have KY := hid (keep_laid (keep_laid hlV2 hbV3) hbV4)
  have KZ := hid (keep_laid hlV3 hbV4)
  have KG := hid hlV4
  have HB := hid (step (step (step hbV1 hbV2) hbV3) hbV4)
  have hVX : V.heap.size ≤ X := by omega
  have hVY : V.heap.size ≤ Y := by omega
  have nXY : X < Y := by omega
  have hVZ : V.heap.size ≤ Z := by omega
  have nXZ : X < Z := by omega
  have nYZ : Y < Z := by omega
  have hVG : V.heap.size ≤ G := by omega
  have nXG : X < G := by omega
  have nYG : Y < G := by omega
  have nZG : Z < G := by omega
  clear hbV1 hsV1 hlV1 hbV2 hsV2 hlV2 hbV3 hsV3 hlV3 hbV4 hsV4 hlV4
  obtain ⟨aw, al⟩ := h.low hok (X := X) (G := G) (by omega)
  have HS := hid (show Sq 40 #[.int .i64 0, .int .u64 0, .int .u64 0, .int .u64 0, .int .u64 0, .int .u64 0, .bool false] V X Y Z G wa wc la lc M #[.int .i64 3, .int .u64 ((hash : Nat) : Int), .int .u64 ((key : Nat) : Int), .int .u64 ((link : Nat) : Int), .int .u64 ((node : Nat) : Int), .int .u64 ((val : Nat) : Int), .bool found] V4 from ⟨KX.out, KY.out, KZ.out, KG.out, h.grow HB.out, aw, al, HB.out, by omega⟩)
  have hwl := h.w.len
  have hll := h.l.len
  have HSO := hid hs
  have HOK := hid hok
  unfold memV skV
  dsimp only
  have y0 := cell_laid (i := 0) KY.out rfl
  obtain ⟨⟨M', x, d⟩, hX⟩ : ∃ X, stepM M false ((posL node 1 : Nat) : Int) 0 = X := ⟨_, rfl⟩
  have HSE : Hid (seekE M ⟨3, hash, key, link, node, val, found⟩ = (M', (if d = true then thenS ⟨3, hash, key, link, node, val, found⟩ x 3 else ⟨5, hash, key, link, node, val, found⟩), true)) := hid (by
    have e0 : seekE M ⟨3, hash, key, link, node, val, found⟩ = ((stepM M false ((posL node 1 : Nat) : Int) 0).1, (if (stepM M false ((posL node 1 : Nat) : Int) 0).2.2 = true then thenS ⟨3, hash, key, link, node, val, found⟩ (stepM M false ((posL node 1 : Nat) : Int) 0).2.1 3 else ⟨5, hash, key, link, node, val, found⟩), true) := by
      unfold seekE; rw [if_neg (show ¬ ((4 : Int) ≤ 3) by decide)]; rfl
    rw [e0, hX])
  obtain ⟨P0, hP0⟩ : ∃ q, posL link 0 = q := ⟨_, rfl⟩
  have HA0 := hid (fun W => rat_any link 0 W hs.link (by decide))
  rw [hP0] at HA0
  have hp0 : P0 ≤ 5000 := by rw [← hP0]; exact posL_le _ _ (by decide)
  obtain ⟨P1, hP1⟩ : ∃ q, posL node 3 = q := ⟨_, rfl⟩
  have HA1 := hid (fun W => rat_any node 3 W hs.node (by decide))
  rw [hP1] at HA1
  have hp1 : P1 ≤ 5000 := by rw [← hP1]; exact posL_le _ _ (by decide)
  obtain ⟨P2, hP2⟩ : ∃ q, posL node 0 = q := ⟨_, rfl⟩
  have HA2 := hid (fun W => rat_any node 0 W hs.node (by decide))
  rw [hP2] at HA2
  have hp2 : P2 ≤ 5000 := by rw [← hP2]; exact posL_le _ _ (by decide)
  obtain ⟨P3, hP3⟩ : ∃ q, posL node 1 = q := ⟨_, rfl⟩
  have HA3 := hid (fun W => rat_any node 1 W hs.node (by decide))
  rw [hP3] at HA3
  have hp3 : P3 ≤ 5000 := by rw [← hP3]; exact posL_le _ _ (by decide)
  have HST : Hid (∀ W, MemL W wa wc la lc M → Calls Try.prog 56 #[.agg #[.slice wa M.W.length wc, .slice la M.L.length lc, .bool M.F], .agg #[.int .i64 1, .int .i64 ((P3 : Nat) : Int), .int .u64 0, .int .u64 0]] W (GivesR wa la M' x d W)) := hid (fun W hm => by
    have := RefStep_any M wa la wc lc false 1 ((posL node 1 : Nat) : Int) 0 0 W hm hok (by rw [hP3]; omega) rfl
    rw [hX, hP3] at this
    exact this)
  have hix : ∀ W, (Instr.index 117 (.agg #[.int .i64 ((P0 : Nat) : Int), .int .i64 ((P1 : Nat) : Int), .int .i64 ((P2 : Nat) : Int), .int .i64 ((P3 : Nat) : Int)]) (.int .i64 3)).run Try.prog W = .ok (.int .i64 ((P3 : Nat) : Int)) W := fun W => by kernel_rfl
  have hjx : ∀ W, (Instr.index 120 (.agg #[.int .u64 0, .int .u64 ((hash : Nat) : Int), .int .u64 ((key : Nat) : Int), .int .u64 0]) (.int .i64 3)).run Try.prog W = .ok (.int .u64 0) W := fun W => by kernel_rfl
  have HLM : Hid (1 ≤ M'.W.length ∧ 1 ≤ M'.L.length) := hid (by have e1 := stepM_len M false ((posL node 1 : Nat) : Int) 0; have e2 := stepM_L M false ((posL node 1 : Nat) : Int) 0; rw [hX] at e1 e2; dsimp only at e1 e2; obtain ⟨a, b, d, -⟩ := okM_spec hok; rw [e2]; omega)
  clear h hok hs aw al KX KY KZ KG hX hP0 hP1 hP2 hP3
  go_enter Try.func26, Try.ntmps26
  go_upto_region 3 with (fail)
  have HSD := hid (HS.out.grow (Below.refl _ _).drew)
  obtain ⟨D, hD⟩ : ∃ DX, V4.drew = DX := ⟨_, rfl⟩
  rw [hD] at HSD
  have HD := hid hD
  clear hD
  haveI HNE : Nonempty (RYX 40 X Y #[.slice wa M.W.length wc, .slice la M.L.length lc, .bool M.F] #[.int .i64 3, .int .u64 ((hash : Nat) : Int), .int .u64 ((key : Nat) : Int), .int .u64 ((link : Nat) : Int), .int .u64 ((node : Nat) : Int), .int .u64 ((val : Nat) : Int), .bool found]) := ⟨⟨D, HSD.out.bx, HSD.out.by_⟩⟩
  have q0 := ryx_y HNE 0 (.int .i64 3) rfl
  have q1 := ryx_y HNE 1 (.int .u64 ((hash : Nat) : Int)) rfl
  have q2 := ryx_y HNE 2 (.int .u64 ((key : Nat) : Int)) rfl
  have q3 := ryx_y HNE 3 (.int .u64 ((link : Nat) : Int)) rfl
  have q4 := ryx_y HNE 4 (.int .u64 ((node : Nat) : Int)) rfl
  have q5 := ryx_y HNE 5 (.int .u64 ((val : Nat) : Int)) rfl
  have q6 := ryx_y HNE 6 (.bool found) rfl
  refine wp_region_mix2 (fun W => ∃ z : RYX 40 X Y #[.slice wa M.W.length wc, .slice la M.L.length lc, .bool M.F] #[.int .i64 3, .int .u64 ((hash : Nat) : Int), .int .u64 ((key : Nat) : Int), .int .u64 ((link : Nat) : Int), .int .u64 ((node : Nat) : Int), .int .u64 ((val : Nat) : Int), .bool found], W = z.w) 17 (.q 0 (.q 1 (.q 3 (.q 4 (.q 6 (.q 7 (.q 9 (.q 10 (.q 13 (.q 14 (.h 2 (.h 5 (.h 8 (.h 11 (.q 12 (.q 15 (.q 16 .done))))))))))))))))) (by kernel_rfl) (by kernel_rfl) (by rw [HD.out]; exact ⟨⟨D, HSD.out.bx, HSD.out.by_⟩, rfl⟩) ?_
  rw [HD.out]
  repeat (refine wpMix2_q rfl rfl ?_; go_big_quiet_step (fail); refine wpQuiet_nil ?_)
  refine wpMix2_h rfl fun R' hR' hO => ?_
  go_wp2_with fail
  refine (HA0.out D).mono ?_
  rintro e wq ⟨rfl, hwq⟩
  rw [hwq]
  clear hwq wq
  go_wp2
  refine hR' _ _ ⟨⟨D, HSD.out.bx, HSD.out.by_⟩, rfl⟩ ?_
  clear hR' hO R'
  refine wpMix2_h rfl fun R' hR' hO => ?_
  go_wp2_with fail
  refine (HA1.out D).mono ?_
  rintro e wq ⟨rfl, hwq⟩
  rw [hwq]
  clear hwq wq
  go_wp2
  refine hR' _ _ ⟨⟨D, HSD.out.bx, HSD.out.by_⟩, rfl⟩ ?_
  clear hR' hO R'
  refine wpMix2_h rfl fun R' hR' hO => ?_
  go_wp2_with fail
  refine (HA2.out D).mono ?_
  rintro e wq ⟨rfl, hwq⟩
  rw [hwq]
  clear hwq wq
  go_wp2
  refine hR' _ _ ⟨⟨D, HSD.out.bx, HSD.out.by_⟩, rfl⟩ ?_
  clear hR' hO R'
  refine wpMix2_h rfl fun R' hR' hO => ?_
  go_wp2_with fail
  refine (HA3.out D).mono ?_
  rintro e wq ⟨rfl, hwq⟩
  rw [hwq]
  clear hwq wq
  go_wp2
  refine hR' _ _ ⟨⟨D, HSD.out.bx, HSD.out.by_⟩, rfl⟩ ?_
  clear hR' hO R'
  repeat (refine wpMix2_q rfl rfl ?_; go_big_quiet_step (fail); refine wpQuiet_nil ?_)
  refine wpMix2_done ?_
  simp only [List.drop_succ_cons, List.drop_nil]
  clear q0 q1 q2 q3 q4 q5 q6
  obtain ⟨p0, p1, p2⟩ := cells3 HSD.out.bx
  go_wp2_with fail
  refine (HST.out D HSD.out.mem).mono ?_
  rintro e w5 ⟨wa', wc', la', lc', rfl, hm, hb5, kw, kl⟩
  have hG4 : G < D.heap.size := lt_laid HSD.out.bg
  have hVD := HSD.out.below.size
  obtain ⟨w6, hw6, hb6, hs6, hl6⟩ := laid w5 #[.int .u64 0, .bool false] 69
  obtain ⟨B, hB⟩ : ∃ X, w5.heap.size = X := ⟨_, rfl⟩
  rw [hB] at hl6
  have ap : apartA wa' B ∧ apartA la' B := by
    have e1 := hm.w
    have e2 := hm.l
    constructor
    · rintro b off rfl rfl
      obtain ⟨_, _, ⟨q, _⟩ | ⟨b', o', q, q2, _⟩⟩ := e1
      · have := HLM.out; omega
      · cases q; omega
    · rintro b off rfl rfl
      obtain ⟨_, _, ⟨q, _⟩ | ⟨b', o', q, q2, _⟩⟩ := e2
      · have := HLM.out; omega
      · cases q; omega
  obtain ⟨w7, hw7, hS7, hk7⟩ := ((HSD.out.grow hb5).grow hb6).putX (hm.grow hb6) (HSD.out.aw.kept kw hG4) (HSD.out.al.kept kl hG4)
  have hGB : G < B := by have := hb5.size; omega
  have hXB : X < B := by have := HSD.out.ord; omega
  have hl7 := hk7 B _ (by omega) hl6
  obtain ⟨w8, hw8, a1, a2, a3⟩ := put_got hl7 (by decide) (by decide) (.int .u64 ((x : Nat) : Int)) (.bool d)
  have HS8 := hid (hS7.keep hGB ap.1 ap.2 a2 (a3.1 _ _ (by have := hVD; have := hb5.size; omega) hS7.below))
  have KB := hid a1
  have KW := hid (kw.mono hVD)
  have KL := hid (kl.mono hVD)
  have HW7 := hid hw7
  have HW8 := hid hw8
  have hwl' := hm.w.len
  have hll' := hm.l.len
  have hXnB : X ≠ B := by omega
  have hBnX : B ≠ X := by omega
  obtain ⟨x0, x1, x2⟩ := cells3 ((HSD.out.grow hb5).grow hb6).bx
  have xf0 := free_laid (i := 0) ((HSD.out.grow hb5).grow hb6).bx
  have xf1 := free_laid (i := 1) ((HSD.out.grow hb5).grow hb6).bx
  have xf2 := free_laid (i := 2) ((HSD.out.grow hb5).grow hb6).bx
  obtain ⟨g0, gf0, g1, gf1⟩ := fcl2 hl6
  clear hm hb5 kw kl hs6 hb6 hl6 hS7 hk7 hl7 a1 a2 a3 hw7 hw8 ap p0 p1 p2
  unfold memV
  go_upto_region 5 with (fail)
  rw [← HW7.out, ← HW8.out]
  cases d with
  | false =>
    obtain ⟨y0, yf0, y1, yf1, y2, yf2, y3, yf3, y4, yf4, y5, yf5, y6, yf6⟩ := fcl7 HS8.out.by_
    obtain ⟨g0, g1⟩ := ncl2 KB.out
    obtain ⟨w9, hw9⟩ : ∃ W, (w8.setCell ⟨Y, 0, none⟩ (.int .i64 5)) = W := ⟨_, rfl⟩
    have HS9 : Hid (Sq 40 #[.int .i64 0, .int .u64 0, .int .u64 0, .int .u64 0, .int .u64 0, .int .u64 0, .bool false] V X Y Z G wa' wc' la' lc' M' #[.int .i64 5, .int .u64 ((hash : Nat) : Int), .int .u64 ((key : Nat) : Int), .int .u64 ((link : Nat) : Int), .int .u64 ((node : Nat) : Int), .int .u64 ((val : Nat) : Int), .bool found] w9) := hid (by rw [← hw9]; exact (HS8.out.setY (i := 0) (v := .int .i64 5) (cs' := #[.int .i64 5, .int .u64 ((hash : Nat) : Int), .int .u64 ((key : Nat) : Int), .int .u64 ((link : Nat) : Int), .int .u64 ((node : Nat) : Int), .int .u64 ((val : Nat) : Int), .bool found]) rfl))
    have HW9 := hid hw9
    clear hw9
    have HRES : Hid (seekE M ⟨3, hash, key, link, node, val, found⟩ = (M', ⟨5, hash, key, link, node, val, found⟩, true)) := hid (HSE.out.trans (by rw [if_neg (by decide)]))
    go_upto_region 19 with (fail)
    rw [HW9.out]
    clear y0 yf0 y1 yf1 y2 yf2 y3 yf3 y4 yf4 y5 yf5 y6 yf6 g0 g1
    go_upto_region 19 with (fail)
    obtain ⟨D, hD⟩ : ∃ DX, (w9).drew = DX := ⟨_, rfl⟩
    have HSD := hid (HS9.out.grow (Below.refl _ _).drew)
    rw [hD] at HSD
    have HD := hid hD
    clear hD
    obtain ⟨U1, U2, hU1, hU2, d1, d2, d3, d4, d5, d6, d7, d8, d9⟩ := HSD.out.fin7 (by decide) (by decide)
    have HU1 := hid hU1
    have HU2 := hid hU2
    have D1 := hid d1
    have D2 := hid d2
    have D3 := hid d3
    have D4 := hid d4
    have D5 := hid d5
    have D6 := hid d6
    have D7 := hid d7
    have D8 := hid d8
    have D9 := hid d9
    clear hU1 hU2 d1 d2 d3 d4 d5 d6 d7 d8 d9
    haveI HNE : Nonempty (RYX 40 X Y #[.slice wa' M'.W.length wc', .slice la' M'.L.length lc', .bool M'.F] #[.int .i64 5, .int .u64 ((hash : Nat) : Int), .int .u64 ((key : Nat) : Int), .int .u64 ((link : Nat) : Int), .int .u64 ((node : Nat) : Int), .int .u64 ((val : Nat) : Int), .bool found]) := ⟨⟨D, HSD.out.bx, HSD.out.by_⟩⟩
    have p0 := ryx_x HNE 0 (.slice wa' M'.W.length wc') rfl
    have p1 := ryx_x HNE 1 (.slice la' M'.L.length lc') rfl
    have p2 := ryx_x HNE 2 (.bool M'.F) rfl
    have q0 := ryx_y HNE 0 (.int .i64 5) rfl
    have q1 := ryx_y HNE 1 (.int .u64 ((hash : Nat) : Int)) rfl
    have q2 := ryx_y HNE 2 (.int .u64 ((key : Nat) : Int)) rfl
    have q3 := ryx_y HNE 3 (.int .u64 ((link : Nat) : Int)) rfl
    have q4 := ryx_y HNE 4 (.int .u64 ((node : Nat) : Int)) rfl
    have q5 := ryx_y HNE 5 (.int .u64 ((val : Nat) : Int)) rfl
    have q6 := ryx_y HNE 6 (.bool found) rfl
    refine wp_region_mix2 (fun W => ∃ z : RYX 40 X Y #[.slice wa' M'.W.length wc', .slice la' M'.L.length lc', .bool M'.F] #[.int .i64 5, .int .u64 ((hash : Nat) : Int), .int .u64 ((key : Nat) : Int), .int .u64 ((link : Nat) : Int), .int .u64 ((node : Nat) : Int), .int .u64 ((val : Nat) : Int), .bool found], W = z.w) 4 (.q 0 (.q 1 (.h 2 (.h 3 .done)))) (by kernel_rfl) (by kernel_rfl) (by rw [HD.out]; exact ⟨⟨D, HSD.out.bx, HSD.out.by_⟩, rfl⟩) ?_
    rw [HD.out]
    repeat (refine wpMix2_q rfl rfl ?_; go_big_quiet_step (fail); refine wpQuiet_nil ?_)
    obtain ⟨z0, zf0, z1, zf1, z2, zf2⟩ := fcl3 HSD.out.bz
    refine wpMix2_h rfl fun R' hR' hO => ?_
    go_wp2
    rw [← HU1.out]
    refine hR' _ _ ⟨⟨U1, D1.out, D2.out⟩, rfl⟩ ?_
    clear hR' hO R' z0 z1 z2 zf0 zf1 zf2
    obtain ⟨z0, zf0, z1, zf1, z2, zf2, z3, zf3, z4, zf4, z5, zf5, z6, zf6⟩ := fcl7 D3.out
    refine wpMix2_h rfl fun R' hR' hO => ?_
    go_wp2
    rw [← HU2.out]
    refine hR' _ _ ⟨⟨U2, D4.out, D5.out⟩, rfl⟩ ?_
    clear hR' hO R' z0 z1 z2 z3 z4 z5 z6 zf0 zf1 zf2 zf3 zf4 zf5 zf6
    refine wpMix2_done ?_
    simp only [List.drop_succ_cons, List.drop_nil]
    go_wp2
    refine bodyPost_ret (SeekStep_result D6.out rfl D7.out rfl) rfl ?_
    rw [HRES.out]
    exact ⟨wa', wc', la', lc', rfl, D8.out, D9.out, KW.out, KL.out⟩
  | true =>
    obtain ⟨y0, yf0, y1, yf1, y2, yf2, y3, yf3, y4, yf4, y5, yf5, y6, yf6⟩ := fcl7 HS8.out.by_
    obtain ⟨g0, g1⟩ := ncl2 KB.out
    obtain ⟨w9, hw9⟩ : ∃ W, (((w8.setCell ⟨Y, 5, none⟩ (.int .u64 ((x : Nat) : Int))).setCell ⟨Y, 6, none⟩ (.bool true)).setCell ⟨Y, 0, none⟩ (.int .i64 4)) = W := ⟨_, rfl⟩
    have HS9 : Hid (Sq 40 #[.int .i64 0, .int .u64 0, .int .u64 0, .int .u64 0, .int .u64 0, .int .u64 0, .bool false] V X Y Z G wa' wc' la' lc' M' #[.int .i64 4, .int .u64 ((hash : Nat) : Int), .int .u64 ((key : Nat) : Int), .int .u64 ((link : Nat) : Int), .int .u64 ((node : Nat) : Int), .int .u64 ((x : Nat) : Int), .bool true] w9) := hid (by rw [← hw9]; exact (((HS8.out.setY (i := 5) (v := .int .u64 ((x : Nat) : Int)) (cs' := #[.int .i64 3, .int .u64 ((hash : Nat) : Int), .int .u64 ((key : Nat) : Int), .int .u64 ((link : Nat) : Int), .int .u64 ((node : Nat) : Int), .int .u64 ((x : Nat) : Int), .bool found]) rfl).setY (i := 6) (v := .bool true) (cs' := #[.int .i64 3, .int .u64 ((hash : Nat) : Int), .int .u64 ((key : Nat) : Int), .int .u64 ((link : Nat) : Int), .int .u64 ((node : Nat) : Int), .int .u64 ((x : Nat) : Int), .bool true]) rfl).setY (i := 0) (v := .int .i64 4) (cs' := #[.int .i64 4, .int .u64 ((hash : Nat) : Int), .int .u64 ((key : Nat) : Int), .int .u64 ((link : Nat) : Int), .int .u64 ((node : Nat) : Int), .int .u64 ((x : Nat) : Int), .bool true]) rfl))
    have HW9 := hid hw9
    clear hw9
    have HRES : Hid (seekE M ⟨3, hash, key, link, node, val, found⟩ = (M', ⟨4, hash, key, link, node, x, true⟩, true)) := hid (HSE.out.trans (by rw [if_pos rfl]; rfl))
    go_upto_region 19 with (fail)
    rw [HW9.out]
    clear y0 yf0 y1 yf1 y2 yf2 y3 yf3 y4 yf4 y5 yf5 y6 yf6 g0 g1
    go_upto_region 19 with (fail)
    obtain ⟨D, hD⟩ : ∃ DX, (w9).drew = DX := ⟨_, rfl⟩
    have HSD := hid (HS9.out.grow (Below.refl _ _).drew)
    rw [hD] at HSD
    have HD := hid hD
    clear hD
    obtain ⟨U1, U2, hU1, hU2, d1, d2, d3, d4, d5, d6, d7, d8, d9⟩ := HSD.out.fin7 (by decide) (by decide)
    have HU1 := hid hU1
    have HU2 := hid hU2
    have D1 := hid d1
    have D2 := hid d2
    have D3 := hid d3
    have D4 := hid d4
    have D5 := hid d5
    have D6 := hid d6
    have D7 := hid d7
    have D8 := hid d8
    have D9 := hid d9
    clear hU1 hU2 d1 d2 d3 d4 d5 d6 d7 d8 d9
    haveI HNE : Nonempty (RYX 40 X Y #[.slice wa' M'.W.length wc', .slice la' M'.L.length lc', .bool M'.F] #[.int .i64 4, .int .u64 ((hash : Nat) : Int), .int .u64 ((key : Nat) : Int), .int .u64 ((link : Nat) : Int), .int .u64 ((node : Nat) : Int), .int .u64 ((x : Nat) : Int), .bool true]) := ⟨⟨D, HSD.out.bx, HSD.out.by_⟩⟩
    have p0 := ryx_x HNE 0 (.slice wa' M'.W.length wc') rfl
    have p1 := ryx_x HNE 1 (.slice la' M'.L.length lc') rfl
    have p2 := ryx_x HNE 2 (.bool M'.F) rfl
    have q0 := ryx_y HNE 0 (.int .i64 4) rfl
    have q1 := ryx_y HNE 1 (.int .u64 ((hash : Nat) : Int)) rfl
    have q2 := ryx_y HNE 2 (.int .u64 ((key : Nat) : Int)) rfl
    have q3 := ryx_y HNE 3 (.int .u64 ((link : Nat) : Int)) rfl
    have q4 := ryx_y HNE 4 (.int .u64 ((node : Nat) : Int)) rfl
    have q5 := ryx_y HNE 5 (.int .u64 ((x : Nat) : Int)) rfl
    have q6 := ryx_y HNE 6 (.bool true) rfl
    refine wp_region_mix2 (fun W => ∃ z : RYX 40 X Y #[.slice wa' M'.W.length wc', .slice la' M'.L.length lc', .bool M'.F] #[.int .i64 4, .int .u64 ((hash : Nat) : Int), .int .u64 ((key : Nat) : Int), .int .u64 ((link : Nat) : Int), .int .u64 ((node : Nat) : Int), .int .u64 ((x : Nat) : Int), .bool true], W = z.w) 4 (.q 0 (.q 1 (.h 2 (.h 3 .done)))) (by kernel_rfl) (by kernel_rfl) (by rw [HD.out]; exact ⟨⟨D, HSD.out.bx, HSD.out.by_⟩, rfl⟩) ?_
    rw [HD.out]
    repeat (refine wpMix2_q rfl rfl ?_; go_big_quiet_step (fail); refine wpQuiet_nil ?_)
    obtain ⟨z0, zf0, z1, zf1, z2, zf2⟩ := fcl3 HSD.out.bz
    refine wpMix2_h rfl fun R' hR' hO => ?_
    go_wp2
    rw [← HU1.out]
    refine hR' _ _ ⟨⟨U1, D1.out, D2.out⟩, rfl⟩ ?_
    clear hR' hO R' z0 z1 z2 zf0 zf1 zf2
    obtain ⟨z0, zf0, z1, zf1, z2, zf2, z3, zf3, z4, zf4, z5, zf5, z6, zf6⟩ := fcl7 D3.out
    refine wpMix2_h rfl fun R' hR' hO => ?_
    go_wp2
    rw [← HU2.out]
    refine hR' _ _ ⟨⟨U2, D4.out, D5.out⟩, rfl⟩ ?_
    clear hR' hO R' z0 z1 z2 z3 z4 z5 z6 zf0 zf1 zf2 zf3 zf4 zf5 zf6
    refine wpMix2_done ?_
    simp only [List.drop_succ_cons, List.drop_nil]
    go_wp2
    refine bodyPost_ret (SeekStep_result D6.out rfl D7.out rfl) rfl ?_
    rw [HRES.out]
    exact ⟨wa', wc', la', lc', rfl, D8.out, D9.out, KW.out, KL.out⟩
set_option maxRecDepth 100000 in
set_option maxHeartbeats 8000000 in
theorem rseek4_any (M : Mem) (s : Sk) (wa la : Option Addr) (wc lc : Nat) (V : World) (h : MemL V wa wc la lc M) (hok : okM M = true) (hs : s.Ok) (hph : 4 ≤ s.ph) :
    Calls Try.prog 26 #[memV wa wc la lc M, skV s] V (GivesRQ wa la ((seekE M s).1, (seekE M s).2.1) V) := by
  obtain ⟨ph, hash, key, link, node, val, found⟩ := s
  obtain ⟨V1, hV1, hbV1, hsV1, hlV1⟩ := laid V #[.slice wa M.W.length wc, .slice la M.L.length lc, .bool M.F] 25
  obtain ⟨V2, hV2, hbV2, hsV2, hlV2⟩ := laid V1 #[.int .i64 ph, .int .u64 ((hash : Nat) : Int), .int .u64 ((key : Nat) : Int), .int .u64 ((link : Nat) : Int), .int .u64 ((node : Nat) : Int), .int .u64 ((val : Nat) : Int), .bool found] 40
  obtain ⟨V3, hV3, hbV3, hsV3, hlV3⟩ := laid V2 #[.slice none 0 0, .slice none 0 0, .bool false] 25
  obtain ⟨V4, hV4, hbV4, hsV4, hlV4⟩ := laid V3 #[.int .i64 0, .int .u64 0, .int .u64 0, .int .u64 0, .int .u64 0, .int .u64 0, .bool false] 40
  obtain ⟨X, hX⟩ : ∃ X, V.heap.size = X := ⟨_, rfl⟩
  rw [hX] at hlV1
  obtain ⟨Y, hY⟩ : ∃ X, V1.heap.size = X := ⟨_, rfl⟩
  rw [hY] at hlV2
  obtain ⟨Z, hZ⟩ : ∃ X, V2.heap.size = X := ⟨_, rfl⟩
  rw [hZ] at hlV3
  obtain ⟨G, hG⟩ : ∃ X, V3.heap.size = X := ⟨_, rfl⟩
  rw [hG] at hlV4
  have KX := hid (keep_laid (keep_laid (keep_laid hlV1 hbV2) hbV3) hbV4)
  have KY := hid (keep_laid (keep_laid hlV2 hbV3) hbV4)
  have KZ := hid (keep_laid hlV3 hbV4)
  have KG := hid hlV4
  have HB := hid (step (step (step hbV1 hbV2) hbV3) hbV4)
  have hVX : V.heap.size ≤ X := by omega
  have hVY : V.heap.size ≤ Y := by omega
  have nXY : X < Y := by omega
  have hVZ : V.heap.size ≤ Z := by omega
  have nXZ : X < Z := by omega
  have nYZ : Y < Z := by omega
  have hVG : V.heap.size ≤ G := by omega
  have nXG : X < G := by omega
  have nYG : Y < G := by omega
  have nZG : Z < G := by omega
  clear hbV1 hsV1 hlV1 hbV2 hsV2 hlV2 hbV3 hsV3 hlV3 hbV4 hsV4 hlV4
  obtain ⟨aw, al⟩ := h.low hok (X := X) (G := G) (by omega)
  have HS := hid (show Sq 40 #[.int .i64 0, .int .u64 0, .int .u64 0, .int .u64 0, .int .u64 0, .int .u64 0, .bool false] V X Y Z G wa wc la lc M #[.int .i64 ph, .int .u64 ((hash : Nat) : Int), .int .u64 ((key : Nat) : Int), .int .u64 ((link : Nat) : Int), .int .u64 ((node : Nat) : Int), .int .u64 ((val : Nat) : Int), .bool found] V4 from ⟨KX.out, KY.out, KZ.out, KG.out, h.grow HB.out, aw, al, HB.out, by omega⟩)
  have hwl := h.w.len
  have hll := h.l.len
  have HSO := hid hs
  have HOK := hid hok
  unfold memV skV
  dsimp only
  have y0 := cell_laid (i := 0) KY.out rfl
  have t0 : decide ((3 : Int) < ph) = true := decide_eq_true (by have : (4 : Int) ≤ ph := hph; omega)
  have HE : Hid (seekE M ⟨ph, hash, key, link, node, val, found⟩ = (M, ⟨ph, hash, key, link, node, val, found⟩, false)) := hid (by unfold seekE; rw [if_pos hph])
  clear h hok hs aw al KX KY KZ KG hph
  go_enter Try.func26, Try.ntmps26
  go_upto_region 2 with (fail)
  obtain ⟨D, hD⟩ : ∃ DX, (V4).drew = DX := ⟨_, rfl⟩
  have HSD := hid (HS.out.grow (Below.refl _ _).drew)
  rw [hD] at HSD
  have HD := hid hD
  clear hD
  obtain ⟨U1, U2, hU1, hU2, d1, d2, d3, d4, d5, d6, d7, d8, d9⟩ := HSD.out.fin7 (by decide) (by decide)
  have HU1 := hid hU1
  have HU2 := hid hU2
  have D1 := hid d1
  have D2 := hid d2
  have D3 := hid d3
  have D4 := hid d4
  have D5 := hid d5
  have D6 := hid d6
  have D7 := hid d7
  have D8 := hid d8
  have D9 := hid d9
  clear hU1 hU2 d1 d2 d3 d4 d5 d6 d7 d8 d9
  haveI HNE : Nonempty (RYX 40 X Y #[.slice wa M.W.length wc, .slice la M.L.length lc, .bool M.F] #[.int .i64 ph, .int .u64 ((hash : Nat) : Int), .int .u64 ((key : Nat) : Int), .int .u64 ((link : Nat) : Int), .int .u64 ((node : Nat) : Int), .int .u64 ((val : Nat) : Int), .bool found]) := ⟨⟨D, HSD.out.bx, HSD.out.by_⟩⟩
  have p0 := ryx_x HNE 0 (.slice wa M.W.length wc) rfl
  have p1 := ryx_x HNE 1 (.slice la M.L.length lc) rfl
  have p2 := ryx_x HNE 2 (.bool M.F) rfl
  have q0 := ryx_y HNE 0 (.int .i64 ph) rfl
  have q1 := ryx_y HNE 1 (.int .u64 ((hash : Nat) : Int)) rfl
  have q2 := ryx_y HNE 2 (.int .u64 ((key : Nat) : Int)) rfl
  have q3 := ryx_y HNE 3 (.int .u64 ((link : Nat) : Int)) rfl
  have q4 := ryx_y HNE 4 (.int .u64 ((node : Nat) : Int)) rfl
  have q5 := ryx_y HNE 5 (.int .u64 ((val : Nat) : Int)) rfl
  have q6 := ryx_y HNE 6 (.bool found) rfl
  refine wp_region_mix2 (fun W => ∃ z : RYX 40 X Y #[.slice wa M.W.length wc, .slice la M.L.length lc, .bool M.F] #[.int .i64 ph, .int .u64 ((hash : Nat) : Int), .int .u64 ((key : Nat) : Int), .int .u64 ((link : Nat) : Int), .int .u64 ((node : Nat) : Int), .int .u64 ((val : Nat) : Int), .bool found], W = z.w) 4 (.q 0 (.q 1 (.h 2 (.h 3 .done)))) (by kernel_rfl) (by kernel_rfl) (by rw [HD.out]; exact ⟨⟨D, HSD.out.bx, HSD.out.by_⟩, rfl⟩) ?_
  rw [HD.out]
  repeat (refine wpMix2_q rfl rfl ?_; go_big_quiet_step (fail); refine wpQuiet_nil ?_)
  obtain ⟨z0, zf0, z1, zf1, z2, zf2⟩ := fcl3 HSD.out.bz
  refine wpMix2_h rfl fun R' hR' hO => ?_
  go_wp2
  rw [← HU1.out]
  refine hR' _ _ ⟨⟨U1, D1.out, D2.out⟩, rfl⟩ ?_
  clear hR' hO R' z0 z1 z2 zf0 zf1 zf2
  obtain ⟨z0, zf0, z1, zf1, z2, zf2, z3, zf3, z4, zf4, z5, zf5, z6, zf6⟩ := fcl7 D3.out
  refine wpMix2_h rfl fun R' hR' hO => ?_
  go_wp2
  rw [← HU2.out]
  refine hR' _ _ ⟨⟨U2, D4.out, D5.out⟩, rfl⟩ ?_
  clear hR' hO R' z0 z1 z2 z3 z4 z5 z6 zf0 zf1 zf2 zf3 zf4 zf5 zf6
  refine wpMix2_done ?_
  simp only [List.drop_succ_cons, List.drop_nil]
  go_wp2
  refine bodyPost_ret (SeekStep_result D6.out rfl D7.out rfl) rfl ?_
  rw [HE.out]
  exact ⟨wa, wc, la, lc, rfl, D8.out, D9.out, keptA.refl _ _, keptA.refl _ _⟩
theorem rSeekStep_any (M : Mem) (s : Sk) (wa la : Option Addr) (wc lc : Nat) (V : World) (h : MemL V wa wc la lc M) (hok : okM M = true) (hs : s.Ok) (h0 : 0 ≤ s.ph) :
    Calls Try.prog 26 #[memV wa wc la lc M, skV s] V (GivesRQ wa la ((seekE M s).1, (seekE M s).2.1) V) := by
  rcases (show s.ph = 0 ∨ s.ph = 1 ∨ s.ph = 2 ∨ s.ph = 3 ∨ 4 ≤ s.ph by omega) with e | e | e | e | e
  · exact rseek0_any M s wa la wc lc V h hok hs e
  · exact rseek1_any M s wa la wc lc V h hok hs e
  · exact rseek2_any M s wa la wc lc V h hok hs e
  · exact rseek3_any M s wa la wc lc V h hok hs e
  · exact rseek4_any M s wa la wc lc V h hok hs e
end Go.Proofs.Ytdkkjcflcegeoaa
