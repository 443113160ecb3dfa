/- Layer 17, several texts in one. -/
import Derived.Test.YtipohagcppfgiaaGreatWkC
import Derived.Test.YtipohagcppfgiaaGreatLsZ
import Derived.Maps.AppendAt
import Derived.Shelf.Slices.Empties2
import Derived.Test.YtipohagcppfgiaaGreatWkR
import Derived.Test.YtipohagcppfgiaaGreatLsRef3
import Derived.Test.YtipohagcppfgiaaGreatWkR2
import Derived.Test.YtipohagcppfgiaaGreatWkQ
namespace Go.Proofs.YtipohagcppfgiaaGreat
open Go.RowKit
open Go.Proofs
set_option linter.unusedVariables false
theorem CloneI_any (a : Option Addr) (n cap : Nat) (cs : List Value) (w : World) (h : Leads w a n cap cs) (hl : cs.length = n * 1) (hn : n ≤ 10000) (h1 : ∀ u ∈ cs, u.oneCell' = true) :
  Calls Tryz.prog 16 #[.slice a n cap] w (Fresh 3 1 n cs w) := by
 have q : ∀ (w : World) (a : Option Addr) (n c n' c' : Nat), (binOp .eql 31 (.slice a n c) (.slice none n' c')).run Tryz.prog w = .ok (.bool a.isNone) w := fun w a n c n' c' => Lib.run_eql_slice_nil w _ _ a n c n' c' Tryz.underlying31
 cases a with
 | none =>
  obtain ⟨_, _, ⟨rfl, rfl⟩ | ⟨b, off, h, _⟩⟩ := h
  ·clear h1 hl
   go_enter Tryz.func16, Tryz.ntmps16
   go_wp2
   go_ret
   exact ⟨_, rfl, World.ownsRow_nil _ _ _ _, Below.refl _ _⟩
  ·cases h
 | some ad =>
  have hc : ∀ j u, cs[j]? = some u → w.cell? (ad.add j) = some u := by
   obtain ⟨_, _, ⟨_, rfl⟩ | ⟨b, off, h, _, h5⟩⟩ := h
   ·intro j u hj; cases hj
   ·cases h
    intro j u hj
    have := h5 j u hj
    rcases j with _ | j
    ·simpa [Addr.add] using this
    ·simpa [Addr.add] using this
  have HC := hid hc
  have HL := hid hl
  have H1 := hid h1
  clear hc hl h1 h
  go_enter Tryz.func16, Tryz.ntmps16
  go_wp2_with (at_builtin; refine waM elemInts rfl _ _ rfl w.heap.size _ _ _ rfl (World.ownsRow_made w #[] 0 (Nat.le_refl _) (Nat.zero_le _) (by simp)) ad n cap cs rfl ?qc1 ?qc2 ?qc3 ?qc4 ?qc5 ?_)
  case qc1 => exact HL.out
  case qc2 =>
   intro j u hj
   exact Lib.cell?_alloc_some _ (HC.out j u hj)
  case qc3 => exact H1.out
  case qc4 => omega
  case qc5 => simp
  intro v' w1 hown hgrow hmv
  have hb : Below w.heap.size w w1 := ((Below.refl _ w).alloc (Nat.le_refl _) _).trans (own_below (size := 1) (World.ownsRow_made w #[] 0 (Nat.le_refl _) (Nat.zero_le _) (by simp)) hgrow (by simp))
  go_wp2
  go_ret
  exact ⟨v', rfl, by simpa using hown, hb⟩
end Go.Proofs.YtipohagcppfgiaaGreat
namespace Go.Proofs.YtipohagcppfgiaaGreat
open Go.RowKit
open Go.Proofs
set_option linter.unusedVariables false
attribute [local go_sem] Oper.semAt_some
theorem kept_apartS {a a' : Option Addr} {V W : World} {B E : Nat} (hl : lowA a V.heap.size) (hk : keptA W a a') (h0 : V.heap.size ≤ W.heap.size) (hb : B ≤ B) (h1 : V.heap.size ≤ E) (h2 : E < W.heap.size) : apartA a' E := fun b off e => by
 rcases hk with rfl | hk
 ·have := hl b off e; omega
 ·have := hk b off e; omega
/-- As GivesD; and where the rows lie. -/
def GivesDs (wa0 la0 ra0 : Option Addr) (g : Gst) (V : World) (e : Ending) (W : World) : Prop := ∃ wa wc la lc ra rc, e = .returned (wdV wa wc la lc ra rc g) ∧ WdL W wa wc la lc ra rc g ∧ Below V.heap.size V W ∧ keptA V wa0 wa ∧ keptA V la0 la ∧ keptA V ra0 ra
theorem MemL.keepS {W W' : World} {wa la : Option Addr} {wc lc E : Nat} {M : Mem} (h : MemL W wa wc la lc M) (aw : apartA wa E) (al : apartA la E) (hk : ∀ (k : Nat) (o : Obj), k ≠ E → W.heap[k]? = some o → W'.heap[k]? = some o) : MemL W' wa wc la lc M := ⟨h.w.keepNe aw hk, h.l.keepNe al hk⟩
structure RSt (base Y : Nat) (cs : Array Value) (sb rn sc : Nat) (R : List Sk) where
 w : World
 by_ : w.heap[Y]? = some (.cells cs 49 (0, 0))
 rds : w.ownsRow base 46 7 (.slice (some ⟨sb, 0, none⟩) rn sc) rn (skcells R)
theorem Step_result {W : World} {b : Nat} {vs : Array Value} {tmps : Array Value} (h : W.heap[b]? = some (.cells vs 49 (0, 0))) (hs : vs.size = 21) (q4 : tmps[6]?.getD undef = .pointer (some ⟨b, 0, none⟩)) :
  (results Tryz.f13 tmps).run Tryz.prog W = .ok (.agg vs) W := by
 have hl := run_loadVar_row (P := Tryz.prog) W b 49 49 vs (0, 0) _ h Tryz.underlying49 rfl (by rw [hs]; kernel_rfl)
 have ha : (asAddr (.pointer (some ⟨b, 0, none⟩))).run Tryz.prog W = .ok ⟨b, 0, none⟩ W := rfl
 simp [results, Tryz.results13, q4, ha, hl]
set_option maxRecDepth 100000 in
set_option maxHeartbeats 16000000 in
theorem StepR_any (w : Wal) (g : Gst) (i : Nat) (t : Sk) (wa la ja ka wa1 la1 ra1 : Option Addr) (wc lc jc kc nj nk wc1 lc1 rc1 : Nat) (V : World) (hg : WdL V wa1 wc1 la1 lc1 ra1 rc1 g) (hok : okM g.M = true) (hi : g.R[i]? = some t) (ht : t.Ok) (h0 : 0 ≤ t.ph) (hr : g.R.length ≤ 1000) :
  Calls Tryz.prog 13 #[walV wa wc la lc ja nj jc ka nk kc w, wdV wa1 wc1 la1 lc1 ra1 rc1 g, .int .i64 (((i + 1 : Nat)) : Int)] V (GivesDs wa1 la1 ra1 { g with M := (seekE g.M t).1, R := g.R.set i (seekE g.M t).2.1 } V) := by
 obtain ⟨M1, d, eb, e, s, R⟩ := g
 dsimp only at hok hi hr ⊢
 obtain ⟨rn, hrn⟩ := nm (R.length)
 have hin : i < rn := by have := (List.getElem?_eq_some_iff.1 hi).1; omega
 have HRN := hid hrn
 have HMV := hid hg.mem
 have HOK := hid hok
 have HI := hid hi
 have hlw := (hg.mem.lowA hok).1
 have hll := (hg.mem.lowA hok).2
 have hrd := hg.rds
 dsimp only at hrd
 rw [hrn] at hrd hr
 obtain ⟨rb, ro, rfl, hcc⟩ : ∃ b o, ra1 = some ⟨b, o, none⟩ ∧ ∀ j v, (skcells R)[j]? = some v → ∀ W, Below V.heap.size V W → W.cell? ⟨b, o + j, none⟩ = some v := by
  obtain ⟨_, _, ⟨q, _⟩ | ⟨b, off, e, h3, h4⟩⟩ := hrd
  ·omega
  ·exact ⟨b, off, e, fun i v hv W hW => (hW.cell (p := ⟨b, off + i, none⟩) h3).trans (h4 i v hv)⟩
 have HCC := hid hcc
 have hrl := hrd.len
 unfold walV wdV
 dsimp only
 rw [hrn]
 obtain ⟨V1, hV1, hb1, hs1, hl1⟩ := laid V (wal8 wa w.M.W.length wc la w.M.L.length lc w.M.F w.head ja nj jc ka nk kc) 30
 obtain ⟨X, hX⟩ := nm (V.heap.size)
 rw [hX] at hl1
 obtain ⟨V2, hV2, hb2, hs2, hl2⟩ := laid V1 (w21 wa1 M1.W.length wc1 la1 M1.L.length lc1 M1.F d eb e s (some ⟨rb, ro, none⟩) rn rc1) 49
 obtain ⟨Y, hY⟩ := nm (V1.heap.size)
 rw [hY] at hl2
 obtain ⟨V3, hV3, hb3, hs3, hl3⟩ := laid V2 (w21 none 0 0 none 0 0 false 0 false zeroEd zeroSk none 0 0) 49
 obtain ⟨T, hT⟩ := nm (V2.heap.size)
 rw [hT] at hl3
 have hV3' : V2.alloc (.cells #[.slice none 0 0, .slice none 0 0, .bool false, .int .i64 0, .bool false, .int .i64 0, .bool false, .int .u64 0, .int .u64 0, .int .u64 0, .int .u64 0, .int .u64 0, .int .u64 0, .int .i64 0, .int .u64 0, .int .u64 0, .int .u64 0, .int .u64 0, .int .u64 0, .bool false, .slice none 0 0] 49) = V3 := hV3
 obtain ⟨V4, hV4, hb4, hs4, hl4⟩ := laid V3 #[] 46
 obtain ⟨B, hB⟩ := nm (V3.heap.size)
 rw [hB] at hl4
 have hYT : Y < T := by omega
 have hVY : V.heap.size ≤ Y := by omega
 have hVT : V.heap.size ≤ T := by omega
 have KY4 := hid (klD (klD hl2 hb3) hb4)
 have KT4 := hid (klD hl3 hb4)
 have HB4 := hid (step (step (step hb1 hb2) hb3) hb4)
 have OW4 : Hid (V4.ownsRow V.heap.size 46 7 (.slice (some ⟨B, 0, none⟩) 0 0) 0 []) := hid (own_lit hl4 (by omega) (by decide) rfl rfl)
 have y20 := clD (i := 20) (klD hl2 hb3) rfl
 have y20' := clD (i := 20) KY4.out rfl
 have t0 : ((((i + 1 : Nat)) : Int) == 0) = false := by simp; omega
 have t1 : decide (((((i + 1 : Nat)) : Int)) ≥ 1) = true := decide_eq_true (by omega)
 have t1' : decide ((1 : Int) ≤ (((i + 1 : Nat)) : Int)) = true := decide_eq_true (by omega)
 have t2 : decide ((((i + 1 : Nat)) : Int) ≤ ((rn : Nat) : Int)) = true := decide_eq_true (by omega)
 clear hb1 hs1 hl1 hb2 hs2 hl2 hb3 hs3 hl3 hb4 hs4 hl4 hV3 hg hok hi hrn hrd hcc
 go_enter Tryz.func13, Tryz.ntmps13
 go_upto_region 4 with (fail)
 clear hV1 hV2 hV3' hX hY hT t0 t1 t1' t2
 go_wp2_with ((with_reducible show wpList _ _ _ _ _ _); refine waM elemSk rfl (.tmp 29) (.tmp 31) rfl V.heap.size (.slice (some ⟨B, 0, none⟩) 0 0) 0 [] rfl OW4.out ⟨rb, ro, none⟩ rn rc1 (skcells R) rfl ?c1 ?c2 ?c3 ?c4 ?c5 ?c6)
 case c1 => rw [skcells_len, HRN.out]; omega
 case c2 => intro j u hj; first | exact cell_add (HCC.out j u hj V4 HB4.out) | exact HCC.out j u hj V4 HB4.out
 case c3 =>
  intro u hu
  obtain ⟨x, -, hx⟩ := List.mem_flatMap.1 hu
  simp only [sk7l, List.mem_cons, List.mem_nil_iff, or_false] at hx
  rcases hx with rfl | rfl | rfl | rfl | rfl | rfl | rfl <;> rfl
 case c4 => omega
 case c5 => have := HB4.out.size; omega
 case c6 =>
  intro v' w5 hown hgr hmv
  try rw [Nat.zero_add] at hown
  try rw [List.nil_append] at hown
  obtain ⟨sb, sc, rfl⟩ : ∃ sb sc, v' = .slice (some ⟨sb, 0, none⟩) rn sc := by
   obtain ⟨hl, ⟨q0, q1⟩ | ⟨g, cap', cur', hv', -⟩⟩ := hown
   ·omega
   ·exact ⟨g, cap', hv'⟩
  have KYa := hid (kgr KY4.out hgr (fun e => own_neT OW4.out KY4.out (by decide) Y e rfl))
  have KTa := hid (kgr KT4.out hgr (fun e => own_neT OW4.out KT4.out (by decide) T e rfl))
  have HBa := hid (HB4.out.trans (own_below OW4.out hgr HB4.out.size))
  have Ra := hid hown
  clear hown hgr hmv KY4 KT4 HB4 OW4 HCC y20 y20'
  go_upto_region 5 with (refine wsP rfl 47 (.tmp 33) (.tmp 32) rfl Y 20 _ (w21 wa1 M1.W.length wc1 la1 M1.L.length lc1 M1.F d eb e s (some ⟨sb, 0, none⟩) rn sc) _ rfl rfl _ KYa.out (by kernel_rfl) (Nat.le_of_ble_eq_true rfl) (by kernel_rfl) rfl ?_; intro ub a1 a2 a3 a4; have KYb := hid a1; have KTb := hid (a2 T _ (by omega) KTa.out); have Rb := hid (okp Ra.out fun k o hk ho => a2 k o (own_neT Ra.out KYa.out (by decide) k hk) ho); have HBb := hid (a3 _ _ hVY HBa.out); clear a1 a2 a3 a4 KYa KTa HBa; (try simp only [Act.put]))
  clear hV4 hB
  obtain ⟨D, hD⟩ := nm (World.drew ub)
  have hbD : Below ub.heap.size ub D := by rw [← hD]; exact (Below.refl _ _).drew
  have HD := hid hD
  have KY5 := hid (klD KYb.out hbD)
  have KT5 := hid (klD KTb.out hbD)
  have R5 := hid (ogr Rb.out hbD)
  have HB5 := hid (HBb.out.trans (hbD.mono HBb.out.size))
  have HM5 := hid (HMV.out.grow HB5.out)
  have hVS : V.heap.size ≤ sb := own_base_le R5.out
  have HSB : Hid (sb < D.heap.size) := hid (by obtain ⟨c, hc⟩ := own_type R5.out sb rfl; exact (Array.getElem?_eq_some_iff.1 hc).1)
  have HCL := hid (rSeekStep_any M1 t wa1 la1 wc1 lc1 D HM5.out HOK.out ht h0)
  unfold GivesRQ memV skV at HCL
  dsimp only at HCL
  obtain ⟨M2, hM2⟩ := nm ((seekE M1 t).1)
  obtain ⟨t', ht'⟩ := nm ((seekE M1 t).2.1)
  rw [hM2, ht'] at HCL
  have HM2E := hid hM2
  have HTE := hid ht'
  have HRA : Hid (∀ z : RSt V.heap.size Y (w21 wa1 M1.W.length wc1 la1 M1.L.length lc1 M1.F d eb e s (some ⟨sb, 0, none⟩) rn sc) sb rn sc R, z.w.rangeAt sb (i * 7) [.int .i64 t.ph, .int .u64 t.hash, .int .u64 t.key, .int .u64 t.link, .int .u64 t.node, .int .u64 t.val, .bool t.found]) := hid (fun z j v hv => by
   have hj7 : j < 7 := (List.getElem?_eq_some_iff.1 hv).1
   obtain ⟨_, _, ⟨q, _⟩ | ⟨b, off, e', h3, h4⟩⟩ := Leads.of_own1 z.rds
   ·omega
   ·cases e'
    have := h4 (i * 7 + j) v (by rw [skcell_at HI.out j hj7]; exact hv)
    rw [Nat.zero_add] at this
    exact this)
  have hni : IntKind.i64.wrap ((((i + 1 : Nat)) : Int) - 1) = ((i : Nat) : Int) := by rw [IntKind.wrap_i64] <;> omega
  clear hM2 ht' hbD hD KYb KTb Rb HBb Ra
  haveI : Nonempty (RSt V.heap.size Y (w21 wa1 M1.W.length wc1 la1 M1.L.length lc1 M1.F d eb e s (some ⟨sb, 0, none⟩) rn sc) sb rn sc R) := ⟨⟨D, KY5.out, R5.out⟩⟩
  have q20 : ∀ z : RSt V.heap.size Y (w21 wa1 M1.W.length wc1 la1 M1.L.length lc1 M1.F d eb e s (some ⟨sb, 0, none⟩) rn sc) sb rn sc R, z.w.cell? ⟨Y, 20, none⟩ = some (.slice (some ⟨sb, 0, none⟩) rn sc) := fun z => clD (i := 20) z.by_ rfl
  refine wp_region_turn (fun W => ∃ z : RSt V.heap.size Y (w21 wa1 M1.W.length wc1 la1 M1.L.length lc1 M1.F d eb e s (some ⟨sb, 0, none⟩) rn sc) sb rn sc R, W = z.w) 17 (.p 0 (.q 1 (.p 2 (.p 3 (.p 4 (.q 5 (.p 6 (.q 7 (.p 8 (.p 9 (.p 10 (.q 11 (.h 12 (.p 13 (.p 14 (.p 15 (.p 16 (.h 17 (.p 18 (.h 19 (.done))))))))))))))))))))) (by kernel_rfl) (by kernel_rfl) (by rw [HD.out]; exact ⟨⟨D, KY5.out, R5.out⟩, rfl⟩) ?_
  rw [HD.out]
  (refine wpTurn_p rfl rfl ?_; go_big_quiet_step (fail); refine wpQuiet_nil ?_)
  (refine wpTurn_q rfl rfl ?_; go_big_quiet_step (fail); refine wpQuiet_nil ?_)
  iterate 3 (refine wpTurn_p rfl rfl ?_; go_big_quiet_step (fail); refine wpQuiet_nil ?_)
  refine wpTurn_q rfl rfl ?_
  refine wpQuiet_loadP rfl 25 (.tmp 39) rfl Y 0 [.slice wa1 M1.W.length wc1, .slice la1 M1.L.length lc1, .bool M1.F] rfl (by rintro _ ⟨z, rfl⟩; exact rangeAt_part z.by_ rfl) _ Tryz.underlying25 rfl (by kernel_rfl) ?_
  intro v hv
  subst hv
  refine wpQuiet_nil ?_
  simp only [Act.put, List.setIfInBounds_toArray, List.set_cons_succ, List.set_cons_zero]
  (refine wpTurn_p rfl rfl ?_; go_big_quiet_step (fail); refine wpQuiet_nil ?_)
  (refine wpTurn_q rfl rfl ?_; go_big_quiet_step (fail); refine wpQuiet_nil ?_)
  iterate 3 (refine wpTurn_p rfl rfl ?_; go_big_quiet_step (fail); refine wpQuiet_nil ?_)
  refine wpTurn_q rfl rfl ?_
  refine wpQuiet_loadP rfl 46 (.tmp 45) rfl sb (i * 7) [.int .i64 t.ph, .int .u64 t.hash, .int .u64 t.key, .int .u64 t.link, .int .u64 t.node, .int .u64 t.val, .bool t.found] rfl (by rintro _ ⟨z, rfl⟩; exact HRA.out z) _ Tryz.underlying46 rfl (by kernel_rfl) ?_
  intro v hv
  subst hv
  refine wpQuiet_nil ?_
  simp only [Act.put, List.setIfInBounds_toArray, List.set_cons_succ, List.set_cons_zero]
  refine wpTurn_h rfl rfl fun R' hR' hO => ?_
  go_wp2_with fail
  refine HCL.out.mono ?_
  rintro e9 w6 ⟨wa2, wc2, la2, lc2, rfl, hm2, hb6, kw, kl⟩
  have ltY := llD KY5.out
  have KWS := hid (kw.mono HB5.out.size)
  have KLS := hid (kl.mono HB5.out.size)
  have hwY := kept_apartS hlw kw (HB5.out.size) (Nat.le_refl 0) hVY ltY
  have hlY := kept_apartS hll kl (HB5.out.size) (Nat.le_refl 0) hVY ltY
  have ltS := HSB.out
  have ltT := llD KT5.out
  have hwT := kept_apartS hlw kw (HB5.out.size) (Nat.le_refl 0) hVT ltT
  have hlT := kept_apartS hll kl (HB5.out.size) (Nat.le_refl 0) hVT ltT
  have hwS := kept_apartS hlw kw (HB5.out.size) (Nat.le_refl 0) hVS ltS
  have hlS := kept_apartS hll kl (HB5.out.size) (Nat.le_refl 0) hVS ltS
  have KY6 := hid (klD KY5.out hb6)
  have KT6 := hid (klD KT5.out hb6)
  have R6 := hid (ogr R5.out hb6)
  have HB6 := hid (HB5.out.trans (hb6.mono HB5.out.size))
  have HM6 := hid hm2
  clear hm2 hb6 kw kl HCL KY5 KT5 R5 HB5 HM5
  go_wp2
  refine hR' _ _ ⟨⟨w6, KY6.out, R6.out⟩, rfl⟩ ?_
  clear hR' hO R'
  iterate 4 (refine wpTurn_p rfl rfl ?_; go_big_quiet_step (fail); refine wpQuiet_nil ?_)
  refine wpTurn_m rfl fun R' hR' hO => ?_
  go_wp2_with (refine wsP rfl 25 (.tmp 50) (.tmp 48) rfl Y 0 _ (w21 wa2 M2.W.length wc2 la2 M2.L.length lc2 M2.F d eb e s (some ⟨sb, 0, none⟩) rn sc) _ rfl rfl _ KY6.out (by kernel_rfl) (Nat.le_of_ble_eq_true rfl) (by kernel_rfl) rfl ?_; intro u1 a1 a2 a3 a4; have KY7 := hid a1; have KT7 := hid (a2 T _ (by omega) KT6.out); have R7 := hid (okp R6.out fun k o hk ho => a2 k o (own_neT R6.out KY6.out (by decide) k hk) ho); have HM7 := hid (MemL.keepS HM6.out hwY hlY a2); have HB7 := hid (a3 _ _ hVY HB6.out); clear a1 a2 a3 a4 KY6 KT6 R6 HM6 HB6; (try simp only [Act.put]))
  refine hR' _ _ ?_
  clear hR' hO R'
  (refine wpTurn_p rfl rfl ?_; go_big_quiet_step (fail); refine wpQuiet_nil ?_)
  refine wpTurn_b rfl fun R' hR' hO => ?_
  obtain ⟨cur, hcur⟩ := own_type R7.out sb rfl
  have hcz : i * 7 + 7 ≤ cur.size := own_room R7.out hin hcur
  have HCUR := hid hcur
  have hSY : sb ≠ Y := tyN hcur KY7.out (by decide)
  have hST : sb ≠ T := tyN hcur KT7.out (by decide)
  clear hcur
  go_wp2_with (refine wsP rfl 46 (.tmp 51) (.tmp 49) rfl sb (i * 7) cur (patch cur (i * 7) (sk7l t')) _ rfl rfl _ HCUR.out (by kernel_rfl) hcz (by kernel_rfl) rfl ?_; intro u2 a1 a2 a3 a4; have KY8 := hid (a2 Y _ (Ne.symm hSY) KY7.out); have KT8 := hid (a2 T _ (Ne.symm hST) KT7.out); have R8 := hid (own_patch R7.out (sk7l t') rfl hin cur HCUR.out a1); have HM8 := hid (MemL.keepS HM7.out hwS hlS a2); have HB8 := hid (a3 _ _ hVS HB7.out); clear a1 a2 a3 a4 KY7 KT7 R7 HM7 HB7; (try simp only [Act.put]))
  refine hR' _ _ ?_
  clear hR' hO R'
  refine wpTurn_done ?_
  go_wp2_with (first | (refine wlW rfl 49 (.tmp 4) rfl Y _ rfl _ KY8.out _ Tryz.underlying49 rfl (by kernel_rfl) ?_; intro v hv; subst hv) | (refine wsP rfl 49 (.tmp 6) (.tmp 52) rfl T 0 _ (w21 wa2 M2.W.length wc2 la2 M2.L.length lc2 M2.F d eb e s (some ⟨sb, 0, none⟩) rn sc) _ rfl rfl _ KT8.out (by kernel_rfl) (Nat.le_of_ble_eq_true rfl) (by kernel_rfl) rfl ?_; intro u9 a1 a2 a3 a4; have KT9 := hid a1; have R9 := hid (okp R8.out fun k o hk ho => a2 k o (own_neT R8.out KT8.out (by decide) k hk) ho); have HM9 := hid (MemL.keepS HM8.out hwT hlT a2); have HB9 := hid (a3 _ _ hVT HB8.out); clear a1 a2 a3 a4; (try simp only [Act.put])))
  refine bodyPost_ret (Step_result KT9.out rfl rfl) rfl ?_
  rw [HM2E.out, HTE.out]
  refine ⟨wa2, wc2, la2, lc2, some ⟨sb, 0, none⟩, sc, ?_, ⟨HM9.out, ?_⟩, HB9.out, KWS.out, KLS.out, .inr (fun b off e => by cases e; exact hVS)⟩
  ·show _ = Ending.returned (.agg (w21 wa2 M2.W.length wc2 la2 M2.L.length lc2 M2.F d eb e s (some ⟨sb, 0, none⟩) (R.set i t').length sc))
   rw [List.length_set, HRN.out]
  show Leads _ _ (R.set i t').length sc (skcells (R.set i t'))
  rw [List.length_set, HRN.out, skcells_set (by rw [HRN.out]; exact hin)]
  exact Leads.of_own1 R9.out
end Go.Proofs.YtipohagcppfgiaaGreat
namespace Go.Proofs.YtipohagcppfgiaaGreat
open Go.RowKit
open Go.Proofs
set_option linter.unusedVariables false
attribute [local go_sem] Oper.semAt_some
set_option maxRecDepth 100000 in
set_option maxHeartbeats 16000000 in
theorem StepW_any (w : Wal) (g : Gst) (wa la ja ka wa' la' ra' : Option Addr) (wc lc jc kc nk wc' lc' rc' : Nat) (V : World) (hj : Leads V ja w.J.length jc (jbcells w.J)) (hg : WdL V wa' wc' la' lc' ra' rc' g) (hok : okM g.M = true) (hd : g.done < w.J.length) (he : g.ed.Ok) (hs : g.wr.Ok) (he0 : g.edits = true → 0 ≤ g.ed.ph ∧ g.ed.ph ≤ 7) (hs0 : g.edits = false → 0 ≤ g.wr.ph ∧ g.wr.ph ≤ 5) :
  Calls Tryz.prog 13 #[walV wa wc la lc ja w.J.length jc ka nk kc w, wdV wa' wc' la' lc' ra' rc' g, .int .i64 0] V (GivesDs wa' la' ra' (writeG w.J w.head g) V) := by
 unfold walV wdV
 obtain ⟨V1, hV1, hb1, hs1, hl1⟩ := laid V (wal8 wa w.M.W.length wc la w.M.L.length lc w.M.F w.head ja w.J.length jc ka nk kc) 30
 obtain ⟨X, hX⟩ := nm (V.heap.size)
 rw [hX] at hl1
 obtain ⟨V2, hV2, hb2, hs2, hl2⟩ := laid V1 (w21 wa' g.M.W.length wc' la' g.M.L.length lc' g.M.F g.done g.edits g.ed g.wr ra' g.R.length rc') 49
 obtain ⟨Y, hY⟩ := nm (V1.heap.size)
 rw [hY] at hl2
 obtain ⟨V3, hV3, hb3, hs3, hl3⟩ := laid V2 (w21 none 0 0 none 0 0 false 0 false zeroEd zeroSk none 0 0) 49
 obtain ⟨T, hT⟩ := nm (V2.heap.size)
 rw [hT] at hl3
 have hV3' : V2.alloc (.cells #[.slice none 0 0, .slice none 0 0, .bool false, .int .i64 0, .bool false, .int .i64 0, .bool false, .int .u64 0, .int .u64 0, .int .u64 0, .int .u64 0, .int .u64 0, .int .u64 0, .int .i64 0, .int .u64 0, .int .u64 0, .int .u64 0, .int .u64 0, .int .u64 0, .bool false, .slice none 0 0] 49) = V3 := hV3
 have hVT : V.heap.size ≤ T := by omega
 have KX := hid (klD (klD hl1 hb2) hb3)
 have KY := hid (klD hl2 hb3)
 have KT := hid hl3
 have HB := hid (step (step hb1 hb2) hb3)
 have HW := hid (Write_any w g wa la ja ka wa' la' ra' wc lc jc kc nk wc' lc' rc' V3 (hj.grow HB.out) (hg.grow HB.out) hok hd he hs he0 hs0)
 unfold walV wdV at HW
 have HWR := hid (writeG_R w.J w.head g)
 have HGV := hid hg
 have hlw := (hg.mem.lowA hok).1
 have hll := (hg.mem.lowA hok).2
 obtain ⟨g2, hg2⟩ := nm (writeG w.J w.head g)
 rw [hg2] at HW HWR ⊢
 have hjl := hj.len
 have td : decide (((g.done : Nat) : Int) < ((w.J.length : Nat) : Int)) = true := decide_eq_true (by omega)
 have td' : decide (g.done < w.J.length) = true := decide_eq_true hd
 have y3 := clD (i := 3) KY.out rfl
 have x4 := clD (i := 4) KX.out rfl
 clear hb1 hs1 hl1 hb2 hs2 hl2 hb3 hs3 hl3 hV3 hj hg hg2
 go_enter Tryz.func13, Tryz.ntmps13
 go_wp2_with (first | (refine wlW rfl 30 (.tmp 3) rfl X _ rfl _ KX.out _ Tryz.underlying30 rfl (by kernel_rfl) ?_; intro v hv; subst hv) | (refine wlW rfl 49 (.tmp 4) rfl Y _ rfl _ KY.out _ Tryz.underlying49 rfl (by kernel_rfl) ?_; intro v hv; subst hv))
 refine HW.out.mono ?_
 rintro e w3 ⟨wa2, wc2, la2, lc2, ra2, rc2, rfl, hm, hb, kw, kl, rfl, rfl⟩
 have ltT := llD KT.out
 have hwT := kept_apart hlw kw hVT ltT
 have hlT := kept_apart hll kl hVT ltT
 have KWS := hid (kw.mono HB.out.size)
 have KLS := hid (kl.mono HB.out.size)
 have KT3 := hid (klD KT.out hb)
 have HB3 := hid (HB.out.trans (hb.mono HB.out.size))
 have HM3 := hid hm
 clear hb hm HW KT
 go_wp2_with (refine wsP rfl 49 (.tmp 6) (.tmp 19) rfl T 0 _ (w21 wa2 g2.M.W.length wc2 la2 g2.M.L.length lc2 g2.M.F g2.done g2.edits g2.ed g2.wr ra2 g2.R.length rc2) _ rfl rfl _ KT3.out (by kernel_rfl) (Nat.le_of_ble_eq_true rfl) (by kernel_rfl) rfl ?_; intro u4 a1 a2 a3 a4; have KT4 := hid a1; have A2 := hid a2; have HB4 := hid (a3 V.heap.size V hVT HB3.out); clear a1 a2 a3 a4; (try simp only [Act.put]))
 refine bodyPost_ret (Step_result KT4.out rfl rfl) rfl ?_
 exact ⟨wa2, wc2, la2, lc2, _, _, rfl, ⟨HM3.out.mem.keepNe hwT hlT A2.out, by rw [HWR.out]; exact HGV.out.rds.grow HB4.out⟩, HB4.out, KWS.out, KLS.out, .inl rfl⟩
end Go.Proofs.YtipohagcppfgiaaGreat
namespace Go.Proofs.YtipohagcppfgiaaGreat
open Go.RowKit
open Go.Proofs
set_option linter.unusedVariables false
attribute [local go_sem] Oper.semAt_some
set_option maxRecDepth 100000 in
set_option maxHeartbeats 16000000 in
theorem StepN0_any (w : Wal) (g : Gst) (wa la ja ka wa' la' ra' : Option Addr) (wc lc jc kc nk wc' lc' rc' : Nat) (V : World) (hj : Leads V ja w.J.length jc (jbcells w.J)) (hg : WdL V wa' wc' la' lc' ra' rc' g) (hd : g.done = w.J.length) :
  Calls Tryz.prog 13 #[walV wa wc la lc ja w.J.length jc ka nk kc w, wdV wa' wc' la' lc' ra' rc' g, .int .i64 0] V (GivesDs wa' la' ra' g V) := by
 unfold walV wdV
 obtain ⟨V1, hV1, hb1, hs1, hl1⟩ := laid V (wal8 wa w.M.W.length wc la w.M.L.length lc w.M.F w.head ja w.J.length jc ka nk kc) 30
 obtain ⟨X, hX⟩ := nm (V.heap.size)
 rw [hX] at hl1
 obtain ⟨V2, hV2, hb2, hs2, hl2⟩ := laid V1 (w21 wa' g.M.W.length wc' la' g.M.L.length lc' g.M.F g.done g.edits g.ed g.wr ra' g.R.length rc') 49
 obtain ⟨Y, hY⟩ := nm (V1.heap.size)
 rw [hY] at hl2
 obtain ⟨V3, hV3, hb3, hs3, hl3⟩ := laid V2 (w21 none 0 0 none 0 0 false 0 false zeroEd zeroSk none 0 0) 49
 obtain ⟨T, hT⟩ := nm (V2.heap.size)
 rw [hT] at hl3
 have hV3' : V2.alloc (.cells #[.slice none 0 0, .slice none 0 0, .bool false, .int .i64 0, .bool false, .int .i64 0, .bool false, .int .u64 0, .int .u64 0, .int .u64 0, .int .u64 0, .int .u64 0, .int .u64 0, .int .i64 0, .int .u64 0, .int .u64 0, .int .u64 0, .int .u64 0, .int .u64 0, .bool false, .slice none 0 0] 49) = V3 := hV3
 have hVT : V.heap.size ≤ T := by omega
 have KX := hid (klD (klD hl1 hb2) hb3)
 have KY := hid (klD hl2 hb3)
 have KT := hid hl3
 have HB := hid (step (step hb1 hb2) hb3)
 have HGV := hid hg
 have hjl := hj.len
 have hrl := hg.rds.len
 have y3 := clD (i := 3) KY.out rfl
 have x4 := clD (i := 4) KX.out rfl
 have y20 := clD (i := 20) KY.out rfl
 have td : decide (((g.done : Nat) : Int) < ((w.J.length : Nat) : Int)) = false := decide_eq_false (by omega)
 have td' : decide (g.done < w.J.length) = false := decide_eq_false (by omega)
 clear hb1 hs1 hl1 hb2 hs2 hl2 hb3 hs3 hl3 hV3 hj hg hd
 go_enter Tryz.func13, Tryz.ntmps13
 go_wp2_with (first | (refine wlW rfl 49 (.tmp 4) rfl Y _ rfl _ KY.out _ Tryz.underlying49 rfl (by kernel_rfl) ?_; intro v hv; subst hv) | (refine wsP rfl 49 (.tmp 6) (.tmp 52) rfl T 0 _ (w21 wa' g.M.W.length wc' la' g.M.L.length lc' g.M.F g.done g.edits g.ed g.wr ra' g.R.length rc') _ rfl rfl _ KT.out (by kernel_rfl) (Nat.le_of_ble_eq_true rfl) (by kernel_rfl) rfl ?_; intro u4 a1 a2 a3 a4; have KT4 := hid a1; have HB4 := hid (a3 V.heap.size V hVT HB.out); clear a1 a2 a3 a4; (try simp only [Act.put])))
 refine bodyPost_ret (Step_result KT4.out rfl rfl) rfl ?_
 exact ⟨wa', wc', la', lc', ra', rc', rfl, HGV.out.grow HB4.out, HB4.out, keptA.refl _ _, keptA.refl _ _, keptA.refl _ _⟩
set_option maxRecDepth 100000 in
set_option maxHeartbeats 16000000 in
theorem StepN1_any (w : Wal) (g : Gst) (wa la ja ka wa' la' ra' : Option Addr) (wc lc jc kc nk wc' lc' rc' : Nat) (V : World) (hj : Leads V ja w.J.length jc (jbcells w.J)) (hg : WdL V wa' wc' la' lc' ra' rc' g) (n : Int) (h0 : n ≠ 0) (hn : ¬ (1 ≤ n ∧ n ≤ g.R.length)) :
  Calls Tryz.prog 13 #[walV wa wc la lc ja w.J.length jc ka nk kc w, wdV wa' wc' la' lc' ra' rc' g, .int .i64 n] V (GivesDs wa' la' ra' g V) := by
 unfold walV wdV
 obtain ⟨V1, hV1, hb1, hs1, hl1⟩ := laid V (wal8 wa w.M.W.length wc la w.M.L.length lc w.M.F w.head ja w.J.length jc ka nk kc) 30
 obtain ⟨X, hX⟩ := nm (V.heap.size)
 rw [hX] at hl1
 obtain ⟨V2, hV2, hb2, hs2, hl2⟩ := laid V1 (w21 wa' g.M.W.length wc' la' g.M.L.length lc' g.M.F g.done g.edits g.ed g.wr ra' g.R.length rc') 49
 obtain ⟨Y, hY⟩ := nm (V1.heap.size)
 rw [hY] at hl2
 obtain ⟨V3, hV3, hb3, hs3, hl3⟩ := laid V2 (w21 none 0 0 none 0 0 false 0 false zeroEd zeroSk none 0 0) 49
 obtain ⟨T, hT⟩ := nm (V2.heap.size)
 rw [hT] at hl3
 have hV3' : V2.alloc (.cells #[.slice none 0 0, .slice none 0 0, .bool false, .int .i64 0, .bool false, .int .i64 0, .bool false, .int .u64 0, .int .u64 0, .int .u64 0, .int .u64 0, .int .u64 0, .int .u64 0, .int .i64 0, .int .u64 0, .int .u64 0, .int .u64 0, .int .u64 0, .int .u64 0, .bool false, .slice none 0 0] 49) = V3 := hV3
 have hVT : V.heap.size ≤ T := by omega
 have KX := hid (klD (klD hl1 hb2) hb3)
 have KY := hid (klD hl2 hb3)
 have KT := hid hl3
 have HB := hid (step (step hb1 hb2) hb3)
 have HGV := hid hg
 have hjl := hj.len
 have hrl := hg.rds.len
 have y3 := clD (i := 3) KY.out rfl
 have x4 := clD (i := 4) KX.out rfl
 have y20 := clD (i := 20) KY.out rfl
 have t0 : (n == 0) = false := by simp [h0]
 obtain ⟨b1, hb1'⟩ := nm (decide (n ≥ 1))
 have t1' : decide ((1 : Int) ≤ n) = b1 := hb1'
 have t2 : b1 = true → decide (n ≤ ((g.R.length : Nat) : Int)) = false := fun e => decide_eq_false (by rw [e] at hb1'; have := of_decide_eq_true hb1'; omega)
 have HT2 := hid t2
 clear t2
 clear hb1 hs1 hl1 hb2 hs2 hl2 hb3 hs3 hl3 hV3 hj hg h0 hn
 go_enter Tryz.func13, Tryz.ntmps13
 cases b1 with
 | true =>
  have t2 := HT2.out rfl
  go_wp2_with (first | (refine wlW rfl 49 (.tmp 4) rfl Y _ rfl _ KY.out _ Tryz.underlying49 rfl (by kernel_rfl) ?_; intro v hv; subst hv) | (refine wsP rfl 49 (.tmp 6) (.tmp 52) rfl T 0 _ (w21 wa' g.M.W.length wc' la' g.M.L.length lc' g.M.F g.done g.edits g.ed g.wr ra' g.R.length rc') _ rfl rfl _ KT.out (by kernel_rfl) (Nat.le_of_ble_eq_true rfl) (by kernel_rfl) rfl ?_; intro u4 a1 a2 a3 a4; have KT4 := hid a1; have HB4 := hid (a3 V.heap.size V hVT HB.out); clear a1 a2 a3 a4; (try simp only [Act.put])))
  refine bodyPost_ret (Step_result KT4.out rfl rfl) rfl ?_
  exact ⟨wa', wc', la', lc', ra', rc', rfl, HGV.out.grow HB4.out, HB4.out, keptA.refl _ _, keptA.refl _ _, keptA.refl _ _⟩
 | false =>
  go_wp2_with (first | (refine wlW rfl 49 (.tmp 4) rfl Y _ rfl _ KY.out _ Tryz.underlying49 rfl (by kernel_rfl) ?_; intro v hv; subst hv) | (refine wsP rfl 49 (.tmp 6) (.tmp 52) rfl T 0 _ (w21 wa' g.M.W.length wc' la' g.M.L.length lc' g.M.F g.done g.edits g.ed g.wr ra' g.R.length rc') _ rfl rfl _ KT.out (by kernel_rfl) (Nat.le_of_ble_eq_true rfl) (by kernel_rfl) rfl ?_; intro u4 a1 a2 a3 a4; have KT4 := hid a1; have HB4 := hid (a3 V.heap.size V hVT HB.out); clear a1 a2 a3 a4; (try simp only [Act.put])))
  refine bodyPost_ret (Step_result KT4.out rfl rfl) rfl ?_
  exact ⟨wa', wc', la', lc', ra', rc', rfl, HGV.out.grow HB4.out, HB4.out, keptA.refl _ _, keptA.refl _ _, keptA.refl _ _⟩
/-- A step of the document is a pick. -/
theorem StepA_any (w : Wal) (xs0 : List Nd) (g : Gst) (pub : List Nd) (n : Int) (wa la ja ka wa' la' ra' : Option Addr) (wc lc jc kc nk wc' lc' rc' : Nat) (V : World) (hj : Leads V ja w.J.length jc (jbcells w.J)) (hg : WdL V wa' wc' la' lc' ra' rc' g) (hi : WInv w xs0 g pub) (ho : GOk w.J g) (hr : g.R.length ≤ 1000) :
  Calls Tryz.prog 13 #[walV wa wc la lc ja w.J.length jc ka nk kc w, wdV wa' wc' la' lc' ra' rc' g, .int .i64 n] V (GivesDs wa' la' ra' (pickG w.J w.head g n) V) := by
 by_cases h0 : n = 0
 ·subst h0
  unfold pickG
  rw [if_pos rfl]
  by_cases hd : g.done = w.J.length
  ·have e : writeG w.J w.head g = g := by unfold writeG; rw [if_pos hd]
   rw [e]
   exact StepN0_any w g wa la ja ka wa' la' ra' wc lc jc kc nk wc' lc' rc' V hj hg hd
  ·have hlt : g.done < w.J.length := by have := ho.d; omega
   have hp := inv_ph hi hlt
   exact StepW_any w g wa la ja ka wa' la' ra' wc lc jc kc nk wc' lc' rc' V hj hg hi.p.ok hlt ho.e ho.s hp.1 hp.2
 ·by_cases hn : 1 ≤ n ∧ n ≤ g.R.length
  ·obtain ⟨i, rfl⟩ : ∃ i : Nat, n = (((i + 1 : Nat)) : Int) := ⟨(n - 1).toNat, by omega⟩
   have hlt : i < g.R.length := by omega
   obtain ⟨t, ht⟩ : ∃ x, g.R[i]? = some x := ⟨_, List.getElem?_eq_getElem hlt⟩
   have hm := List.mem_of_getElem? ht
   have e : pickG w.J w.head g (((i + 1 : Nat)) : Int) = { g with M := (seekE g.M t).1, R := g.R.set i (seekE g.M t).2.1 } := by
    unfold pickG
    rw [if_neg h0, if_pos hn, show ((((i + 1 : Nat)) : Int) - 1).toNat = i by omega, ht]
    dsimp only
    rw [inv_rd hi hm]
   rw [e]
   exact StepR_any w g i t wa la ja ka wa' la' ra' wc lc jc kc w.J.length nk wc' lc' rc' V hg hi.p.ok ht (ho.r t hm) (hi.rd t hm).p0 hr
  ·have e : pickG w.J w.head g n = g := by unfold pickG; rw [if_neg h0, if_neg hn]
   rw [e]
   exact StepN1_any w g wa la ja ka wa' la' ra' wc lc jc kc nk wc' lc' rc' V hj hg n h0 hn
end Go.Proofs.YtipohagcppfgiaaGreat
