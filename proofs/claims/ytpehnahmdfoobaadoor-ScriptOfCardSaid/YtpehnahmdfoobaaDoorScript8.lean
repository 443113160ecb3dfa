/- Scripts: the reader's run. -/
import Derived.Test.YtpehnahmdfoobaaDoorScript7
namespace Go.Proofs.YtpehnahmdfoobaaDoor
open Go.RowKit
open Go.Proofs
set_option linter.unusedVariables false

theorem icells_app (l : List Int) (n : Nat) (z : Int) : icells (l ++ List.replicate n z) = icells l ++ List.replicate n (icell z) := by simp [icells, icell]
theorem ReadJ.picks_blk {R base C P : Nat} {ls : List (List (List Nat))} {ps : List Int} {a : Option Addr} {r c calls g : Nat} {vs : List Value} {pv : Value} {w W W' : World} (h : ReadJ R base C P ls ps a r c calls g vs pv w W) (hg : W.grownBy W' pv.ownBlock) :
    W'.heap[R]? = some (.cells #[.int .i64 ((C : Nat) : Int), .int .i64 ((P : Nat) : Int), .slice (some ⟨g, 0, none⟩) C C, pv, .slice a r c, .int .i64 ((calls : Nat) : Int)] 62 (0, 0)) :=
  keep_grown h.blk hg fun e => by have := (h.pick.lt R e).1; have := h.lo; omega
theorem ReadJ.picks {R base C P : Nat} {ls : List (List (List Nat))} {ps ps' : List Int} {a : Option Addr} {r c calls g : Nat} {vs : List Value} {pv v' : Value} {w W W' : World} (h : ReadJ R base C P ls ps a r c calls g vs pv w W)
    (ho : W'.ownsRow base 3 1 v' ps'.length (icells ps')) (hg : W.grownBy W' pv.ownBlock) : ReadJ R base C P ls ps' a r c calls g vs v' w (W'.setCell ⟨R, 3, none⟩ v') := by
  have hR : R ≠ g := by have := h.lo; omega
  have hbase : base ≤ W.heap.size := by have := lt_laid h.tab; have := h.lo; omega
  have htab : W'.heap[g]? = some (.cells vs.toArray 46 (0, 0)) := keep_grown h.tab hg fun e => by
    obtain ⟨cur, hc⟩ := own_type h.pick g e
    exact type_ne hc h.tab (by decide) rfl
  refine ⟨set_laid (h.picks_blk hg) _, other_laid htab (by omega) _, h.vlen, h.llen, fun i v cs hi hc => own_keep (h.row i v cs hi hc) (fun k o hb hh => ?_), own_keep ho (fun k o hb hh => ?_), h.five, h.few, h.ap, h.lo, (h.below.trans ((own_below h.pick hg hbase).mono (by have := h.lo; omega))).setCell (by show w.heap.size ≤ R; exact h.lo.2.2) _⟩
  · have hk := ((h.row i v cs hi hc).lt k hb).1
    refine other_laid (keep_grown hh hg ?_) (by have := h.lo; omega) _
    intro e
    obtain ⟨cur, hc1⟩ := own_type (h.row i v cs hi hc) k hb
    obtain ⟨cur', hc2⟩ := own_type h.pick k e
    exact type_ne hc1 hc2 (by decide) rfl
  · have hk := (ho.lt k hb).1
    exact other_laid hh (by have := h.lo; omega) _
structure R8 (R C : Nat) where
  v : World
  r0 : v.cell? ⟨R, 0, none⟩ = some (.int .i64 ((C : Nat) : Int))
  p2 : v.cell? ⟨1, 2, none⟩ = some (.int .i64 8)
  p3 : v.cell? ⟨1, 3, none⟩ = some (.int .i64 3)

set_option maxRecDepth 100000 in
set_option maxHeartbeats 4000000 in
theorem run_any (R base C P : Nat) (ls : List (List (List Nat))) (ps : List Int) (a : Option Addr) (r c calls g : Nat) (vs : List Value) (pv : Value) (w W : World) (x : Nat) (hJ : ReadJ R base C P ls ps a r c calls g vs pv w W) (hG : Glob w) (hC1 : 1 ≤ C) (hC8 : C ≤ 8) (hx : x < 18446744073709551616) (hps : ps.length ≤ 4096) :
    Calls Tryd.prog 29 #[.pointer (some ⟨R, 0, none⟩), .int .u64 (x : Nat)] W (fun e W' => (∃ v, e = .returned v) ∧ ∃ pv', ReadJ R base C P ls (ps ++ List.replicate (min (Pl.get x 16 8 + 1) (4096 - ps.length)) (((Pl.get x 8 3 % C : Nat)) : Int)) a r c calls g vs pv' w W') := by
  have HJ := hid hJ
  have hGW := hG.grow hJ.below
  have HG := hid hGW
  have h2w := hG.two
  obtain ⟨pa, pc, rfl, -⟩ := Leads.of_own hJ.pick
  obtain ⟨GV, hGV⟩ : ∃ GV, Pl.get x 8 3 = GV := ⟨_, rfl⟩
  obtain ⟨A, hA⟩ : ∃ A, GV % C = A := ⟨_, rfl⟩
  obtain ⟨GM, hGM⟩ : ∃ GM, Pl.get x 16 8 = GM := ⟨_, rfl⟩
  have hGM8 : GM < 256 := by rw [← hGM]; exact get_lt x 16 8
  obtain ⟨n, hn⟩ : ∃ n, min (GM + 1) (4096 - ps.length) = n := ⟨_, rfl⟩
  have hnI : min (((GM : Nat) : Int) + 1) (4096 - ((ps.length : Nat) : Int)) = ((n : Nat) : Int) := by omega
  have hn4 : n ≤ 4096 := by omega
  have hAC : A < C := by rw [← hA]; exact Nat.mod_lt _ (by omega)
  have hAI : Int.tmod ((GV : Nat) : Int) ((C : Nat) : Int) = ((A : Nat) : Int) := by rw [← hA]; exact (Int.ofNat_tmod _ _).symm
  have hC0 : ¬ ((C : Nat) : Int) = 0 := by omega
  have HPM : Hid (∀ V : World, Calls Tryd.prog 27 #[.int .u64 (x : Nat), .agg #[.int .i64 16, .int .i64 8]] V (Ret (.int .i64 ((GM : Nat) : Int)) V)) := hid (fun V => by rw [← hGM]; exact part_any x 16 8 V hx (by decide) (by decide) (by decide))
  have HPA : Hid (∀ V : World, Calls Tryd.prog 27 #[.int .u64 (x : Nat), .agg #[.int .i64 8, .int .i64 3]] V (Ret (.int .i64 ((GV : Nat) : Int)) V)) := hid (fun V => by rw [← hGV]; exact part_any x 8 3 V hx (by decide) (by decide) (by decide))
  rw [hGV, hGM]
  have HAA := hid hA
  have HN := hid hn
  have hpp : 0 ≤ 4096 - ((ps.length : Nat) : Int) := by omega
  have m4 : ∀ z : Ext W, z.v.cell? ⟨1, 4, none⟩ = some (.int .i64 16) := fun z => (HG.out.grow z.b).p4
  have m5 : ∀ z : Ext W, z.v.cell? ⟨1, 5, none⟩ = some (.int .i64 8) := fun z => (HG.out.grow z.b).p5
  have r3 : ∀ z : Ext W, z.v.cell? ⟨R, 3, none⟩ = some (.slice pa ps.length pc) := fun z => cell_laid (keep_laid HJ.out.blk z.b) rfl
  clear hGV hA hGM hn hJ hG hGW
  go_enter Tryd.func29, Tryd.ntmps29
  go_upto_region 0 with (fail)
  refine wp_region_from (Below.refl _ _) (by kernel_rfl) (by kernel_rfl) ?_
  repeat (go_big_quiet_step ((go_at_call 27; exact ext_of (HPM.out _))))
  refine wpQuiet_nil ?_
  rintro w00 ⟨⟨_, hb00⟩, rfl⟩
  clear m4 m5 r3
  have H8b : Hid (∀ V : World, V.cell? ⟨R, 0, none⟩ = some (.int .i64 ((C : Nat) : Int)) → V.heap[1]? = W.heap[1]? → ∃ z : R8 R C, V = z.v) := hid (fun V e0 e1 => ⟨⟨V, e0, (World.cell?_of_block (a := ⟨1, 2, none⟩) e1).trans HG.out.p2, (World.cell?_of_block (a := ⟨1, 3, none⟩) e1).trans HG.out.p3⟩, rfl⟩)
  have H8 : Hid (∀ V : World, Below W.heap.size W V → ∃ z : R8 R C, V = z.v) := hid (fun V hb => H8b.out V (cell_laid (keep_laid HJ.out.blk hb) rfl) (hb.block 1 (by have := HG.out.two; omega)))
  obtain ⟨w0, hw0⟩ : ∃ w0, w0 = w00.drew := ⟨_, rfl⟩
  have hb0 : Below W.heap.size W w0 := by rw [hw0]; exact hb00.drew
  have hdr := H8.out w0 hb0
  haveI : Nonempty (R8 R C) := hdr.elim fun z _ => ⟨z⟩
  have q0 : ∀ z : R8 R C, z.v.cell? ⟨R, 0, none⟩ = some (.int .i64 ((C : Nat) : Int)) := fun z => z.r0
  have q2 : ∀ z : R8 R C, z.v.cell? ⟨1, 2, none⟩ = some (.int .i64 8) := fun z => z.p2
  have q3 : ∀ z : R8 R C, z.v.cell? ⟨1, 3, none⟩ = some (.int .i64 3) := fun z => z.p3
  go_upto_region 1 with (fail)
  refine wp_region_mix2 (fun w' => ∃ z : R8 R C, w' = z.v) 24 (.q 0 (.q 1 (.q 2 (.q 3 (.q 4 (.q 6 (.q 7 (.q 8 (.q 10 (.q 11 (.q 12 (.q 13 (.q 14 (.q 17 (.h2 5 (.h 9 (.q 15 (.h 16 (.h 18 (.h 19 (.q 20 (.q 21 (.q 22 (.h 23 .done))))))))) 9 (.q 15 (.h2 5 (.h 16 (.h 18 (.h 19 (.q 20 (.q 21 (.q 22 (.h 23 .done))))))) 16 (.h2 5 (.h 18 (.h 19 (.q 20 (.q 21 (.q 22 (.h 23 .done)))))) 18 (.h 5 (.h 19 (.q 20 (.q 21 (.q 22 (.h 23 .done)))))))))))))))))))))))) (by kernel_rfl) (by kernel_rfl) (by rw [← hw0]; exact hdr) ?_
  rw [← hw0]
  clear hw0
  repeat (refine wpMix2_q rfl rfl ?_; go_big_quiet_step (fail); refine wpQuiet_nil ?_)
  refine wpMix2_h2 ?_ ?_
  · refine wpMix2_h rfl fun R' hR' hO => ?_
    have c5 := cell_laid (i := 3) (HJ.out.grow hb0).blk rfl
    go_wp2
    refine hR' _ _ (H8.out _ hb0) ?_
    refine wpMix2_h rfl fun R' hR' hO => ?_
    go_wp2_with fail
    refine (HPA.out _).mono ?_
    rintro e w1 ⟨rfl, hb01⟩
    have hb1 := step hb0 hb01
    go_wp2
    refine hR' _ _ (H8.out _ hb1) ?_
    repeat (refine wpMix2_q rfl rfl ?_; go_big_quiet_step (fail); refine wpQuiet_nil ?_)
    refine wpMix2_h rfl fun R' hR' hO => ?_
    obtain ⟨w2, hw2, hb12, hs2, hl2⟩ := laid w1 #[.int .i64 ((A : Nat) : Int)] 3
    have hb2 := step hb1 hb12
    obtain ⟨M, hM⟩ : ∃ M, w1.heap.size = M := ⟨_, rfl⟩
    rw [hM] at hl2 hs2
    have HCM := hid (cell_laid (i := 0) hl2 rfl)
    have hMlt : M < w2.heap.size := by omega
    clear hl2 hs2
    go_wp2
    refine hR' _ _ (H8.out _ hb2) ?_
    refine wpMix2_h rfl fun R' hR' hO => ?_
    go_wp2_with fail
    refine (Repeat_any ((A : Nat) : Int) n M w2 HCM.out hMlt (by omega)).mono ?_
    rintro e w3 ⟨G, rfl, ho3, hb23⟩
    have HO3 := hid ho3
    have hb3 := step hb2 hb23
    clear ho3
    go_wp2
    refine hR' _ _ (H8.out _ hb3) ?_
    refine wpMix2_h rfl fun R' hR' hO => ?_
    have HJ3 := hid (HJ.out.grow hb3)
    have HP3 := hid HJ3.out.pick
    refine wp_appendM elemInts rfl (.tmp 23) (.tmp 36) rfl base (.slice pa ps.length pc) ps.length (icells ps) rfl HP3.out ⟨G, 0, none⟩ n n (List.replicate n (icell ((A : Nat) : Int))) rfl (by simp) ?_ ?_ ?_ ?_ ?_
    · exact HO3.out.cells (g := G) rfl
    · intro u hu
      rw [List.eq_of_mem_replicate hu]
      rfl
    · omega
    · have := lt_laid HJ3.out.tab; have := HJ3.out.lo; omega
    intro v' W' ho' hg' hm'
    have HF := hid (HJ3.out.picks (ps' := ps ++ List.replicate n ((A : Nat) : Int)) (by rw [icells_app, List.length_append, List.length_replicate]; exact ho') hg')
    have HBK := hid (HJ3.out.picks_blk hg')
    obtain ⟨a9, c9, rfl, -⟩ := Leads.of_own ho'
    have t9 := free_laid (i := 3) HBK.out
    have t8 := cell_laid (i := 3) HBK.out rfl
    have hG1 : W'.heap[1]? = W.heap[1]? := (hg'.block 1 (by have := HG.out.two; have := hb3.size; omega) (fun e => by have := (HP3.out.lt 1 e.symm).1; have := HG.out.two; have := HJ.out.lo; omega)).trans (hb3.block 1 (by have := HG.out.two; omega))
    have hC1 := H8b.out W' (cell_laid HBK.out rfl) hG1
    have hC2 := H8b.out (W'.setCell ⟨R, 3, none⟩ (.slice a9 (ps.length + n) c9)) (by have := set_laid (i := 3) HBK.out (.slice a9 (ps.length + n) c9); exact cell_laid (i := 0) this rfl) ((Below.heap_setCell _ _ _ _ (by show 1 ≠ R; have := HG.out.two; have := HJ.out.lo; omega)).trans hG1)
    clear ho' hg' hm' hG1
    go_wp2
    refine hR' _ _ hC1 ?_
    repeat (refine wpMix2_q rfl rfl ?_; go_big_quiet_step (fail); refine wpQuiet_nil ?_)
    refine wpMix2_h rfl fun R' hR' hO => ?_
    go_wp2
    refine hR' _ _ hC2 ?_
    refine wpMix2_done ?_
    simp only [List.drop_succ_cons, List.drop_nil]
    go_wp2
    refine bodyPost_end (results_none rfl _ _ _) rfl ?_
    refine ⟨⟨_, rfl⟩, .slice a9 (ps.length + n) c9, ?_⟩
    rw [HN.out, HAA.out]
    exact HF.out
  · refine wpMix2_h rfl fun R' hR' hO => ?_
    go_wp2_with fail
    refine (HPA.out _).mono ?_
    rintro e w1 ⟨rfl, hb01⟩
    have hb1 := step hb0 hb01
    go_wp2
    refine hR' _ _ (H8.out _ hb1) ?_
    repeat (refine wpMix2_q rfl rfl ?_; go_big_quiet_step (fail); refine wpQuiet_nil ?_)
    refine wpMix2_h2 ?_ ?_
    · refine wpMix2_h rfl fun R' hR' hO => ?_
      have c5 := cell_laid (i := 3) (HJ.out.grow hb1).blk rfl
      go_wp2
      refine hR' _ _ (H8.out _ hb1) ?_
      refine wpMix2_h rfl fun R' hR' hO => ?_
      obtain ⟨w2, hw2, hb12, hs2, hl2⟩ := laid w1 #[.int .i64 ((A : Nat) : Int)] 3
      have hb2 := step hb1 hb12
      obtain ⟨M, hM⟩ : ∃ M, w1.heap.size = M := ⟨_, rfl⟩
      rw [hM] at hl2 hs2
      have HCM := hid (cell_laid (i := 0) hl2 rfl)
      have hMlt : M < w2.heap.size := by omega
      clear hl2 hs2
      go_wp2
      refine hR' _ _ (H8.out _ hb2) ?_
      refine wpMix2_h rfl fun R' hR' hO => ?_
      go_wp2_with fail
      refine (Repeat_any ((A : Nat) : Int) n M w2 HCM.out hMlt (by omega)).mono ?_
      rintro e w3 ⟨G, rfl, ho3, hb23⟩
      have HO3 := hid ho3
      have hb3 := step hb2 hb23
      clear ho3
      go_wp2
      refine hR' _ _ (H8.out _ hb3) ?_
      refine wpMix2_h rfl fun R' hR' hO => ?_
      have HJ3 := hid (HJ.out.grow hb3)
      have HP3 := hid HJ3.out.pick
      refine wp_appendM elemInts rfl (.tmp 23) (.tmp 36) rfl base (.slice pa ps.length pc) ps.length (icells ps) rfl HP3.out ⟨G, 0, none⟩ n n (List.replicate n (icell ((A : Nat) : Int))) rfl (by simp) ?_ ?_ ?_ ?_ ?_
      · exact HO3.out.cells (g := G) rfl
      · intro u hu
        rw [List.eq_of_mem_replicate hu]
        rfl
      · omega
      · have := lt_laid HJ3.out.tab; have := HJ3.out.lo; omega
      intro v' W' ho' hg' hm'
      have HF := hid (HJ3.out.picks (ps' := ps ++ List.replicate n ((A : Nat) : Int)) (by rw [icells_app, List.length_append, List.length_replicate]; exact ho') hg')
      have HBK := hid (HJ3.out.picks_blk hg')
      obtain ⟨a9, c9, rfl, -⟩ := Leads.of_own ho'
      have t9 := free_laid (i := 3) HBK.out
      have t8 := cell_laid (i := 3) HBK.out rfl
      have hG1 : W'.heap[1]? = W.heap[1]? := (hg'.block 1 (by have := HG.out.two; have := hb3.size; omega) (fun e => by have := (HP3.out.lt 1 e.symm).1; have := HG.out.two; have := HJ.out.lo; omega)).trans (hb3.block 1 (by have := HG.out.two; omega))
      have hC1 := H8b.out W' (cell_laid HBK.out rfl) hG1
      have hC2 := H8b.out (W'.setCell ⟨R, 3, none⟩ (.slice a9 (ps.length + n) c9)) (by have := set_laid (i := 3) HBK.out (.slice a9 (ps.length + n) c9); exact cell_laid (i := 0) this rfl) ((Below.heap_setCell _ _ _ _ (by show 1 ≠ R; have := HG.out.two; have := HJ.out.lo; omega)).trans hG1)
      clear ho' hg' hm' hG1
      go_wp2
      refine hR' _ _ hC1 ?_
      repeat (refine wpMix2_q rfl rfl ?_; go_big_quiet_step (fail); refine wpQuiet_nil ?_)
      refine wpMix2_h rfl fun R' hR' hO => ?_
      go_wp2
      refine hR' _ _ hC2 ?_
      refine wpMix2_done ?_
      simp only [List.drop_succ_cons, List.drop_nil]
      go_wp2
      refine bodyPost_end (results_none rfl _ _ _) rfl ?_
      refine ⟨⟨_, rfl⟩, .slice a9 (ps.length + n) c9, ?_⟩
      rw [HN.out, HAA.out]
      exact HF.out
    · refine wpMix2_h rfl fun R' hR' hO => ?_
      obtain ⟨w2, hw2, hb12, hs2, hl2⟩ := laid w1 #[.int .i64 ((A : Nat) : Int)] 3
      have hb2 := step hb1 hb12
      obtain ⟨M, hM⟩ : ∃ M, w1.heap.size = M := ⟨_, rfl⟩
      rw [hM] at hl2 hs2
      have HCM := hid (cell_laid (i := 0) hl2 rfl)
      have hMlt : M < w2.heap.size := by omega
      clear hl2 hs2
      go_wp2
      refine hR' _ _ (H8.out _ hb2) ?_
      refine wpMix2_h2 ?_ ?_
      · refine wpMix2_h rfl fun R' hR' hO => ?_
        have c5 := cell_laid (i := 3) (HJ.out.grow hb2).blk rfl
        go_wp2
        refine hR' _ _ (H8.out _ hb2) ?_
        refine wpMix2_h rfl fun R' hR' hO => ?_
        go_wp2_with fail
        refine (Repeat_any ((A : Nat) : Int) n M w2 HCM.out hMlt (by omega)).mono ?_
        rintro e w3 ⟨G, rfl, ho3, hb23⟩
        have HO3 := hid ho3
        have hb3 := step hb2 hb23
        clear ho3
        go_wp2
        refine hR' _ _ (H8.out _ hb3) ?_
        refine wpMix2_h rfl fun R' hR' hO => ?_
        have HJ3 := hid (HJ.out.grow hb3)
        have HP3 := hid HJ3.out.pick
        refine wp_appendM elemInts rfl (.tmp 23) (.tmp 36) rfl base (.slice pa ps.length pc) ps.length (icells ps) rfl HP3.out ⟨G, 0, none⟩ n n (List.replicate n (icell ((A : Nat) : Int))) rfl (by simp) ?_ ?_ ?_ ?_ ?_
        · exact HO3.out.cells (g := G) rfl
        · intro u hu
          rw [List.eq_of_mem_replicate hu]
          rfl
        · omega
        · have := lt_laid HJ3.out.tab; have := HJ3.out.lo; omega
        intro v' W' ho' hg' hm'
        have HF := hid (HJ3.out.picks (ps' := ps ++ List.replicate n ((A : Nat) : Int)) (by rw [icells_app, List.length_append, List.length_replicate]; exact ho') hg')
        have HBK := hid (HJ3.out.picks_blk hg')
        obtain ⟨a9, c9, rfl, -⟩ := Leads.of_own ho'
        have t9 := free_laid (i := 3) HBK.out
        have t8 := cell_laid (i := 3) HBK.out rfl
        have hG1 : W'.heap[1]? = W.heap[1]? := (hg'.block 1 (by have := HG.out.two; have := hb3.size; omega) (fun e => by have := (HP3.out.lt 1 e.symm).1; have := HG.out.two; have := HJ.out.lo; omega)).trans (hb3.block 1 (by have := HG.out.two; omega))
        have hC1 := H8b.out W' (cell_laid HBK.out rfl) hG1
        have hC2 := H8b.out (W'.setCell ⟨R, 3, none⟩ (.slice a9 (ps.length + n) c9)) (by have := set_laid (i := 3) HBK.out (.slice a9 (ps.length + n) c9); exact cell_laid (i := 0) this rfl) ((Below.heap_setCell _ _ _ _ (by show 1 ≠ R; have := HG.out.two; have := HJ.out.lo; omega)).trans hG1)
        clear ho' hg' hm' hG1
        go_wp2
        refine hR' _ _ hC1 ?_
        repeat (refine wpMix2_q rfl rfl ?_; go_big_quiet_step (fail); refine wpQuiet_nil ?_)
        refine wpMix2_h rfl fun R' hR' hO => ?_
        go_wp2
        refine hR' _ _ hC2 ?_
        refine wpMix2_done ?_
        simp only [List.drop_succ_cons, List.drop_nil]
        go_wp2
        refine bodyPost_end (results_none rfl _ _ _) rfl ?_
        refine ⟨⟨_, rfl⟩, .slice a9 (ps.length + n) c9, ?_⟩
        rw [HN.out, HAA.out]
        exact HF.out
      · refine wpMix2_h rfl fun R' hR' hO => ?_
        go_wp2_with fail
        refine (Repeat_any ((A : Nat) : Int) n M w2 HCM.out hMlt (by omega)).mono ?_
        rintro e w3 ⟨G, rfl, ho3, hb23⟩
        have HO3 := hid ho3
        have hb3 := step hb2 hb23
        clear ho3
        go_wp2
        refine hR' _ _ (H8.out _ hb3) ?_
        refine wpMix2_h rfl fun R' hR' hO => ?_
        have c5 := cell_laid (i := 3) (HJ.out.grow hb3).blk rfl
        go_wp2
        refine hR' _ _ (H8.out _ hb3) ?_
        refine wpMix2_h rfl fun R' hR' hO => ?_
        have HJ3 := hid (HJ.out.grow hb3)
        have HP3 := hid HJ3.out.pick
        refine wp_appendM elemInts rfl (.tmp 23) (.tmp 36) rfl base (.slice pa ps.length pc) ps.length (icells ps) rfl HP3.out ⟨G, 0, none⟩ n n (List.replicate n (icell ((A : Nat) : Int))) rfl (by simp) ?_ ?_ ?_ ?_ ?_
        · exact HO3.out.cells (g := G) rfl
        · intro u hu
          rw [List.eq_of_mem_replicate hu]
          rfl
        · omega
        · have := lt_laid HJ3.out.tab; have := HJ3.out.lo; omega
        intro v' W' ho' hg' hm'
        have HF := hid (HJ3.out.picks (ps' := ps ++ List.replicate n ((A : Nat) : Int)) (by rw [icells_app, List.length_append, List.length_replicate]; exact ho') hg')
        have HBK := hid (HJ3.out.picks_blk hg')
        obtain ⟨a9, c9, rfl, -⟩ := Leads.of_own ho'
        have t9 := free_laid (i := 3) HBK.out
        have t8 := cell_laid (i := 3) HBK.out rfl
        have hG1 : W'.heap[1]? = W.heap[1]? := (hg'.block 1 (by have := HG.out.two; have := hb3.size; omega) (fun e => by have := (HP3.out.lt 1 e.symm).1; have := HG.out.two; have := HJ.out.lo; omega)).trans (hb3.block 1 (by have := HG.out.two; omega))
        have hC1 := H8b.out W' (cell_laid HBK.out rfl) hG1
        have hC2 := H8b.out (W'.setCell ⟨R, 3, none⟩ (.slice a9 (ps.length + n) c9)) (by have := set_laid (i := 3) HBK.out (.slice a9 (ps.length + n) c9); exact cell_laid (i := 0) this rfl) ((Below.heap_setCell _ _ _ _ (by show 1 ≠ R; have := HG.out.two; have := HJ.out.lo; omega)).trans hG1)
        clear ho' hg' hm' hG1
        go_wp2
        refine hR' _ _ hC1 ?_
        repeat (refine wpMix2_q rfl rfl ?_; go_big_quiet_step (fail); refine wpQuiet_nil ?_)
        refine wpMix2_h rfl fun R' hR' hO => ?_
        go_wp2
        refine hR' _ _ hC2 ?_
        refine wpMix2_done ?_
        simp only [List.drop_succ_cons, List.drop_nil]
        go_wp2
        refine bodyPost_end (results_none rfl _ _ _) rfl ?_
        refine ⟨⟨_, rfl⟩, .slice a9 (ps.length + n) c9, ?_⟩
        rw [HN.out, HAA.out]
        exact HF.out
end Go.Proofs.YtpehnahmdfoobaaDoor
