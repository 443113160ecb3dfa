/- Scripts: own. -/
import Derived.Test.YtpehnahmdfoobaaDoorScript14
namespace Go.Proofs.YtpehnahmdfoobaaDoor
open Go.RowKit
open Go.Proofs
set_option linter.unusedVariables false

theorem icells_take (l : List Int) (n : Nat) : icells (l.take n) = (icells l).take n := by simp [icells]
theorem Leads.itake {w : World} {a : Option Addr} {n c m : Nat} {l : List Int} (h : Leads w a n c (icells l)) (hl : l.length = n) (hm : m ≤ n) : Leads w a m c (icells (l.take m)) := by
  obtain ⟨h1, h2, ⟨h, h'⟩ | ⟨b, off, e, h3, h4⟩⟩ := h
  · have hl0 : l = [] := List.eq_nil_of_length_eq_zero (by omega)
    subst hl0
    exact ⟨by omega, h2, .inl ⟨by omega, by simp [icells]⟩⟩
  · refine ⟨by omega, h2, .inr ⟨b, off, e, h3, fun i v hv => h4 i v ?_⟩⟩
    rw [icells_take, List.getElem?_take] at hv
    split at hv
    · exact hv
    · cases hv
theorem flat_len (cs : List (List Nat)) (h : ∀ q ∈ cs, q.length = 5) : cs.flatten.length = cs.length * 5 := by
  induction cs with
  | nil => rfl
  | cons q r ih =>
    rw [List.flatten_cons, List.length_append, h q (List.mem_cons_self ..), ih (fun q hq => h q (List.mem_cons_of_mem _ hq)), List.length_cons]
    omega
theorem Leads.ctake {w : World} {a : Option Addr} {n c m : Nat} {cs : List (List Nat)} (h : Leads w a n c (wcells cs.flatten)) (hl : cs.length = n) (hm : m ≤ n) (h5 : ∀ q ∈ cs, q.length = 5) : Leads w a m c (wcells (cs.take m).flatten) := by
  have hsplit : cs.flatten = (cs.take m).flatten ++ (cs.drop m).flatten := by rw [← List.flatten_append, List.take_append_drop]
  obtain ⟨h1, h2, ⟨h, h'⟩ | ⟨b, off, e, h3, h4⟩⟩ := h
  · have hl0 : cs = [] := List.eq_nil_of_length_eq_zero (by omega)
    subst hl0
    exact ⟨by omega, h2, .inl ⟨by omega, by simp [wcells]⟩⟩
  · refine ⟨by omega, h2, .inr ⟨b, off, e, h3, fun i v hv => h4 i v ?_⟩⟩
    rw [hsplit]
    unfold wcells at *
    rw [List.map_append, List.getElem?_append_left (List.getElem?_eq_some_iff.1 hv).1]
    exact hv
/-- A script in memory of its own. -/
structure OwnS (Y base : Nat) (C P : Int) (ls : List (List (List Nat))) (ps : List Int) (lv pv : Value) (vs : List Value) (w W : World) : Prop where
  blk : W.heap[Y]? = some (.cells #[.int .i64 C, .int .i64 P, lv, pv] 35 (0, 0))
  lrow : W.ownsRow base 46 1 lv ls.length vs
  row : ∀ (i : Nat) (v : Value) (cs : List (List Nat)), vs[i]? = some v → ls[i]? = some cs → W.ownsRow base 53 5 v cs.length (wcells cs.flatten)
  pick : W.ownsRow base 3 1 pv ps.length (icells ps)
  below : Below w.heap.size w W
  lo : w.heap.size ≤ base ∧ base ≤ W.heap.size ∧ base ≤ Y
theorem OwnS.grow {Y base : Nat} {C P : Int} {ls : List (List (List Nat))} {ps : List Int} {lv pv : Value} {vs : List Value} {w W W' : World} (h : OwnS Y base C P ls ps lv pv vs w W) (hb : Below W.heap.size W W') : OwnS Y base C P ls ps lv pv vs w W' :=
  ⟨keep_laid h.blk hb, own_grow h.lrow hb, fun i v cs hi hc => own_grow (h.row i v cs hi hc) hb, own_grow h.pick hb, step h.below hb, by have := h.lo; have := hb.size; omega⟩
theorem OwnS.blk_grown {Y base : Nat} {C P : Int} {ls : List (List (List Nat))} {ps : List Int} {lv pv : Value} {vs : List Value} {w W W' : World} (h : OwnS Y base C P ls ps lv pv vs w W) (hg : W.grownBy W' lv.ownBlock) : W'.heap[Y]? = some (.cells #[.int .i64 C, .int .i64 P, lv, pv] 35 (0, 0)) :=
  keep_grown h.blk hg fun e => by
    obtain ⟨cur, hc⟩ := own_type h.lrow Y e
    exact type_ne hc h.blk (by decide) rfl
theorem OwnS.app {Y base : Nat} {C P : Int} {ls : List (List (List Nat))} {ps : List Int} {lv pv lv' v' : Value} {vs : List Value} {cs : List (List Nat)} {w W W' : World} (h : OwnS Y base C P ls ps lv pv vs w W) (hg : W.grownBy W' lv.ownBlock)
    (ho : W'.ownsRow base 46 1 lv' (ls.length + 1) (vs ++ [v'])) (hv : W.ownsRow base 53 5 v' cs.length (wcells cs.flatten)) : OwnS Y base C P (ls ++ [cs]) ps lv' pv (vs ++ [v']) w (W'.setCell ⟨Y, 2, none⟩ lv') := by
  have hblk := h.blk_grown hg
  have hvl : vs.length = ls.length := by have := h.lrow.1; omega
  have keepC : ∀ (v : Value) (cs : List (List Nat)), W.ownsRow base 53 5 v cs.length (wcells cs.flatten) → (W'.setCell ⟨Y, 2, none⟩ lv').ownsRow base 53 5 v cs.length (wcells cs.flatten) := fun v cs hr => own_keep hr (fun k o hk hh => by
    obtain ⟨cur, hc⟩ := own_type hr k hk
    refine other_laid (keep_grown hh hg ?_) (type_ne hc h.blk (by decide)) _
    intro e
    obtain ⟨cur', hc'⟩ := own_type h.lrow k e
    exact type_ne hc hc' (by decide) rfl)
  refine ⟨set_laid hblk _, ?_, ?_, ?_, ?_, ?_⟩
  · rw [List.length_append]
    exact own_keep ho (fun k o hk hh => by
      obtain ⟨cur, hc⟩ := own_type ho k hk
      exact other_laid hh (type_ne hc hblk (by decide)) _)
  · intro i v cs' hi hc
    rw [List.getElem?_append] at hi hc
    split at hi
    · rw [if_pos (by omega)] at hc
      exact keepC v cs' (h.row i v cs' hi hc)
    · rw [if_neg (by omega)] at hc
      have e1 : i - vs.length = 0 := by
        have := (List.getElem?_eq_some_iff.1 hi).1
        simp at this
        omega
      have e2 : i - ls.length = 0 := by omega
      rw [e1] at hi
      rw [e2] at hc
      cases hi
      cases hc
      exact keepC v' cs hv
  · exact own_keep h.pick (fun k o hk hh => by
      obtain ⟨cur, hc⟩ := own_type h.pick k hk
      refine other_laid (keep_grown hh hg ?_) (type_ne hc h.blk (by decide)) _
      intro e
      obtain ⟨cur', hc'⟩ := own_type h.lrow k e
      exact type_ne hc hc' (by decide) rfl)
  · refine (h.below.trans ((own_below h.lrow hg h.lo.2.1).mono (by have := h.lo; omega))).setCell ?_ _
    show w.heap.size ≤ Y
    have := h.lo; omega
  · have := h.lo
    have := hg.size
    have hs : (W'.setCell ⟨Y, 2, none⟩ lv').heap.size = W'.heap.size := by simp [World.setCell]
    omega
theorem own_result {W : World} {b : Nat} {v0 v1 v2 v3 : Value} {tmps : Array Value} (h : W.heap[b]? = some (.cells #[v0, v1, v2, v3] 35 (0, 0))) (hp : tmps[2]?.getD undef = .pointer (some ⟨b, 0, none⟩)) :
    (results Tryd.f17 tmps).run Tryd.prog W = .ok (.agg #[v0, v1, v2, v3]) W := by
  have h0 := cell_laid (i := 0) (v := v0) h rfl
  have h1 := cell_laid (i := 1) (v := v1) h rfl
  have h2 := cell_laid (i := 2) (v := v2) h rfl
  have h3 := cell_laid (i := 3) (v := v3) h rfl
  simp [results, Tryd.results17, go_sem, hp, h0, h1, h2, h3]
theorem OwnS.setZ {Y base Z i : Nat} {C P : Int} {ls : List (List (List Nat))} {ps : List Int} {lv pv : Value} {vs : List Value} {w W : World} (h : OwnS Y base C P ls ps lv pv vs w W) (v : Value) (h1 : Z < base) (h2 : w.heap.size ≤ Z) : OwnS Y base C P ls ps lv pv vs w (W.setCell ⟨Z, i, none⟩ v) := by
  have hk : ∀ (k : Nat) (o : Obj), base ≤ k → W.heap[k]? = some o → (W.setCell ⟨Z, i, none⟩ v).heap[k]? = some o := fun k o hk ho => other_laid ho (by omega) _
  have hl := h.lo
  exact ⟨hk _ _ hl.2.2 h.blk, own_keep h.lrow (fun k o hb ho => hk k o (h.lrow.lt k hb).1 ho), fun j u cs hi hc => own_keep (h.row j u cs hi hc) (fun k o hb ho => hk k o ((h.row j u cs hi hc).lt k hb).1 ho), own_keep h.pick (fun k o hb ho => hk k o (h.pick.lt k hb).1 ho), h.below.setCell (by show w.heap.size ≤ Z; exact h2) _, by
    have hs : (W.setCell ⟨Z, i, none⟩ v).heap.size = W.heap.size := by simp [World.setCell]
    omega⟩
theorem OwnS.lower {Y base : Nat} {C P : Int} {ls : List (List (List Nat))} {ps : List Int} {lv pv : Value} {vs : List Value} {w0 w W : World} (h : OwnS Y base C P ls ps lv pv vs w W) (hb : Below w0.heap.size w0 w) : OwnS Y base C P ls ps lv pv vs w0 W :=
  ⟨h.blk, h.lrow, h.row, h.pick, step hb h.below, by have := h.lo; have := hb.size; omega⟩

theorem own_init {Y base : Nat} {C P : Int} {ps : List Int} {pv : Value} {w W : World} (hb : w.heap.size = base) (hY : base ≤ Y) (hl : W.heap[Y]? = some (.cells #[.int .i64 0, .int .i64 0, .slice none 0 0, .slice none 0 0] 35 (0, 0))) (hp : W.ownsRow base 3 1 pv ps.length (icells ps)) (hw : Below w.heap.size w W) :
    OwnS Y base C P [] ps (.slice none 0 0) pv [] w ((((W.setCell ⟨Y, 0, none⟩ (.int .i64 C)).setCell ⟨Y, 1, none⟩ (.int .i64 P)).setCell ⟨Y, 2, none⟩ (.slice none 0 0)).setCell ⟨Y, 3, none⟩ pv) := by
  have hne : ∀ k, pv.ownBlock = some k → k ≠ Y := fun k hk => by
    obtain ⟨cur, hc⟩ := own_type hp k hk
    exact type_ne hc hl (by decide)
  have hlt := lt_laid hl
  refine ⟨set_laid (i := 3) (set_laid (i := 2) (set_laid (i := 1) (set_laid (i := 0) hl _) _) _) _, World.ownsRow_nil _ _ _ _, (fun i v cs hi _ => by cases hi), own_keep hp (fun k o hk hh => other_laid (other_laid (other_laid (other_laid hh (hne k hk) _) (hne k hk) _) (hne k hk) _) (hne k hk) _), (((hw.setCell (by show w.heap.size ≤ Y; omega) _).setCell (by show w.heap.size ≤ Y; omega) _).setCell (by show w.heap.size ≤ Y; omega) _).setCell (by show w.heap.size ≤ Y; omega) _, ?_⟩
  simp [World.setCell]
  omega

def ownS (S : Scr) : Scr := ⟨S.C, S.P, (S.ls.take 10).map (·.take 70), S.ps.take 5000⟩
structure OwnR (Y : Nat) (lv : Value) where
  v : World
  y2 : v.cell? ⟨Y, 2, none⟩ = some lv

set_option maxRecDepth 100000 in
set_option maxHeartbeats 4000000 in
theorem own_any (S : Scr) (la pa : Option Addr) (lc pc : Nat) (vs : List Value) (w : World) (hS : S.Ok) (h : ScrL w la lc vs pa pc S) :
    Calls Tryd.prog 17 #[scrV la lc pa pc S] w (fun e W => ∃ Y base lv pv vs', e = .returned (.agg #[.int .i64 S.C, .int .i64 S.P, lv, pv]) ∧ OwnS Y base S.C S.P (ownS S).ls (ownS S).ps lv pv vs' w W) := by
  obtain ⟨w1, hw1, hb1, hs1, hl1⟩ := laid w #[.int .i64 S.C, .int .i64 S.P, .slice la S.ls.length lc, .slice pa S.ps.length pc] 35
  obtain ⟨w2, hw2, hb2, hs2, hl2⟩ := laid w1 #[.int .i64 0, .int .i64 0, .slice none 0 0, .slice none 0 0] 35
  have hl1' := keep_laid hl1 hb2
  have hb02 := step hb1 hb2
  obtain ⟨X, hX⟩ : ∃ X, w.heap.size = X := ⟨_, rfl⟩
  rw [hX] at hl1' hs1
  rw [hs1] at hl2 hs2
  have HS := hid (h.grow hb02)
  have HOK := hid hS
  have HB02 := hid hb02
  have HX := hid hX
  obtain ⟨C, P, ls, ps⟩ := S
  dsimp only at *
  unfold scrV ownS
  dsimp only
  have hls := h.lists.len.1
  have hps := h.picks.len.1
  have hlc := h.lists.1
  have hpc := h.picks.1
  have hlc2 := h.lists.len.2
  have hpc2 := h.picks.len.2
  dsimp only at hls hps hlc hpc
  have HL1 := hid hl1'
  have HL2 := hid hl2
  have HS1 := hid hs1
  have HS2 := hid hs2
  clear h hS hl1 hl1' hl2 hb02 hs1 hs2 hX
  obtain ⟨nl, hnl⟩ : ∃ nl, ls.length = nl := ⟨_, rfl⟩
  obtain ⟨np, hnp⟩ : ∃ np, ps.length = np := ⟨_, rfl⟩
  rw [hnl] at hw1 HL1 hls hlc ⊢
  rw [hnp] at hw1 HL1 hps hpc ⊢
  have HNL := hid hnl
  have HNP := hid hnp
  clear hnl hnp
  obtain ⟨m, hm⟩ : ∃ m, min np 5000 = m := ⟨_, rfl⟩
  have hmI : min ((np : Nat) : Int) 5000 = ((m : Nat) : Int) := by omega
  have hmn : m ≤ np := by omega
  have hm5 : m ≤ 5000 := by omega
  have hmc : m ≤ pc := by omega
  have HTK : Hid (ps.take 5000 = ps.take m) := hid (by
    rw [← hm, ← HNP.out]
    rcases Nat.le_total ps.length 5000 with hh | hh
    · rw [Nat.min_eq_left hh, List.take_of_length_le hh, List.take_of_length_le (Nat.le_refl _)]
    · rw [Nat.min_eq_right hh])
  have HTL : Hid ((ps.take m).length = m) := hid (by rw [List.length_take, HNP.out]; omega)
  clear hm
  have HCI : Hid (∀ W, Below w2.heap.size w2 W → Calls Tryd.prog 31 #[.slice pa m pc] W (Fresh 3 1 m (icells (ps.take m)) W)) := hid (fun W hW => by
    have hp := (HS.out.grow hW).picks
    dsimp only at hp
    rw [HNP.out] at hp
    exact CloneI_any pa m pc _ W (hp.itake HNP.out hmn) (by rw [icells, List.length_map, HTL.out, Nat.mul_one]) (by omega) (fun u hu => by
      obtain ⟨z, -, rfl⟩ := List.mem_map.1 hu
      rfl))
  have f0 : ∀ z : Ext w2, z.v.cell? ⟨X, 0, none⟩ = some (.int .i64 C) := fun z => cell_laid (keep_laid HL1.out z.b) rfl
  have f1 : ∀ z : Ext w2, z.v.cell? ⟨X, 1, none⟩ = some (.int .i64 P) := fun z => cell_laid (keep_laid HL1.out z.b) rfl
  have f3 : ∀ z : Ext w2, z.v.cell? ⟨X, 3, none⟩ = some (.slice pa np pc) := fun z => cell_laid (keep_laid HL1.out z.b) rfl
  have hm0 : (0 : Int) ≤ ((m : Nat) : Int) := by omega
  have hmcI : ((m : Nat) : Int) ≤ ((pc : Nat) : Int) := by omega
  go_enter Tryd.func17, Tryd.ntmps17
  go_upto_region 1 with (fail)
  rw [HX.out, HS1.out]
  go_cut [3] (fun t3 ws => ∃ Y pv, t3 = .pointer (some ⟨Y, 0, none⟩) ∧ OwnS Y w2.heap.size C P [] (ps.take m) (.slice none 0 0) pv [] w2 ws)
  case first =>
    refine wp_region_mix2 (fun w' => ∃ z : Ext w2, w' = z.v) 14 (.q 0 (.q 1 (.q 2 (.q 3 (.q 4 (.q 5 (.q 6 (.q 7 (.q 8 (.q 9 (.q 10 (.h2 11 (.q 12 (.h 13 (.done))) 13 (.h 11 (.q 12 (.done))))))))))))))) (by kernel_rfl) (by kernel_rfl) ⟨⟨_, (Below.refl _ _).drew⟩, rfl⟩ ?_
    repeat (refine wpMix2_q rfl rfl ?_; go_big_quiet_step (fail); refine wpQuiet_nil ?_)
    refine wpMix2_h2 ?_ ?_
    · refine wpMix2_h rfl fun R' hR' hO => ?_
      go_wp2_with fail
      refine (HCI.out _ (Below.refl _ _).drew).mono ?_
      rintro e w3 ⟨v3, rfl, ho3, hb3⟩
      have hb23 : Below w2.heap.size w2 w3 := (Below.refl _ _).drew.trans hb3
      obtain ⟨a3, c3, rfl, -⟩ := Leads.of_own ho3
      obtain ⟨w4, hw4, hb4, hs4, hl4⟩ := laid w3 #[.int .i64 0, .int .i64 0, .slice none 0 0, .slice none 0 0] 35
      obtain ⟨Y, hY⟩ : ∃ Y, w3.heap.size = Y := ⟨_, rfl⟩
      have hYg : w2.heap.size ≤ Y := by rw [← hY]; exact hb23.size
      rw [hY] at hl4 hs4
      have HY4 := hid hl4
      have HO4 : Hid (w4.ownsRow w2.heap.size 3 1 (.slice a3 m c3) m (icells (ps.take m))) := hid (own_grow ho3 hb4)
      have HB4 := hid (step hb23 hb4)
      clear ho3 hl4 hs4
      go_wp2
      refine hR' _ _ ⟨⟨_, hb23⟩, rfl⟩ ?_
      repeat (refine wpMix2_q rfl rfl ?_; go_big_quiet_step (fail); refine wpQuiet_nil ?_)
      refine wpMix2_h rfl fun R' hR' hO => ?_
      go_wp2
      refine hR' _ _ ⟨⟨_, HB4.out⟩, rfl⟩ ?_
      have y0 := free_laid (i := 0) HY4.out
      have y1 := free_laid (i := 1) HY4.out
      have y2 := free_laid (i := 2) HY4.out
      have y3 := free_laid (i := 3) HY4.out
      have z0 := cell_laid (i := 0) HY4.out rfl
      have z1 := cell_laid (i := 1) HY4.out rfl
      have z2 := cell_laid (i := 2) HY4.out rfl
      have z3 := cell_laid (i := 3) HY4.out rfl
      have HOI := hid (own_init (C := C) (P := P) (ps := ps.take m) rfl hYg HY4.out (by rw [HTL.out]; exact HO4.out) HB4.out)
      refine wpMix2_done ?_
      simp only [List.drop_succ_cons, List.drop_zero]
      go_wp2
      go_meet
      exact ⟨Y, _, rfl, HOI.out⟩
    · refine wpMix2_h rfl fun R' hR' hO => ?_
      obtain ⟨w3, hw3, hb3, hs3, hl3⟩ := laid w2.drew #[.int .i64 0, .int .i64 0, .slice none 0 0, .slice none 0 0] 35
      obtain ⟨Y, hY⟩ : ∃ Y, w2.heap.size = Y := ⟨_, rfl⟩
      have hY' : w2.drew.heap.size = Y := hY
      have hYg : w2.heap.size ≤ Y := by omega
      rw [hY'] at hl3 hs3
      have hb23 : Below w2.heap.size w2 w3 := (Below.refl _ _).drew.trans hb3
      have HL3 := hid hl3
      clear hl3 hs3
      go_wp2
      refine hR' _ _ ⟨⟨_, hb23⟩, rfl⟩ ?_
      refine wpMix2_h rfl fun R' hR' hO => ?_
      go_wp2_with fail
      refine (HCI.out _ hb23).mono ?_
      rintro e w4 ⟨v3, rfl, ho3, hb4⟩
      obtain ⟨a3, c3, rfl, -⟩ := Leads.of_own ho3
      have HY4 := hid (keep_laid HL3.out hb4)
      have HO4 : Hid (w4.ownsRow w2.heap.size 3 1 (.slice a3 m c3) m (icells (ps.take m))) := hid (own_base ho3 hb23.size)
      have HB4 := hid (step hb23 hb4)
      clear ho3
      go_wp2
      refine hR' _ _ ⟨⟨_, HB4.out⟩, rfl⟩ ?_
      repeat (refine wpMix2_q rfl rfl ?_; go_big_quiet_step (fail); refine wpQuiet_nil ?_)
      have y0 := free_laid (i := 0) HY4.out
      have y1 := free_laid (i := 1) HY4.out
      have y2 := free_laid (i := 2) HY4.out
      have y3 := free_laid (i := 3) HY4.out
      have z0 := cell_laid (i := 0) HY4.out rfl
      have z1 := cell_laid (i := 1) HY4.out rfl
      have z2 := cell_laid (i := 2) HY4.out rfl
      have z3 := cell_laid (i := 3) HY4.out rfl
      have HOI := hid (own_init (C := C) (P := P) (ps := ps.take m) rfl hYg HY4.out (by rw [HTL.out]; exact HO4.out) HB4.out)
      refine wpMix2_done ?_
      simp only [List.drop_succ_cons, List.drop_zero]
      go_wp2
      go_meet
      exact ⟨Y, _, rfl, HOI.out⟩
  case rest =>
    obtain ⟨Y, pv, rfl, hO⟩ := hcut
    have HO := hid hO
    obtain ⟨pva, pvc, rfl, -⟩ := Leads.of_own hO.pick
    have hbl := hO.below
    have g2 : wc.cell? ⟨X, 2, none⟩ = some (.slice la nl lc) := cell_laid (keep_laid HL1.out hbl) rfl
    clear hO f0 f1 f3 hbl
    go_wp2
    go_loopg [4, 5, 22] nl (fun g _ _ i wr => ∃ (k : Nat) (lv : Value) (vs' : List Value), g + k = nl ∧ i = .int .i64 (k : Nat) ∧ OwnS Y w2.heap.size C P ((ls.take (min k 10)).map (·.take 70)) (ps.take m) lv (.slice pva (ps.take m).length pvc) vs' w2 wr)
    case atStart => exact ⟨0, _, [], rfl, rfl, by simpa using HO.out⟩
    case round =>
      obtain ⟨k, lv, vs', hk, rfl, hO⟩ := hrel
      have HK := hid hk
      have HOR := hid hO
      clear hk hO
      by_cases hlt : k < nl
      · obtain ⟨cs, hck⟩ : ∃ x, ls[k]? = some x := ⟨_, List.getElem?_eq_getElem (by rw [HNL.out]; exact hlt)⟩
        obtain ⟨v, hvk⟩ : ∃ x, vs[k]? = some x := ⟨_, List.getElem?_eq_getElem (by rw [HS.out.len]; dsimp only; rw [HNL.out]; exact hlt)⟩
        have hHSl := (HS.out.grow HOR.out.below).lists
        dsimp only at hHSl
        rw [HNL.out] at hHSl
        obtain ⟨b', off, rfl, -, hc⟩ := hHSl.at hlt hvk
        obtain ⟨va, vc, rfl, hvl⟩ := HS.out.rows k v cs hvk hck
        have hf1 := hc wr (Below.refl _ _)
        obtain ⟨nc, hnc⟩ : ∃ nc, cs.length = nc := ⟨_, rfl⟩
        rw [hnc] at hvl hf1
        have hvc := hvl.1
        have hvc2 := hvl.len.2
        have hvn := hvl.len.1
        obtain ⟨mm, hmm⟩ : ∃ mm, min nc 70 = mm := ⟨_, rfl⟩
        have hmmI : min ((nc : Nat) : Int) 70 = ((mm : Nat) : Int) := by omega
        have hmmn : mm ≤ nc := by omega
        have hmm70 : mm ≤ 70 := by omega
        have hmm0 : (0 : Int) ≤ ((mm : Nat) : Int) := by omega
        have hmmc : ((mm : Nat) : Int) ≤ ((vc : Nat) : Int) := by omega
        have h5 := HOK.out.five cs (List.mem_of_getElem? hck)
        have HTC : Hid (cs.take 70 = cs.take mm) := hid (by
          rw [← hmm, ← hnc]
          rcases Nat.le_total cs.length 70 with hh | hh
          · rw [Nat.min_eq_left hh, List.take_of_length_le hh, List.take_of_length_le (Nat.le_refl _)]
          · rw [Nat.min_eq_right hh])
        have HML : Hid ((cs.take mm).length = mm) := hid (by rw [List.length_take, hnc]; omega)
        have HCC : Hid (∀ W, Below w2.heap.size w2 W → Calls Tryd.prog 32 #[.slice va mm vc] W (Fresh 53 5 mm (wcells (cs.take mm).flatten) W)) := hid (fun W hW => CloneC_any va mm vc _ W ((hvl.grow hW).ctake hnc hmmn h5) (by rw [wcells, List.length_map, flat_len _ (fun q hq => h5 q (List.mem_of_mem_take hq)), HML.out]) (by omega) (fun u hu => by
          obtain ⟨z, -, rfl⟩ := List.mem_map.1 hu
          rfl))
        have HMP : Hid (k < 10 → (ls.take (min (k + 1) 10)).map (·.take 70) = (ls.take (min k 10)).map (·.take 70) ++ [cs.take mm]) := hid (fun hk10 => by
          obtain ⟨h1, h2⟩ := List.getElem?_eq_some_iff.1 hck
          rw [Nat.min_eq_left (by omega), Nat.min_eq_left (by omega), List.take_succ_eq_append_getElem h1, List.map_append, h2, ← HTC.out]
          rfl)
        have hlen10 : ((ls.take (min k 10)).map (·.take 70)).length ≤ 10 := by rw [List.length_map, List.length_take]; omega
        clear hHSl hc hvk hck hvl hnc hmm h5
        rcases Nat.lt_or_ge k 10 with hk10 | hk10
        · have dk : decide (((k : Nat) : Int) < 10) = true := decide_eq_true (by omega)
          obtain ⟨lva, lvc, rfl, -⟩ := Leads.of_own HOR.out.lrow
          have q2 : ∀ z : OwnR Y (.slice lva ((ls.take (min k 10)).map (·.take 70)).length lvc), z.v.cell? ⟨Y, 2, none⟩ = some (.slice lva ((ls.take (min k 10)).map (·.take 70)).length lvc) := fun z => z.y2
          have HC6 : Hid (∀ V : World, V.heap[Y]? = wr.heap[Y]? → ∃ z : OwnR Y (.slice lva ((ls.take (min k 10)).map (·.take 70)).length lvc), V = z.v) := hid (fun V e => ⟨⟨V, cell_laid (e.trans HOR.out.blk) rfl⟩, rfl⟩)
          have hdr := HC6.out wr.drew rfl
          haveI : Nonempty (OwnR Y (.slice lva ((ls.take (min k 10)).map (·.take 70)).length lvc)) := hdr.elim fun z _ => ⟨z⟩
          obtain ⟨ln, hln⟩ : ∃ ln, ((ls.take (min k 10)).map (·.take 70)).length = ln := ⟨_, rfl⟩
          rw [hln] at q2 HC6 hdr this hlen10
          have HLN := hid hln
          have HOR2 : Hid (OwnS Y w2.heap.size C P ((ls.take (min k 10)).map (·.take 70)) (ps.take m) (.slice lva ln lvc) (.slice pva (ps.take m).length pvc) vs' w2 wr) := hid (by rw [← hln]; exact HOR.out)
          have hYlt := lt_laid HOR.out.blk
          clear hln HOR
          go_upto_region 6 with (fail)
          refine wp_region_mix2 (fun w' => ∃ z : OwnR Y (.slice lva ln lvc), w' = z.v) 11 (.q 0 (.q 1 (.q 2 (.q 3 (.q 4 (.q 5 (.q 6 (.h 7 (.h 8 (.h 9 (.q 10 .done))))))))))) (by kernel_rfl) (by kernel_rfl) hdr ?_
          repeat (refine wpMix2_q rfl rfl ?_; go_big_quiet_step (fail); refine wpQuiet_nil ?_)
          refine wpMix2_h rfl fun R' hR' hO => ?_
          go_wp2_with fail
          refine (HCC.out _ (HOR2.out.below.drew)).mono ?_
          rintro e w3 ⟨v3, rfl, ho3, hb3⟩
          have hb23 : Below wr.heap.size wr w3 := (Below.refl _ _).drew.trans hb3
          obtain ⟨a3, c3, rfl, -⟩ := Leads.of_own ho3
          have HO3 := hid (own_base ho3 HOR2.out.lo.2.1)
          clear ho3
          go_wp2
          refine hR' _ _ (HC6.out _ (hb23.block Y hYlt)) ?_
          refine wpMix2_h rfl fun R' hR' hO => ?_
          obtain ⟨w4, hw4, hb4, hs4, hl4⟩ := laid w3 #[.slice a3 mm c3] 46
          obtain ⟨M, hM⟩ : ∃ M, w3.heap.size = M := ⟨_, rfl⟩
          rw [hM] at hl4 hs4
          have hb24 := step hb23 hb4
          have HJ4 := hid (HOR2.out.grow hb24)
          have HO4 := hid (own_grow HO3.out hb4)
          have HL4 := hid hl4
          clear hl4 hs4
          go_wp2
          refine hR' _ _ (HC6.out _ (hb24.block Y hYlt)) ?_
          refine wpMix2_h rfl fun R' hR' hO => ?_
          have hlr := HJ4.out.lrow
          rw [HLN.out] at hlr
          refine wp_appendM elemLists rfl (.tmp 30) (.tmp 37) rfl w2.heap.size (.slice lva ln lvc) ln vs' rfl hlr ⟨M, 0, none⟩ 1 1 [.slice a3 mm c3] rfl rfl ?_ ?_ ?_ ?_ ?_
          · intro j u hj
            have e : (⟨M, 0, none⟩ : Addr).add j = ⟨M, j, none⟩ := by unfold Addr.add; simp; intro h; exact h.symm
            rw [e]
            exact cell_laid (i := j) (v := u) HL4.out (by simpa using hj)
          · intro u hu
            rw [List.mem_singleton.1 hu]
            rfl
          · omega
          · exact HJ4.out.lo.2.1
          intro v' W' ho' hg' hm'
          have hYb := HJ4.out.blk_grown hg'
          have hCW := HC6.out W' (hYb.trans (HOR2.out.blk.symm))
          have HF := hid (HJ4.out.app (lv' := v') (v' := .slice a3 mm c3) (cs := cs.take mm) hg' (by rw [HLN.out]; exact ho') (by rw [HML.out]; exact HO4.out))
          obtain ⟨a9, c9, rfl, -⟩ := Leads.of_own ho'
          have t8 := cell_laid (i := 2) hYb rfl
          have t9 := free_laid (i := 2) hYb
          clear ho' hg' hm' hYb hlr
          go_wp2
          refine hR' _ _ hCW ?_
          repeat (refine wpMix2_q rfl rfl ?_; go_big_quiet_step (fail); refine wpQuiet_nil ?_)
          refine wpMix2_done ?_
          simp only [List.drop_succ_cons, List.drop_zero]
          go_wp2
          go_roundg (gk - 1)
          case measure => have := HK.out; omega
          case rel => exact ⟨k + 1, _, _, by have := HK.out; omega, by go_num, by rw [HMP.out hk10]; exact HF.out⟩
        · have dk : decide (((k : Nat) : Int) < 10) = false := decide_eq_false (by omega)
          have HE10 : Hid (ls.take (min (k + 1) 10) = ls.take (min k 10)) := hid (by rw [Nat.min_eq_right (by omega), Nat.min_eq_right hk10])
          go_wp2
          go_roundg (gk - 1)
          case measure => have := HK.out; omega
          case rel => exact ⟨k + 1, _, _, by have := HK.out; omega, by go_num, by rw [HE10.out]; exact HOR.out⟩
      · have e := HK.out
        obtain rfl : k = nl := by omega
        have HEQ : Hid ((ls.take (min k 10)).map (·.take 70) = (ls.take 10).map (·.take 70)) := hid (by
          rcases Nat.le_total k 10 with hh | hh
          · rw [Nat.min_eq_left hh, List.take_of_length_le (by rw [HNL.out]; exact Nat.le_refl _), List.take_of_length_le (by rw [HNL.out]; exact hh)]
          · rw [Nat.min_eq_right hh])
        obtain ⟨lva, lvc, rfl, -⟩ := Leads.of_own HOR.out.lrow
        have hZB := keep_laid HL2.out HOR.out.below
        have hbk := HOR.out.blk
        have r0 := cell_laid (i := 0) hbk rfl
        have r1 := cell_laid (i := 1) hbk rfl
        have r2 := cell_laid (i := 2) hbk rfl
        have r3 := cell_laid (i := 3) hbk rfl
        have z0 := free_laid (i := 0) hZB
        have z1 := free_laid (i := 1) hZB
        have z2 := free_laid (i := 2) hZB
        have z3 := free_laid (i := 3) hZB
        have y0 := cell_laid (i := 0) hZB rfl
        have y1 := cell_laid (i := 1) hZB rfl
        have y2 := cell_laid (i := 2) hZB rfl
        have y3 := cell_laid (i := 3) hZB rfl
        have hzw : w.heap.size ≤ X + 1 := by rw [HX.out]; omega
        have hzb : X + 1 < w2.heap.size := by rw [HS2.out]; omega
        have HEB := hid (set_laid (i := 3) (set_laid (i := 2) (set_laid (i := 1) (set_laid (i := 0) hZB (.int .i64 C)) (.int .i64 P)) (.slice lva ((ls.take (min k 10)).map (·.take 70)).length lvc)) (.slice pva (ps.take m).length pvc))
        have HEJ := hid ((((((HOR.out.lower HB02.out).setZ (Z := X + 1) (i := 0) (.int .i64 C) hzb hzw).setZ (Z := X + 1) (i := 1) (.int .i64 P) hzb hzw).setZ (Z := X + 1) (i := 2) (.slice lva ((ls.take (min k 10)).map (·.take 70)).length lvc) hzb hzw).setZ (Z := X + 1) (i := 3) (.slice pva (ps.take m).length pvc) hzb hzw))
        obtain ⟨ln, hln⟩ : ∃ ln, ((ls.take (min k 10)).map (·.take 70)).length = ln := ⟨_, rfl⟩
        obtain ⟨pn, hpn⟩ : ∃ pn, (ps.take m).length = pn := ⟨_, rfl⟩
        rw [hln] at HEB HEJ r2
        rw [hpn] at HEB HEJ r3
        clear hZB hbk hzw hzb e HK HOR hln hpn
        go_wp2
        refine bodyPost_ret (own_result HEB.out rfl) rfl ?_
        refine ⟨Y, w2.heap.size, _, _, rfl, vs', ?_⟩
        rw [← List.map_take, ← HEQ.out, HTK.out]
        exact HEJ.out
end Go.Proofs.YtpehnahmdfoobaaDoor
