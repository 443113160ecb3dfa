/- The document's answer for layer 3: the script that words say: its state in memory. -/
import Derived.Test.YtpehnahmdfoobaaDoorScript20
import Derived.Test.YtpehnahmdfoobaaDoorScriptRef1
import Derived.Test.YtpehnahmdfoobaaDoorScript15
namespace Go.Proofs.YtpehnahmdfoobaaDoor
open Go.RowKit
open Go.Proofs
set_option linter.unusedVariables false

theorem readF_one (C x : Nat) (r : List Nat) (calls : Nat) (ls : List (List (List Nat))) (ps : List Int) (h1 : Pl.get x 0 2 = 1) (h5 : 5 ≤ r.length) :
    readF C (x :: r) calls ls ps = readF C (r.drop 5) (if calls < 64 then calls + 1 else calls) (if calls < 64 then ls.modify (Pl.get x 8 3 % C) (· ++ [r.take 5]) else ls) ps := by
  show readGo C (r.length + 1) (x :: r) calls ls ps = _
  unfold readGo
  rw [if_pos h1, if_pos h5]
  exact readGo_F C _ _ _ _ _ (by rw [List.length_drop]; omega)
theorem readF_short (C x : Nat) (r : List Nat) (calls : Nat) (ls : List (List (List Nat))) (ps : List Int) (h1 : Pl.get x 0 2 = 1) (h5 : ¬ 5 ≤ r.length) : readF C (x :: r) calls ls ps = readF C r calls ls ps := by
  show readGo C (r.length + 1) (x :: r) calls ls ps = _
  unfold readGo
  rw [if_pos h1, if_neg h5]
  rfl
theorem readF_two (C x : Nat) (r : List Nat) (calls : Nat) (ls : List (List (List Nat))) (ps : List Int) (h2 : Pl.get x 0 2 = 2) :
    readF C (x :: r) calls ls ps = readF C r calls ls (ps ++ List.replicate (min (Pl.get x 16 8 + 1) (4096 - ps.length)) (((Pl.get x 8 3 % C : Nat)) : Int)) := by
  show readGo C (r.length + 1) (x :: r) calls ls ps = _
  unfold readGo
  rw [if_neg (by rw [h2]; decide), if_pos h2]
  rfl
theorem readL_F (l : List Nat) : readL l = readF (readC l) (l.drop 1) 0 (List.replicate (readC l) []) [] := by
  unfold readL
  rw [List.drop_one]
  exact readGo_F _ _ _ _ _ _ (by rw [List.length_tail]; exact Nat.le_refl _)

/-- The script that is read so far, in memory. -/
structure RefJ (Z Y : Nat) (C P : Nat) (ls : List (List (List Nat))) (ps : List Int) (lv pv : Value) (vs : List Value) (w W : World) : Prop where
  o : OwnS Y (Z + 1) ((C : Nat) : Int) ((P : Nat) : Int) ls ps lv pv vs w W
  ap : ∀ (i j : Nat) (v v' : Value) (k : Nat), vs[i]? = some v → vs[j]? = some v' → v.ownBlock = some k → v'.ownBlock = some k → i = j
  z : W.heap[Z]? = some (.cells #[.int .i64 0, .int .i64 0, .slice none 0 0, .slice none 0 0] 35 (0, 0))
  zw : w.heap.size ≤ Z
theorem RefJ.grow {Z Y C P : Nat} {ls : List (List (List Nat))} {ps : List Int} {lv pv : Value} {vs : List Value} {w W W' : World} (h : RefJ Z Y C P ls ps lv pv vs w W) (hb : Below W.heap.size W W') : RefJ Z Y C P ls ps lv pv vs w W' :=
  ⟨h.o.grow hb, h.ap, keep_laid h.z hb, h.zw⟩
theorem RefJ.vlen {Z Y C P : Nat} {ls : List (List (List Nat))} {ps : List Int} {lv pv : Value} {vs : List Value} {w W : World} (h : RefJ Z Y C P ls ps lv pv vs w W) : vs.length = ls.length := by have := h.o.lrow.1; omega
theorem RefJ.addNil {Z Y C P : Nat} {ls : List (List (List Nat))} {ps : List Int} {lv pv lv' : Value} {vs : List Value} {w W W' : World} (h : RefJ Z Y C P ls ps lv pv vs w W) (hg : W.grownBy W' lv.ownBlock)
    (ho : W'.ownsRow (Z + 1) 46 1 lv' (ls.length + 1) (vs ++ [.slice none 0 0])) : RefJ Z Y C P (ls ++ [[]]) ps lv' pv (vs ++ [.slice none 0 0]) w (W'.setCell ⟨Y, 2, none⟩ lv') := by
  refine ⟨h.o.app hg ho (World.ownsRow_nil _ _ _ _), ?_, ?_, h.zw⟩
  · intro i j v v' k hi hj hv hv'
    rw [List.getElem?_append] at hi hj
    split at hi
    · split at hj
      · exact h.ap i j v v' k hi hj hv hv'
      · have : v' = .slice none 0 0 := List.mem_singleton.1 (List.mem_of_getElem? hj)
        rw [this] at hv'; cases hv'
    · have : v = .slice none 0 0 := List.mem_singleton.1 (List.mem_of_getElem? hi)
      rw [this] at hv; cases hv
  · refine other_laid (keep_grown h.z hg fun e => ?_) (by have := h.o.lo; omega) _
    have := (h.o.lrow.lt Z e).1; omega
theorem RefJ.pick_blk {Z Y C P : Nat} {ls : List (List (List Nat))} {ps : List Int} {lv pv : Value} {vs : List Value} {w W W' : World} (h : RefJ Z Y C P ls ps lv pv vs w W) (hg : W.grownBy W' pv.ownBlock) :
    W'.heap[Y]? = some (.cells #[.int .i64 ((C : Nat) : Int), .int .i64 ((P : Nat) : Int), lv, pv] 35 (0, 0)) :=
  keep_grown h.o.blk hg fun e => by
    obtain ⟨cur, hc⟩ := own_type h.o.pick Y e
    exact type_ne hc h.o.blk (by decide) rfl
theorem RefJ.pick {Z Y C P : Nat} {ls : List (List (List Nat))} {ps ps' : List Int} {lv pv pv' : Value} {vs : List Value} {w W W' : World} (h : RefJ Z Y C P ls ps lv pv vs w W) (hg : W.grownBy W' pv.ownBlock)
    (ho : W'.ownsRow (Z + 1) 3 1 pv' ps'.length (icells ps')) : RefJ Z Y C P ls ps' lv pv' vs w (W'.setCell ⟨Y, 3, none⟩ pv') := by
  have hblk := h.pick_blk hg
  have hlo := h.o.lo
  have keepO : ∀ (e : TypeId) (size n : Nat) (v : Value) (xs : List Value), e ≠ 3 → e ≠ 35 → W.ownsRow (Z + 1) e size v n xs → (W'.setCell ⟨Y, 3, none⟩ pv').ownsRow (Z + 1) e size v n xs := fun e size n v xs he he2 hr => own_keep hr (fun k o hk hh => by
    obtain ⟨cur, hc⟩ := own_type hr k hk
    refine other_laid (keep_grown hh hg ?_) (type_ne hc h.o.blk he2) _
    intro e2
    obtain ⟨cur', hc'⟩ := own_type h.o.pick k e2
    exact type_ne hc hc' he rfl)
  refine ⟨⟨set_laid hblk _, keepO _ _ _ _ _ (by decide) (by decide) h.o.lrow, fun i v cs hi hc => keepO _ _ _ _ _ (by decide) (by decide) (h.o.row i v cs hi hc), ?_, ?_, ?_⟩, h.ap, ?_, h.zw⟩
  · exact own_keep ho (fun k o hk hh => by
      obtain ⟨cur, hc⟩ := own_type ho k hk
      exact other_laid hh (type_ne hc hblk (by decide)) _)
  · refine (h.o.below.trans ((own_below h.o.pick hg hlo.2.1).mono (by omega))).setCell ?_ _
    show w.heap.size ≤ Y
    omega
  · have := hg.size
    have hs : (W'.setCell ⟨Y, 3, none⟩ pv').heap.size = W'.heap.size := by simp [World.setCell]
    omega
  · refine other_laid (keep_grown h.z hg fun e => ?_) (by omega) _
    have := (h.o.pick.lt Z e).1; omega
theorem RefJ.call {Z Y C P A gl lc : Nat} {ls : List (List (List Nat))} {ps : List Int} {pv vA v' : Value} {vs : List Value} {w W W' : World} {cs : List (List Nat)} {q : List Nat} {nl : Nat} (h : RefJ Z Y C P ls ps (.slice (some ⟨gl, 0, none⟩) nl lc) pv vs w W)
    (hA : vs[A]? = some vA) (hcs : ls[A]? = some cs) (ho : W'.ownsRow (Z + 1) 53 5 v' (cs.length + 1) (wcells cs.flatten ++ wcells q)) (hg : W.grownBy W' vA.ownBlock) (hm : Moved W vA v') :
    RefJ Z Y C P (ls.modify A (· ++ [q])) ps (.slice (some ⟨gl, 0, none⟩) nl lc) pv (vs.set A v') w (W'.setCell ⟨gl, A, none⟩ v') := by
  have hlo := h.o.lo
  have hAC : A < vs.length := (List.getElem?_eq_some_iff.1 hA).1
  have hrA := h.o.row A vA cs hA hcs
  obtain ⟨curL, hL⟩ := own_type h.o.lrow gl rfl
  have hneg : vA.ownBlock ≠ some gl := fun e => by
    obtain ⟨cur, hc⟩ := own_type hrA gl e
    exact type_ne hc hL (by decide) rfl
  have hneY : vA.ownBlock ≠ some Y := fun e => by
    obtain ⟨cur, hc⟩ := own_type hrA Y e
    exact type_ne hc h.o.blk (by decide) rfl
  have hYg : Y ≠ gl := type_ne h.o.blk hL (by decide)
  have hgb := (h.o.lrow.lt gl rfl).1
  have hlrow' : W'.ownsRow (Z + 1) 46 1 (.slice (some ⟨gl, 0, none⟩) nl lc) ls.length vs := own_keep h.o.lrow (fun k o hk hh => keep_grown hh hg fun e => by
    obtain ⟨cur, hc⟩ := own_type h.o.lrow k hk
    obtain ⟨cur', hc'⟩ := own_type hrA k e
    exact type_ne hc hc' (by decide) rfl)
  have hnl : nl = ls.length := by
    rcases hlrow'.2 with ⟨h0, -⟩ | ⟨g, cap, cur, e, -⟩
    · cases h0
    · simp only [Value.slice.injEq] at e; exact e.2.1
  subst hnl
  have hst := (hlrow'.stored A v').1
  have hv'g : v'.ownBlock ≠ some gl := fun e => by
    obtain ⟨cur, hc⟩ := own_type ho gl e
    have hL' := keep_grown hL hg hneg
    exact type_ne hc hL' (by decide) rfl
  have hv'A : ∀ k, v'.ownBlock = some k → vA.ownBlock = some k ∨ W.heap.size ≤ k := fun k hk => by
    rcases hm with e | e
    · exact .inl (e ▸ hk)
    · exact .inr (e k hk)
  refine ⟨⟨other_laid (keep_grown h.o.blk hg hneY) hYg _, ?_, ?_, ?_, ?_, ?_⟩, ?_, ?_, h.zw⟩
  · rw [List.length_modify]
    exact hst
  · intro i v cs' hi hc
    by_cases hiA : A = i
    · subst hiA
      have e1 : v = v' := by simpa [List.getElem?_set, hAC] using hi.symm
      subst e1
      have e2 : cs' = cs ++ [q] := by simpa [List.getElem?_modify, hcs] using hc.symm
      subst e2
      have := own_keep (w' := W'.setCell ⟨gl, A, none⟩ v) ho (fun k o hk hh => other_laid hh (by intro e; subst e; exact hv'g hk) _)
      simpa [wcells] using this
    · have hi' : vs[i]? = some v := by simpa [List.getElem?_set, hiA] using hi
      have hc' : ls[i]? = some cs' := by simpa [List.getElem?_modify, hiA] using hc
      have hr := h.o.row i v cs' hi' hc'
      refine own_keep hr (fun k o hk hh => ?_)
      have hkg : k ≠ gl := by
        obtain ⟨cur, hc⟩ := own_type hr k hk
        exact type_ne hc hL (by decide)
      refine other_laid (keep_grown hh hg ?_) hkg _
      intro e
      exact hiA (h.ap A i vA v k hA hi' e hk)
  · refine own_keep h.o.pick (fun k o hk hh => ?_)
    have hkg : k ≠ gl := by
      obtain ⟨cur, hc⟩ := own_type h.o.pick k hk
      exact type_ne hc hL (by decide)
    refine other_laid (keep_grown hh hg ?_) hkg _
    intro e
    obtain ⟨cur, hc⟩ := own_type h.o.pick k hk
    obtain ⟨cur', hc'⟩ := own_type hrA k e
    exact type_ne hc hc' (by decide) rfl
  · refine (h.o.below.trans ((own_below hrA hg hlo.2.1).mono (by omega))).setCell ?_ _
    show w.heap.size ≤ gl
    omega
  · have := hg.size
    have hs : (W'.setCell ⟨gl, A, none⟩ v').heap.size = W'.heap.size := by simp [World.setCell]
    omega
  · intro i j v v2 k hi hj hv hv2
    have old : ∀ (i : Nat) (v : Value), A ≠ i → (vs.set A v')[i]? = some v → vs[i]? = some v := fun i v hne hh => by simpa [List.getElem?_set, hne] using hh
    have new : ∀ v : Value, (vs.set A v')[A]? = some v → v = v' := fun v hh => by simpa [List.getElem?_set, hAC] using hh.symm
    have oldlt : ∀ (i : Nat) (v : Value) (k : Nat), vs[i]? = some v → v.ownBlock = some k → k < W.heap.size := fun i v k hh hk => by
      have hci : i < ls.length := by rw [← h.vlen]; exact (List.getElem?_eq_some_iff.1 hh).1
      exact own_lt (h.o.row i v _ hh (List.getElem?_eq_getElem hci)) k hk
    by_cases hiA : A = i
    · by_cases hjA : A = j
      · omega
      · exfalso
        subst hiA
        have e := new v hi
        subst e
        have hj' := old j v2 hjA hj
        rcases hv'A k hv with h1 | h1
        · exact hjA (h.ap A j vA v2 k hA hj' h1 hv2)
        · have := oldlt j v2 k hj' hv2; omega
    · by_cases hjA : A = j
      · exfalso
        subst hjA
        have e := new v2 hj
        subst e
        have hi' := old i v hiA hi
        rcases hv'A k hv2 with h1 | h1
        · exact hiA (h.ap A i vA v k hA hi' h1 hv)
        · have := oldlt i v k hi' hv; omega
      · exact h.ap i j v v2 k (old i v hiA hi) (old j v2 hjA hj) hv hv2
  · refine other_laid (keep_grown h.z hg fun e => ?_) (by omega) _
    have := (hrA.lt Z e).1; omega
theorem RefJ.lrow_grown {Z Y C P A : Nat} {ls : List (List (List Nat))} {ps : List Int} {lv pv vA : Value} {vs : List Value} {w W W' : World} {cs : List (List Nat)} (h : RefJ Z Y C P ls ps lv pv vs w W)
    (hA : vs[A]? = some vA) (hcs : ls[A]? = some cs) (hg : W.grownBy W' vA.ownBlock) : W'.ownsRow (Z + 1) 46 1 lv ls.length vs :=
  own_keep h.o.lrow (fun k o hk hh => keep_grown hh hg fun e => by
    obtain ⟨cur, hc⟩ := own_type h.o.lrow k hk
    obtain ⟨cur', hc'⟩ := own_type (h.o.row A vA cs hA hcs) k e
    exact type_ne hc hc' (by decide) rfl)
theorem RefJ.init {Z Y C P : Nat} {w W : World} (hy : W.heap[Y]? = some (.cells #[.int .i64 ((C : Nat) : Int), .int .i64 ((P : Nat) : Int), .slice none 0 0, .slice none 0 0] 35 (0, 0))) (hz : W.heap[Z]? = some (.cells #[.int .i64 0, .int .i64 0, .slice none 0 0, .slice none 0 0] 35 (0, 0)))
    (hb : Below w.heap.size w W) (hZ : w.heap.size ≤ Z) (hY : Z + 1 ≤ Y) : RefJ Z Y C P [] [] (.slice none 0 0) (.slice none 0 0) [] w W :=
  ⟨⟨hy, World.ownsRow_nil _ _ _ _, (fun i v cs hi _ => by cases hi), World.ownsRow_nil _ _ _ _, hb, by have := lt_laid hy; omega⟩, (fun i j v v' k hi => by cases hi), hz, hZ⟩
/-- A call gives a script in memory of its own. -/
def GivesO (S : Scr) (w : World) (e : Ending) (W : World) : Prop := ∃ Y base lv pv vs, e = .returned (.agg #[.int .i64 S.C, .int .i64 S.P, lv, pv]) ∧ OwnS Y base S.C S.P S.ls S.ps lv pv vs w W
theorem RefJ.scrL {Z Y C P : Nat} {ls : List (List (List Nat))} {ps : List Int} {lv pv : Value} {vs : List Value} {w W : World} (h : RefJ Z Y C P ls ps lv pv vs w W) :
    ∃ la lc pa pc, lv = .slice la ls.length lc ∧ pv = .slice pa ps.length pc ∧ ScrL W la lc vs pa pc ⟨C, P, ls, ps⟩ := h.o.scrL
end Go.Proofs.YtpehnahmdfoobaaDoor
