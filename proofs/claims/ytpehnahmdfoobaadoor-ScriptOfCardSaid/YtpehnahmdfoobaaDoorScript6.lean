/- Scripts: the reader's call. -/
import Derived.Test.YtpehnahmdfoobaaDoorScript5
import Derived.Laws.Cover3
namespace Go.Proofs.YtpehnahmdfoobaaDoor
open Go.RowKit
open Go.Proofs
set_option linter.unusedVariables false

theorem elemCalls : Elem Tryd.prog 46 53 5 40 := Elem.mk' (z := .agg #[.int .u64 0, .int .u64 0, .int .u64 0, .int .u64 0, .int .u64 0]) Tryd.underlying46 (by kernel_rfl) rfl (by decide) (by decide)
/-- What a reader holds. -/
structure ReadJ (R base C P : Nat) (ls : List (List (List Nat))) (ps : List Int) (a : Option Addr) (r c calls g : Nat) (vs : List Value) (pv : Value) (w W : World) : Prop where
  blk : W.heap[R]? = some (.cells #[.int .i64 ((C : Nat) : Int), .int .i64 ((P : Nat) : Int), .slice (some ⟨g, 0, none⟩) C C, pv, .slice a r c, .int .i64 ((calls : Nat) : Int)] 62 (0, 0))
  tab : W.heap[g]? = some (.cells vs.toArray 46 (0, 0))
  vlen : vs.length = C
  llen : ls.length = C
  row : ∀ (i : Nat) (v : Value) (cs : List (List Nat)), vs[i]? = some v → ls[i]? = some cs → W.ownsRow base 53 5 v cs.length (wcells cs.flatten)
  pick : W.ownsRow base 3 1 pv ps.length (icells ps)
  five : ∀ cs ∈ ls, ∀ q ∈ cs, q.length = 5
  few : ∀ cs ∈ ls, cs.length ≤ calls
  ap : ∀ (i j : Nat) (v v' : Value) (k : Nat), vs[i]? = some v → vs[j]? = some v' → v.ownBlock = some k → v'.ownBlock = some k → i = j
  lo : R < base ∧ base ≤ g ∧ w.heap.size ≤ R
  below : Below w.heap.size w W
theorem own_type {W : World} {base size n : Nat} {e : TypeId} {v : Value} {xs : List Value} (h : W.ownsRow base e size v n xs) (k : Nat) (hk : v.ownBlock = some k) : ∃ cur, W.heap[k]? = some (.cells cur e (0, 0)) := by
  rcases h.2 with ⟨rfl, _⟩ | ⟨g, cap, cur, rfl, _, hh, _⟩
  · cases hk
  · have : g = k := by simpa [Value.ownBlock] using hk
    subst this
    exact ⟨cur, hh⟩
theorem type_ne {W : World} {k k' : Nat} {cur cur' : Array Value} {e e' : TypeId} (h : W.heap[k]? = some (.cells cur e (0, 0))) (h' : W.heap[k']? = some (.cells cur' e' (0, 0))) (hne : e ≠ e') : k ≠ k' := by
  rintro rfl
  rw [h] at h'
  cases h'
  exact hne rfl
theorem ReadJ.grow {R base C P : Nat} {ls : List (List (List Nat))} {ps : List Int} {a : Option Addr} {r c calls g : Nat} {vs : List Value} {pv : Value} {w W W' : World} (h : ReadJ R base C P ls ps a r c calls g vs pv w W) (hb : Below W.heap.size W W') : ReadJ R base C P ls ps a r c calls g vs pv w W' :=
  ⟨keep_laid h.blk hb, keep_laid h.tab hb, h.vlen, h.llen, fun i v cs hi hc => own_grow (h.row i v cs hi hc) hb, own_grow h.pick hb, h.five, h.few, h.ap, h.lo, step h.below hb⟩
theorem wcell_at {l : List Nat} {k x : Nat} (h : l[k]? = some x) : (wcells l)[k]? = some (.int .u64 ((x : Nat) : Int)) := by unfold wcells; rw [List.getElem?_map, h]; rfl


theorem own_lt {w : World} {base n size : Nat} {e : TypeId} {v : Value} {xs : List Value} (h : w.ownsRow base e size v n xs) (k : Nat) (hk : v.ownBlock = some k) : k < w.heap.size := by
  obtain ⟨cur, hc⟩ := own_type h k hk
  exact lt_laid hc
/-- A row lies as it lay where its block does. -/
theorem own_keep {w w' : World} {base n size : Nat} {e : TypeId} {v : Value} {xs : List Value} (h : w.ownsRow base e size v n xs) (hk : ∀ k o, v.ownBlock = some k → w.heap[k]? = some o → w'.heap[k]? = some o) : w'.ownsRow base e size v n xs := by
  refine ⟨h.1, ?_⟩
  rcases h.2 with hn | ⟨g, cap, cur, rfl, hb, hgg, rest⟩
  · exact .inl hn
  · exact .inr ⟨g, cap, cur, rfl, hb, hk g _ rfl hgg, rest⟩
theorem keep_grown {w w' : World} {b : Nat} {o : Obj} {r : Option Nat} (h : w.heap[b]? = some o) (hg : w.grownBy w' r) (hr : r ≠ some b) : w'.heap[b]? = some o :=
  (hg.block b (lt_laid h) (fun he => hr he.symm)).trans h

theorem ReadJ.put4 {R base C P : Nat} {ls : List (List (List Nat))} {ps : List Int} {a a' : Option Addr} {r c calls g r' c' : Nat} {vs : List Value} {pv : Value} {w W : World} (h : ReadJ R base C P ls ps a r c calls g vs pv w W) : ReadJ R base C P ls ps a' r' c' calls g vs pv w (W.setCell ⟨R, 4, none⟩ (.slice a' r' c')) := by
  have hR : R ≠ g := by have := h.lo; omega
  have hk : ∀ (k : Nat) (o : Obj), base ≤ k → W.heap[k]? = some o → (W.setCell ⟨R, 4, none⟩ (.slice a' r' c')).heap[k]? = some o := fun k o hk ho => other_laid ho (by have := h.lo; omega) _
  exact ⟨set_laid h.blk _, other_laid h.tab (by omega) _, h.vlen, h.llen, fun i v cs hi hc => own_keep (h.row i v cs hi hc) (fun k o hb ho => hk k o ((h.row i v cs hi hc).lt k hb).1 ho), own_keep h.pick (fun k o hb ho => hk k o (h.pick.lt k hb).1 ho), h.five, h.few, h.ap, h.lo, h.below.setCell (by show w.heap.size ≤ R; exact h.lo.2.2) _⟩
theorem ReadJ.put5 {R base C P : Nat} {ls : List (List (List Nat))} {ps : List Int} {a : Option Addr} {r c calls g calls' : Nat} {vs : List Value} {pv : Value} {w W : World} (h : ReadJ R base C P ls ps a r c calls g vs pv w W) (hc : calls ≤ calls') : ReadJ R base C P ls ps a r c calls' g vs pv w (W.setCell ⟨R, 5, none⟩ (.int .i64 ((calls' : Nat) : Int))) := by
  have hR : R ≠ g := by have := h.lo; omega
  have hk : ∀ (k : Nat) (o : Obj), base ≤ k → W.heap[k]? = some o → (W.setCell ⟨R, 5, none⟩ (.int .i64 ((calls' : Nat) : Int))).heap[k]? = some o := fun k o hk ho => other_laid ho (by have := h.lo; omega) _
  exact ⟨set_laid h.blk _, other_laid h.tab (by omega) _, h.vlen, h.llen, fun i v cs hi hc => own_keep (h.row i v cs hi hc) (fun k o hb ho => hk k o ((h.row i v cs hi hc).lt k hb).1 ho), own_keep h.pick (fun k o hb ho => hk k o (h.pick.lt k hb).1 ho), h.five, fun cs hm => Nat.le_trans (h.few cs hm) hc, h.ap, h.lo, h.below.setCell (by show w.heap.size ≤ R; exact h.lo.2.2) _⟩

theorem ReadJ.app {R base C P : Nat} {ls : List (List (List Nat))} {ps : List Int} {a : Option Addr} {r c calls calls' g A : Nat} {vs : List Value} {pv vA v' : Value} {w W W' : World} {cs : List (List Nat)} {q : List Nat} (h : ReadJ R base C P ls ps a r c calls g vs pv w W)
    (hA : vs[A]? = some vA) (hcs : ls[A]? = some cs) (hq : q.length = 5) (hcl : cs.length + 1 ≤ calls) (ho : W'.ownsRow base 53 5 v' (cs.length + 1) (wcells cs.flatten ++ wcells q)) (hg : W.grownBy W' vA.ownBlock) (hm : Moved W vA v') :
    ReadJ R base C P (ls.modify A (· ++ [q])) ps a r c calls g (vs.set A v') pv w (W'.setCell ⟨g, A, none⟩ v') := by
  have hAC : A < vs.length := (List.getElem?_eq_some_iff.1 hA).1
  have hrA := h.row A vA cs hA hcs
  have hbase : base ≤ W.heap.size := by have := lt_laid h.tab; have := h.lo; omega
  have hneg : vA.ownBlock ≠ some g := fun e => by
    obtain ⟨cur, hc⟩ := own_type hrA g e
    exact type_ne hc h.tab (by decide) rfl
  have hneR : vA.ownBlock ≠ some R := fun e => by have := (hrA.lt R e).1; have := h.lo; omega
  have htab := keep_grown h.tab hg hneg
  have hblk := keep_grown h.blk hg hneR
  have hRg : R ≠ g := by have := h.lo; omega
  have hv'g : v'.ownBlock ≠ some g := fun e => by
    obtain ⟨cur, hc⟩ := own_type ho g e
    exact type_ne hc htab (by decide) rfl
  have hbw : Below w.heap.size w (W'.setCell ⟨g, A, none⟩ v') := by
    refine (h.below.trans ((own_below hrA hg hbase).mono (by have := h.lo; omega))).setCell ?_ _
    show w.heap.size ≤ g
    have := h.lo; omega
  refine ⟨other_laid hblk (by omega) _, ?_, by simp [h.vlen], by simp [h.llen], ?_, ?_, ?_, ?_, ?_, h.lo, hbw⟩
  · have := set_laid (i := A) htab v'
    simpa using this
  · intro i v cs' hi hc
    by_cases hiA : A = i
    · subst hiA
      have e1 : v = v' := by simpa [List.getElem?_set, hAC] using hi.symm
      subst e1
      have e2 : cs' = cs ++ [q] := by simpa [List.getElem?_modify, hcs] using hc.symm
      subst e2
      have := own_keep (w' := W'.setCell ⟨g, A, none⟩ v) ho (fun k o hk hh => other_laid hh (by intro e; subst e; exact hv'g hk) _)
      simpa [wcells] using this
    · have hi' : vs[i]? = some v := by simpa [List.getElem?_set, hiA] using hi
      have hc' : ls[i]? = some cs' := by simpa [List.getElem?_modify, hiA] using hc
      have hr := h.row i v cs' hi' hc'
      refine own_keep hr (fun k o hk hh => ?_)
      have hkg : k ≠ g := by
        obtain ⟨cur, hc⟩ := own_type hr k hk
        exact type_ne hc h.tab (by decide)
      refine other_laid (keep_grown hh hg ?_) hkg _
      intro e
      exact hiA (h.ap A i vA v k hA hi' e hk)
  · refine own_keep h.pick (fun k o hk hh => ?_)
    have hkg : k ≠ g := by
      obtain ⟨cur, hc⟩ := own_type h.pick k hk
      exact type_ne hc h.tab (by decide)
    refine other_laid (keep_grown hh hg ?_) hkg _
    intro e
    obtain ⟨cur, hc⟩ := own_type h.pick k hk
    obtain ⟨cur', hc'⟩ := own_type hrA k e
    exact type_ne hc hc' (by decide) rfl
  · intro cs' hm' q' hq'
    obtain ⟨i, hi⟩ := List.getElem?_of_mem hm'
    by_cases hiA : A = i
    · subst hiA
      have e2 : cs' = cs ++ [q] := by simpa [List.getElem?_modify, hcs] using hi.symm
      subst e2
      rcases List.mem_append.1 hq' with h1 | h1
      · exact h.five cs (List.mem_of_getElem? hcs) q' h1
      · rw [List.mem_singleton.1 h1]; exact hq
    · exact h.five cs' (List.mem_of_getElem? (by simpa [List.getElem?_modify, hiA] using hi)) q' hq'
  · intro cs' hm'
    obtain ⟨i, hi⟩ := List.getElem?_of_mem hm'
    by_cases hiA : A = i
    · subst hiA
      have e2 : cs' = cs ++ [q] := by simpa [List.getElem?_modify, hcs] using hi.symm
      subst e2
      simpa using hcl
    · exact h.few cs' (List.mem_of_getElem? (by simpa [List.getElem?_modify, hiA] using hi))
  · intro i j v1 v2 k hi hj k1 k2
    have hset : ∀ (i : Nat) (v : Value), (vs.set A v')[i]? = some v → (A = i ∧ v = v') ∨ (A ≠ i ∧ vs[i]? = some v) := by
      intro i v hi
      by_cases hiA : A = i
      · subst hiA
        exact .inl ⟨rfl, by simpa [List.getElem?_set, hAC] using hi.symm⟩
      · exact .inr ⟨hiA, by simpa [List.getElem?_set, hiA] using hi⟩
    have hlt : ∀ (i : Nat) (v : Value), vs[i]? = some v → v.ownBlock = some k → k < W.heap.size := fun i v hi hk => by
      have hil : i < ls.length := by rw [h.llen, ← h.vlen]; exact (List.getElem?_eq_some_iff.1 hi).1
      exact own_lt (h.row i v _ hi (List.getElem?_eq_getElem hil)) k hk
    rcases hset i v1 hi with ⟨e1, rfl⟩ | ⟨n1, h1⟩ <;> rcases hset j v2 hj with ⟨e2, e2'⟩ | ⟨n2, h2⟩
    · omega
    · subst e1
      rcases hm with hm | hm
      · exact h.ap A j vA v2 k hA h2 (hm ▸ k1) k2
      · have := hm k k1; have := hlt j v2 h2 k2; omega
    · subst e2; subst e2'
      rcases hm with hm | hm
      · exact h.ap i A v1 vA k h1 hA k1 (hm ▸ k2)
      · have := hm k k2; have := hlt i v1 h1 k1; omega
    · exact h.ap i j v1 v2 k h1 h2 k1 k2
end Go.Proofs.YtpehnahmdfoobaaDoor
