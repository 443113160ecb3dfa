/- copy over elements of more than one cell; make with room to spare. No program in sight. -/
import Derived.Laws.CopyOwn
import Derived.Laws.OwnMore
import Derived.Test.YtbfhppafffhlkaaKit
namespace Go.Proofs.Ytbfhppafffhlkaa
open Go.RowKit
set_option linter.unusedVariables false
section
variable {P : Program}
theorem run_copy_wide (w : World) (dT sT ty elem : TypeId) (m b o dLen dCap : Nat) (a : Addr) (sLen sCap k : Nat) (cs : List Value)
    (hu : P.underlying dT = some (.slice elem)) (hs : (P.info? elem).map (·.size) = some m) (hk : Nat.min sLen dLen = k) (hn : cs.length = k * m)
    (hsrc : ∀ j v, cs[j]? = some v → w.cell? (a.add j) = some v) (hc : ∀ j, j < cs.length → (w.cell? ⟨b, o + j, none⟩).isSome = true) (hf : ∀ j, j < cs.length → w.frozen? ⟨b, o + j, none⟩ = false) (h1 : ∀ v ∈ cs, v.oneCell' = true) :
    (Builtin.copy_ #[dT, sT] ty #[.slice (some ⟨b, o, none⟩) dLen dCap, .slice (some a) sLen sCap]).run P w = .ok (goInt k) (w.setCells b o cs) := by
  have hl := run_loadCells_list (P := P) w a cs hsrc
  have hst := run_storeCells_cells (P := P) b o cs 0 w (by simpa using hc) (by simpa using hf) h1
  cases hq : P.info? elem with
  | none => simp [hq] at hs
  | some i =>
    have hi : i.size = m := by simpa [hq] using hs
    have hn' : Nat.min sLen dLen * m = cs.length := by rw [hk, hn]
    have hk' : min sLen dLen = k := hk
    simp [Builtin.copy_, run_underlying hu, Builtin.lenOf, Builtin.firstCells, sizeOf, typeInfo, hq, hi, hk', ← hn, hl, hst]
theorem run_copy_wide_none (w : World) (dT sT ty elem : TypeId) (m : Nat) (d a : Option Addr) (dLen dCap sLen sCap : Nat) (hu : P.underlying dT = some (.slice elem)) (hs : (P.info? elem).map (·.size) = some m) (hn : Nat.min sLen dLen = 0) :
    (Builtin.copy_ #[dT, sT] ty #[.slice d dLen dCap, .slice a sLen sCap]).run P w = .ok (goInt 0) w := by
  cases hq : P.info? elem with
  | none => simp [hq] at hs
  | some i =>
    have hl : ∀ (x : Addr), (loadCells x 0).run P w = .ok #[] w := fun x => by simpa using run_loadCells_list (P := P) w x [] (by simp)
    cases d <;> cases a <;> simp [Builtin.copy_, run_underlying hu, Builtin.lenOf, Builtin.firstCells, sizeOf, typeInfo, hq, hn, storeCells, hl]
end
theorem setCells_row {b : Nat} {T : TypeId} : ∀ (vs : List Value) (o : Nat) (w : World) (cur : Array Value), w.heap[b]? = some (.cells cur T (0, 0)) → ∃ cur' : Array Value, (w.setCells b o vs).heap[b]? = some (.cells cur' T (0, 0)) ∧ cur'.size = cur.size ∧ (∀ j, j < o → cur'[j]? = cur[j]?) ∧ (∀ j, j < vs.length → o + j < cur.size → cur'[o + j]? = vs[j]?)
  | [], o, w, cur, h => ⟨cur, h, rfl, fun _ _ => rfl, fun j hj => absurd hj (Nat.not_lt_zero j)⟩
  | v :: r, o, w, cur, h => by
    obtain ⟨cur', h1, h2, h3, h4⟩ := setCells_row r (o + 1) (w.setCell ⟨b, o, none⟩ v) _ (set_laid h v)
    rw [Array.size_setIfInBounds] at h2 h4
    refine ⟨cur', h1, h2, fun j hj => ?_, fun j hj hs => ?_⟩
    · rw [h3 j (by omega), Array.getElem?_setIfInBounds, if_neg (by omega)]
    · rcases j with _ | j
      · rw [Nat.add_zero, h3 o (by omega), Array.getElem?_setIfInBounds, if_pos rfl, if_pos (by omega)]; rfl
      · have := h4 j (by simp at hj; omega) (by omega)
        rw [show o + (j + 1) = o + 1 + j by omega, this]
        rfl
theorem below_setCells {base b : Nat} (hb : base ≤ b) : ∀ (vs : List Value) (o : Nat) (w : World), Below base w (w.setCells b o vs)
  | [], _, w => Below.refl _ w
  | v :: r, o, w => ((Below.refl base w).setCell (p := ⟨b, o, none⟩) hb v).trans (below_setCells hb r (o + 1) _)
/-- A row that was made, and copied into. -/
theorem own_copied {W : World} {base g n cap size : Nat} {e : TypeId} {cur : Array Value} {cs : List Value} (h : W.heap[g]? = some (.cells cur e (0, 0))) (hb : base ≤ g) (hn : n ≤ cap) (hc : cap ≤ maxLen) (hs : cur.size = cap * size) (hl : cs.length = n * size) :
    (W.setCells g 0 cs).ownsRow base e size (.slice (some ⟨g, 0, none⟩) n cap) n cs ∧ Below base W (W.setCells g 0 cs) := by
  refine ⟨⟨hl, .inr ?_⟩, below_setCells hb _ _ _⟩
  obtain ⟨cur', h1, h2, -, h4⟩ := setCells_row cs 0 W cur h
  have hm := Nat.mul_le_mul_right size hn
  refine ⟨g, cap, cur', rfl, hb, h1, hn, hc, by rw [h2, hs], ?_⟩
  apply List.ext_getElem?
  intro j
  rw [List.getElem?_take]
  by_cases hj : j < n * size
  · rw [if_pos hj]
    have := h4 j (by omega) (by omega)
    rw [Nat.zero_add] at this
    simpa using this
  · rw [if_neg hj, List.getElem?_eq_none (by omega)]
end Go.Proofs.Ytbfhppafffhlkaa
