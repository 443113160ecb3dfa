/- The functions of package path: the longest, and those below. -/
import Derived.Test.YtbfhppafffhlkaaPath8
namespace Go.Proofs.Ytbfhppafffhlkaa
open Go.RowKit Go.Shelf
open Go.Proofs
set_option linter.unusedVariables false

theorem wcell_at {xs : List Nat} {k x : Nat} (h : xs[k]? = some x) : (wcells xs)[k]? = some (.int .u64 ((x : Nat) : Int)) := by unfold wcells; rw [List.getElem?_map, h]; rfl

theorem has_any (xs : List Nat) (y : Nat) : xs.any (fun x => decide (y = x)) = decide (y ∈ xs) := by
  rw [Bool.eq_iff_iff, List.any_eq_true, decide_eq_true_iff]
  constructor
  · rintro ⟨x, h1, h2⟩; rw [of_decide_eq_true h2]; exact h1
  · exact fun h => ⟨y, h, decide_eq_true rfl⟩
/-- The longest: the first one of the ways up that is there. -/
def longV (l : List Nat) (x : Nat) : Value := match rd x with
  | none => .tuple #[.int .u64 0, .int .i64 310]
  | some ps => match (ups ps).find? (fun u => decide (u ∈ l)) with
    | none => .tuple #[.int .u64 0, .int .i64 4]
    | some u => .tuple #[.int .u64 ((u : Nat) : Int), .int .i64 0]
theorem find_idx {α : Type} (p : α → Bool) (xs : List α) : (xs.find? p = none ∧ idxI p xs = -1) ∨ ∃ (k : Nat) (x : α), xs.find? p = some x ∧ xs[k]? = some x ∧ idxI p xs = (k : Nat) := by
  cases h : xs.find? p with
  | none =>
    left
    refine ⟨rfl, idx_end p xs ?_⟩
    rw [List.any_eq_false]
    intro x hx
    exact List.find?_eq_none.1 h x hx
  | some x =>
    right
    have ha : xs.any p = true := List.any_eq_true.2 ⟨x, List.mem_of_find?_eq_some h, List.find?_some h⟩
    have hlt : xs.findIdx p < xs.length := List.findIdx_lt_length_of_exists (by obtain ⟨y, h1, h2⟩ := List.any_eq_true.1 ha; exact ⟨y, h1, h2⟩)
    refine ⟨xs.findIdx p, x, rfl, ?_, by unfold idxI; rw [ha]; rfl⟩
    have := List.find?_eq_some_iff_getElem.1 h
    obtain ⟨h1, i, hi, e, hall⟩ := this
    have e2 : xs.findIdx p = i := by
      rw [List.findIdx_eq hi]
      exact ⟨by rw [e]; exact h1, fun j hj => by simpa using hall j hj⟩
    rw [e2, List.getElem?_eq_getElem hi, e]
theorem ups_len (ps : List (List UInt8)) : (ups ps).length = ps.length + 1 := by unfold ups; simp

/-- Those below. -/
def belowL (l : List Nat) (x : Nat) : List Nat := l.filter fun y => decide (y ≠ x) && aheadB x y
theorem belowL_snoc (l : List Nat) (x k y : Nat) (h : l[k]? = some y) : belowL (l.take (k + 1)) x = belowL (l.take k) x ++ (if (decide (y ≠ x) && aheadB x y) = true then [y] else []) := by
  obtain ⟨h1, rfl⟩ := List.getElem?_eq_some_iff.1 h
  unfold belowL
  rw [List.take_succ_eq_append_getElem h1, List.filter_append, List.filter_cons, List.filter_nil]
theorem belowL_len (l : List Nat) (x k : Nat) : (belowL (l.take k) x).length ≤ k := by
  unfold belowL
  exact Nat.le_trans (List.length_filter_le _ _) (by rw [List.length_take]; omega)

end Go.Proofs.Ytbfhppafffhlkaa
