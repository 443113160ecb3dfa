/- The document's answer for layer 2: which memories may be, and which are the same. -/
import Derived.Test.YtipohagcppfgiaaMemClone
namespace Go.Proofs.Ytipohagcppfgiaa
open Go.RowKit
open Go.Proofs
set_option linter.unusedVariables false

def sameM (A B : Mem) : Bool := decide (A.W = B.W) && (decide (A.L = B.L) && decide (A.F = B.F))
theorem eq_take {α : Type} (xs ys : List α) (k : Nat) (x y : α) (h : xs.take k = ys.take k) (hx : xs[k]? = some x) (hy : ys[k]? = some y) (e : x = y) : xs.take (k + 1) = ys.take (k + 1) := by
  obtain ⟨h1, rfl⟩ := List.getElem?_eq_some_iff.1 hx
  obtain ⟨h2, rfl⟩ := List.getElem?_eq_some_iff.1 hy
  rw [List.take_succ_eq_append_getElem h1, List.take_succ_eq_append_getElem h2, h, e]
theorem ne_at {α : Type} (xs ys : List α) (k : Nat) (x y : α) (hx : xs[k]? = some x) (hy : ys[k]? = some y) (e : x ≠ y) : xs ≠ ys := by
  rintro rfl
  rw [hx] at hy
  cases hy
  exact e rfl

end Go.Proofs.Ytipohagcppfgiaa
