/- Memories: New; Live of all words. -/
import Derived.Test.YtipohagcppfgiaaMem5
namespace Go.Proofs.Ytipohagcppfgiaa
open Go.RowKit
open Go.Proofs
set_option linter.unusedVariables false

/-- A call gives a memory of its own, and no error. -/
def GivesE (M : Mem) (w : World) (e : Ending) (W : World) : Prop := ∃ wa wc la lc, e = .returned (.tuple #[memV wa wc la lc M, .int .i64 0]) ∧ MemO w.heap.size wa wc la lc M W ∧ Below w.heap.size w W
theorem row_new {V : World} {base g n : Nat} {e : TypeId} {cs : List Value} (h : V.heap[g]? = some (.cells cs.toArray e (0, 0))) (hl : cs.length = n) (hn : n ≤ 100000) (hb : base ≤ g) : V.ownsRow base e 1 (.slice (some ⟨g, 0, none⟩) n n) n cs := by
  refine ⟨by omega, .inr ⟨g, n, _, rfl, hb, h, Nat.le_refl _, by unfold maxLen; omega, by simp [hl], ?_⟩⟩
  rw [List.take_of_length_le (by simp [hl])]

structure RT (T : Nat) where
  v : World
  t0 : v.cell? ⟨T, 0, none⟩ = some (.bool true)
theorem tf_len (n k : Nat) (h : k ≤ n) : (List.replicate k true ++ List.replicate (n - k) false).length = n := by simp; omega
theorem tf_at (n k : Nat) (h : k < n) : (List.replicate k true ++ List.replicate (n - k) false)[k]? = some false := by
  rw [List.getElem?_append_right (by simp), List.length_replicate, Nat.sub_self, List.getElem?_replicate, if_pos (by omega)]
theorem tf_set (n k : Nat) (h : k < n) : (List.replicate k true ++ List.replicate (n - k) false).set k true = List.replicate (k + 1) true ++ List.replicate (n - (k + 1)) false := by
  rw [List.set_append_right _ _ (by simp), List.length_replicate, Nat.sub_self]
  obtain ⟨m, hm⟩ : ∃ m, n - k = m + 1 := ⟨n - k - 1, by omega⟩
  rw [hm, List.replicate_succ, List.set_cons_zero, show n - (k + 1) = m by omega, List.replicate_succ', List.append_assoc]
  rfl
theorem rep_set (n k : Nat) : (List.replicate n 0).set k 0 = List.replicate n (0 : Nat) := by
  apply List.ext_getElem?
  intro i
  rw [List.getElem?_set]
  split
  · subst_vars
    split
    · simp_all
    · simp_all
  · rfl

end Go.Proofs.Ytipohagcppfgiaa
