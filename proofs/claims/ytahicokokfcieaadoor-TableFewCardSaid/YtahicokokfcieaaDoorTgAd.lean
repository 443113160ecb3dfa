/- Several texts in one. -/
import Derived.Test.YtahicokokfcieaaDoorMem5
import Derived.Maps.AppendAt
import Derived.Shelf.Slices.Empties2
namespace Go.Proofs.YtahicokokfcieaaDoor
open Go.RowKit
open Go.Proofs
set_option linter.unusedVariables false

/-- A call gives a memory of its own, and no error. -/
def GivesE (M : Mem) (w : World) (e : Ending) (W : World) : Prop := ∃ wa wc la lc, e = .returned (.tuple #[memV wa wc la lc M, .int .i64 0]) ∧ MemO w.heap.size wa wc la lc M W ∧ Below w.heap.size w W
theorem row_new {V : World} {base g n : Nat} {e : TypeId} {cs : List Value} (h : V.heap[g]? = some (.cells cs.toArray e (0, 0))) (hl : cs.length = n) (hn : n ≤ 100000) (hb : base ≤ g) : V.ownsRow base e 1 (.slice (some ⟨g, 0, none⟩) n n) n cs := by
  refine ⟨by omega, .inr ⟨g, n, _, rfl, hb, h, Nat.le_refl _, by unfold maxLen; omega, by simp [hl], ?_⟩⟩
  rw [List.take_of_length_le (by simp [hl])]

structure RT (T : Nat) where
  v : World
  t0 : v.cell? ⟨T, 0, none⟩ = some (.bool true)
theorem tf_len (n k : Nat) (h : k ≤ n) : (List.replicate k true ++ List.replicate (n - k) false).length = n := by simp; omega
theorem tf_at (n k : Nat) (h : k < n) : (List.replicate k true ++ List.replicate (n - k) false)[k]? = some false := by
  rw [List.getElem?_append_right (by simp), List.length_replicate, Nat.sub_self, List.getElem?_replicate, if_pos (by omega)]
theorem tf_set (n k : Nat) (h : k < n) : (List.replicate k true ++ List.replicate (n - k) false).set k true = List.replicate (k + 1) true ++ List.replicate (n - (k + 1)) false := by
  rw [List.set_append_right _ _ (by simp), List.length_replicate, Nat.sub_self]
  obtain ⟨m, hm⟩ : ∃ m, n - k = m + 1 := ⟨n - k - 1, by omega⟩
  rw [hm, List.replicate_succ, List.set_cons_zero, show n - (k + 1) = m by omega, List.replicate_succ', List.append_assoc]
  rfl
theorem rep_set (n k : Nat) : (List.replicate n 0).set k 0 = List.replicate n (0 : Nat) := by
  apply List.ext_getElem?
  intro i
  rw [List.getElem?_set]
  split
  · subst_vars
    split
    · simp_all
    · simp_all
  · rfl

end Go.Proofs.YtahicokokfcieaaDoor
namespace Go.Proofs.YtahicokokfcieaaDoor
open Go.RowKit
open Go.Proofs
set_option linter.unusedVariables false

theorem CloneW_any (a : Option Addr) (n cap : Nat) (cs : List Value) (w : World) (h : Leads w a n cap cs) (hl : cs.length = n * 1) (hn : n ≤ 10000) (h1 : ∀ u ∈ cs, u.oneCell' = true) :
    Calls Tryd.prog 35 #[.slice a n cap] w (Fresh 25 1 n cs w) := by
  have q : ∀ (w : World) (a : Option Addr) (n c n' c' : Nat), (binOp .eql 22 (.slice a n c) (.slice none n' c')).run Tryd.prog w = .ok (.bool a.isNone) w := fun w a n c n' c' => Lib.run_eql_slice_nil w _ _ a n c n' c' Tryd.underlying22
  cases a with
  | none =>
    obtain ⟨_, _, ⟨rfl, rfl⟩ | ⟨b, off, h, _⟩⟩ := h
    · clear h1 hl
      go_enter Tryd.func35, Tryd.ntmps35
      go_wp2
      go_ret
      exact ⟨_, rfl, World.ownsRow_nil _ _ _ _, Below.refl _ _⟩
    · cases h
  | some ad =>
    have hc : ∀ j u, cs[j]? = some u → w.cell? (ad.add j) = some u := by
      obtain ⟨_, _, ⟨_, rfl⟩ | ⟨b, off, h, _, h5⟩⟩ := h
      · intro j u hj; cases hj
      · cases h
        intro j u hj
        have := h5 j u hj
        rcases j with _ | j
        · simpa [Addr.add] using this
        · simpa [Addr.add] using this
    have HC := hid hc
    have HL := hid hl
    have H1 := hid h1
    clear hc hl h1 h
    go_enter Tryd.func35, Tryd.ntmps35
    go_wp2_with (at_builtin; refine wp_appendM elemWords rfl _ _ rfl w.heap.size _ _ _ rfl (World.ownsRow_made w #[] 0 (Nat.le_refl _) (Nat.zero_le _) (by simp)) ad n cap cs rfl ?qc1 ?qc2 ?qc3 ?qc4 ?qc5 ?_)
    case qc1 => exact HL.out
    case qc2 =>
      intro j u hj
      exact Lib.cell?_alloc_some _ (HC.out j u hj)
    case qc3 => exact H1.out
    case qc4 => omega
    case qc5 => simp
    intro v' w1 hown hgrow hmv
    have hb : Below w.heap.size w w1 := ((Below.refl _ w).alloc (Nat.le_refl _) _).trans (own_below (size := 1) (World.ownsRow_made w #[] 0 (Nat.le_refl _) (Nat.zero_le _) (by simp)) hgrow (by simp))
    go_wp2
    go_ret
    exact ⟨v', rfl, by simpa using hown, hb⟩

theorem CloneB_any (a : Option Addr) (n cap : Nat) (cs : List Value) (w : World) (h : Leads w a n cap cs) (hl : cs.length = n * 1) (hn : n ≤ 10000) (h1 : ∀ u ∈ cs, u.oneCell' = true) :
    Calls Tryd.prog 36 #[.slice a n cap] w (Fresh 4 1 n cs w) := by
  have q : ∀ (w : World) (a : Option Addr) (n c n' c' : Nat), (binOp .eql 36 (.slice a n c) (.slice none n' c')).run Tryd.prog w = .ok (.bool a.isNone) w := fun w a n c n' c' => Lib.run_eql_slice_nil w _ _ a n c n' c' Tryd.underlying36
  cases a with
  | none =>
    obtain ⟨_, _, ⟨rfl, rfl⟩ | ⟨b, off, h, _⟩⟩ := h
    · clear h1 hl
      go_enter Tryd.func36, Tryd.ntmps36
      go_wp2
      go_ret
      exact ⟨_, rfl, World.ownsRow_nil _ _ _ _, Below.refl _ _⟩
    · cases h
  | some ad =>
    have hc : ∀ j u, cs[j]? = some u → w.cell? (ad.add j) = some u := by
      obtain ⟨_, _, ⟨_, rfl⟩ | ⟨b, off, h, _, h5⟩⟩ := h
      · intro j u hj; cases hj
      · cases h
        intro j u hj
        have := h5 j u hj
        rcases j with _ | j
        · simpa [Addr.add] using this
        · simpa [Addr.add] using this
    have HC := hid hc
    have HL := hid hl
    have H1 := hid h1
    clear hc hl h1 h
    go_enter Tryd.func36, Tryd.ntmps36
    go_wp2_with (at_builtin; refine wp_appendM elemBools rfl _ _ rfl w.heap.size _ _ _ rfl (World.ownsRow_made w #[] 0 (Nat.le_refl _) (Nat.zero_le _) (by simp)) ad n cap cs rfl ?qc1 ?qc2 ?qc3 ?qc4 ?qc5 ?_)
    case qc1 => exact HL.out
    case qc2 =>
      intro j u hj
      exact Lib.cell?_alloc_some _ (HC.out j u hj)
    case qc3 => exact H1.out
    case qc4 => omega
    case qc5 => simp
    intro v' w1 hown hgrow hmv
    have hb : Below w.heap.size w w1 := ((Below.refl _ w).alloc (Nat.le_refl _) _).trans (own_below (size := 1) (World.ownsRow_made w #[] 0 (Nat.le_refl _) (Nat.zero_le _) (by simp)) hgrow (by simp))
    go_wp2
    go_ret
    exact ⟨v', rfl, by simpa using hown, hb⟩

end Go.Proofs.YtahicokokfcieaaDoor
namespace Go.Proofs.YtahicokokfcieaaDoor
open Go.RowKit
open Go.Proofs
set_option linter.unusedVariables false

def sameM (A B : Mem) : Bool := decide (A.W = B.W) && (decide (A.L = B.L) && decide (A.F = B.F))
theorem eq_take {α : Type} (xs ys : List α) (k : Nat) (x y : α) (h : xs.take k = ys.take k) (hx : xs[k]? = some x) (hy : ys[k]? = some y) (e : x = y) : xs.take (k + 1) = ys.take (k + 1) := by
  obtain ⟨h1, rfl⟩ := List.getElem?_eq_some_iff.1 hx
  obtain ⟨h2, rfl⟩ := List.getElem?_eq_some_iff.1 hy
  rw [List.take_succ_eq_append_getElem h1, List.take_succ_eq_append_getElem h2, h, e]
theorem ne_at {α : Type} (xs ys : List α) (k : Nat) (x y : α) (hx : xs[k]? = some x) (hy : ys[k]? = some y) (e : x ≠ y) : xs ≠ ys := by
  rintro rfl
  rw [hx] at hy
  cases hy
  exact e rfl

end Go.Proofs.YtahicokokfcieaaDoor
