/- slices.Clone. -/
import Derived.Test.YtipohagcppfgiaaGreatMem6
import Derived.Maps.AppendAt
import Derived.Shelf.Slices.Empties2
namespace Go.Proofs.YtipohagcppfgiaaGreat
open Go.RowKit
open Go.Proofs
set_option linter.unusedVariables false
theorem CloneW_any (a : Option Addr) (n cap : Nat) (cs : List Value) (w : World) (h : Leads w a n cap cs) (hl : cs.length = n * 1) (hn : n ≤ 10000) (h1 : ∀ u ∈ cs, u.oneCell' = true) :
  Calls Tryz.prog 21 #[.slice a n cap] w (Fresh 26 1 n cs w) := by
 have q : ∀ (w : World) (a : Option Addr) (n c n' c' : Nat), (binOp .eql 22 (.slice a n c) (.slice none n' c')).run Tryz.prog w = .ok (.bool a.isNone) w := fun w a n c n' c' => Lib.run_eql_slice_nil w _ _ a n c n' c' Tryz.underlying22
 cases a with
 | none =>
  obtain ⟨_, _, ⟨rfl, rfl⟩ | ⟨b, off, h, _⟩⟩ := h
  ·clear h1 hl
   go_enter Tryz.func21, Tryz.ntmps21
   go_wp2
   go_ret
   exact ⟨_, rfl, World.ownsRow_nil _ _ _ _, Below.refl _ _⟩
  ·cases h
 | some ad =>
  have hc : ∀ j u, cs[j]? = some u → w.cell? (ad.add j) = some u := by
   obtain ⟨_, _, ⟨_, rfl⟩ | ⟨b, off, h, _, h5⟩⟩ := h
   ·intro j u hj; cases hj
   ·cases h
    intro j u hj
    have := h5 j u hj
    rcases j with _ | j
    ·simpa [Addr.add] using this
    ·simpa [Addr.add] using this
  have HC := hid hc
  have HL := hid hl
  have H1 := hid h1
  clear hc hl h1 h
  go_enter Tryz.func21, Tryz.ntmps21
  go_wp2_with (at_builtin; refine waM elemWords rfl _ _ rfl w.heap.size _ _ _ rfl (World.ownsRow_made w #[] 0 (Nat.le_refl _) (Nat.zero_le _) (by simp)) ad n cap cs rfl ?qc1 ?qc2 ?qc3 ?qc4 ?qc5 ?_)
  case qc1 => exact HL.out
  case qc2 =>
   intro j u hj
   exact Lib.cell?_alloc_some _ (HC.out j u hj)
  case qc3 => exact H1.out
  case qc4 => omega
  case qc5 => simp
  intro v' w1 hown hgrow hmv
  have hb : Below w.heap.size w w1 := ((Below.refl _ w).alloc (Nat.le_refl _) _).trans (own_below (size := 1) (World.ownsRow_made w #[] 0 (Nat.le_refl _) (Nat.zero_le _) (by simp)) hgrow (by simp))
  go_wp2
  go_ret
  exact ⟨v', rfl, by simpa using hown, hb⟩
theorem CloneB_any (a : Option Addr) (n cap : Nat) (cs : List Value) (w : World) (h : Leads w a n cap cs) (hl : cs.length = n * 1) (hn : n ≤ 10000) (h1 : ∀ u ∈ cs, u.oneCell' = true) :
  Calls Tryz.prog 22 #[.slice a n cap] w (Fresh 4 1 n cs w) := by
 have q : ∀ (w : World) (a : Option Addr) (n c n' c' : Nat), (binOp .eql 23 (.slice a n c) (.slice none n' c')).run Tryz.prog w = .ok (.bool a.isNone) w := fun w a n c n' c' => Lib.run_eql_slice_nil w _ _ a n c n' c' Tryz.underlying23
 cases a with
 | none =>
  obtain ⟨_, _, ⟨rfl, rfl⟩ | ⟨b, off, h, _⟩⟩ := h
  ·clear h1 hl
   go_enter Tryz.func22, Tryz.ntmps22
   go_wp2
   go_ret
   exact ⟨_, rfl, World.ownsRow_nil _ _ _ _, Below.refl _ _⟩
  ·cases h
 | some ad =>
  have hc : ∀ j u, cs[j]? = some u → w.cell? (ad.add j) = some u := by
   obtain ⟨_, _, ⟨_, rfl⟩ | ⟨b, off, h, _, h5⟩⟩ := h
   ·intro j u hj; cases hj
   ·cases h
    intro j u hj
    have := h5 j u hj
    rcases j with _ | j
    ·simpa [Addr.add] using this
    ·simpa [Addr.add] using this
  have HC := hid hc
  have HL := hid hl
  have H1 := hid h1
  clear hc hl h1 h
  go_enter Tryz.func22, Tryz.ntmps22
  go_wp2_with (at_builtin; refine waM elemBools rfl _ _ rfl w.heap.size _ _ _ rfl (World.ownsRow_made w #[] 0 (Nat.le_refl _) (Nat.zero_le _) (by simp)) ad n cap cs rfl ?qc1 ?qc2 ?qc3 ?qc4 ?qc5 ?_)
  case qc1 => exact HL.out
  case qc2 =>
   intro j u hj
   exact Lib.cell?_alloc_some _ (HC.out j u hj)
  case qc3 => exact H1.out
  case qc4 => omega
  case qc5 => simp
  intro v' w1 hown hgrow hmv
  have hb : Below w.heap.size w w1 := ((Below.refl _ w).alloc (Nat.le_refl _) _).trans (own_below (size := 1) (World.ownsRow_made w #[] 0 (Nat.le_refl _) (Nat.zero_le _) (by simp)) hgrow (by simp))
  go_wp2
  go_ret
  exact ⟨v', rfl, by simpa using hown, hb⟩
end Go.Proofs.YtipohagcppfgiaaGreat
