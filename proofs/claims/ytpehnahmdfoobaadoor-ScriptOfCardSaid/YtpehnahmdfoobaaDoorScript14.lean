/- Scripts: slices.Clone at ints, calls, words. -/
import Derived.Test.YtpehnahmdfoobaaDoorScript13
namespace Go.Proofs.YtpehnahmdfoobaaDoor
open Go.RowKit
open Go.Proofs
set_option linter.unusedVariables false

/-- A call gives a new row of its own. -/
def Fresh (e : TypeId) (size n : Nat) (cs : List Value) (w : World) (en : Ending) (w' : World) : Prop :=
  ∃ v, en = .returned v ∧ w'.ownsRow w.heap.size e size v n cs ∧ Below w.heap.size w w'
theorem elemWords : Elem Tryd.prog 30 32 1 8 := Elem.mk' (z := .int .u64 0) Tryd.underlying30 (by kernel_rfl) rfl (by decide) (by decide)

theorem CloneI_any (a : Option Addr) (n cap : Nat) (cs : List Value) (w : World) (h : Leads w a n cap cs) (hl : cs.length = n * 1) (hn : n ≤ 10000) (h1 : ∀ u ∈ cs, u.oneCell' = true) :
    Calls Tryd.prog 31 #[.slice a n cap] w (Fresh 3 1 n cs w) := by
  have q : ∀ (w : World) (a : Option Addr) (n c n' c' : Nat), (binOp .eql 22 (.slice a n c) (.slice none n' c')).run Tryd.prog w = .ok (.bool a.isNone) w := fun w a n c n' c' => Lib.run_eql_slice_nil w _ _ a n c n' c' Tryd.underlying22
  cases a with
  | none =>
    obtain ⟨_, _, ⟨rfl, rfl⟩ | ⟨b, off, h, _⟩⟩ := h
    · clear h1 hl
      go_enter Tryd.func31, Tryd.ntmps31
      go_wp2
      go_ret
      exact ⟨_, rfl, World.ownsRow_nil _ _ _ _, Below.refl _ _⟩
    · cases h
  | some ad =>
    have hc : ∀ j u, cs[j]? = some u → w.cell? (ad.add j) = some u := by
      obtain ⟨_, _, ⟨_, rfl⟩ | ⟨b, off, h, _, h5⟩⟩ := h
      · intro j u hj; cases hj
      · cases h
        intro j u hj
        have := h5 j u hj
        rcases j with _ | j
        · simpa [Addr.add] using this
        · simpa [Addr.add] using this
    have HC := hid hc
    have HL := hid hl
    have H1 := hid h1
    clear hc hl h1 h
    go_enter Tryd.func31, Tryd.ntmps31
    go_wp2_with (at_builtin; refine wp_appendM elemInts rfl _ _ rfl w.heap.size _ _ _ rfl (World.ownsRow_made w #[] 0 (Nat.le_refl _) (Nat.zero_le _) (by simp)) ad n cap cs rfl ?qc1 ?qc2 ?qc3 ?qc4 ?qc5 ?_)
    case qc1 => exact HL.out
    case qc2 =>
      intro j u hj
      exact Lib.cell?_alloc_some _ (HC.out j u hj)
    case qc3 => exact H1.out
    case qc4 => omega
    case qc5 => simp
    intro v' w1 hown hgrow hmv
    have hb : Below w.heap.size w w1 := ((Below.refl _ w).alloc (Nat.le_refl _) _).trans (own_below (size := 1) (World.ownsRow_made w #[] 0 (Nat.le_refl _) (Nat.zero_le _) (by simp)) hgrow (by simp))
    go_wp2
    go_ret
    exact ⟨v', rfl, by simpa using hown, hb⟩

theorem CloneC_any (a : Option Addr) (n cap : Nat) (cs : List Value) (w : World) (h : Leads w a n cap cs) (hl : cs.length = n * 5) (hn : n ≤ 10000) (h1 : ∀ u ∈ cs, u.oneCell' = true) :
    Calls Tryd.prog 32 #[.slice a n cap] w (Fresh 53 5 n cs w) := by
  have q : ∀ (w : World) (a : Option Addr) (n c n' c' : Nat), (binOp .eql 46 (.slice a n c) (.slice none n' c')).run Tryd.prog w = .ok (.bool a.isNone) w := fun w a n c n' c' => Lib.run_eql_slice_nil w _ _ a n c n' c' Tryd.underlying46
  cases a with
  | none =>
    obtain ⟨_, _, ⟨rfl, rfl⟩ | ⟨b, off, h, _⟩⟩ := h
    · clear h1 hl
      go_enter Tryd.func32, Tryd.ntmps32
      go_wp2
      go_ret
      exact ⟨_, rfl, World.ownsRow_nil _ _ _ _, Below.refl _ _⟩
    · cases h
  | some ad =>
    have hc : ∀ j u, cs[j]? = some u → w.cell? (ad.add j) = some u := by
      obtain ⟨_, _, ⟨_, rfl⟩ | ⟨b, off, h, _, h5⟩⟩ := h
      · intro j u hj; cases hj
      · cases h
        intro j u hj
        have := h5 j u hj
        rcases j with _ | j
        · simpa [Addr.add] using this
        · simpa [Addr.add] using this
    have HC := hid hc
    have HL := hid hl
    have H1 := hid h1
    clear hc hl h1 h
    go_enter Tryd.func32, Tryd.ntmps32
    go_wp2_with (at_builtin; refine wp_appendM elemCalls rfl _ _ rfl w.heap.size _ _ _ rfl (World.ownsRow_made w #[] 0 (Nat.le_refl _) (Nat.zero_le _) (by simp)) ad n cap cs rfl ?qc1 ?qc2 ?qc3 ?qc4 ?qc5 ?_)
    case qc1 => exact HL.out
    case qc2 =>
      intro j u hj
      exact Lib.cell?_alloc_some _ (HC.out j u hj)
    case qc3 => exact H1.out
    case qc4 => omega
    case qc5 => simp
    intro v' w1 hown hgrow hmv
    have hb : Below w.heap.size w w1 := ((Below.refl _ w).alloc (Nat.le_refl _) _).trans (own_below (size := 5) (World.ownsRow_made w #[] 0 (Nat.le_refl _) (Nat.zero_le _) (by simp)) hgrow (by simp))
    go_wp2
    go_ret
    exact ⟨v', rfl, by simpa using hown, hb⟩

theorem CloneW_any (a : Option Addr) (n cap : Nat) (cs : List Value) (w : World) (h : Leads w a n cap cs) (hl : cs.length = n * 1) (hn : n ≤ 10000) (h1 : ∀ u ∈ cs, u.oneCell' = true) :
    Calls Tryd.prog 12 #[.slice a n cap] w (Fresh 32 1 n cs w) := by
  have q : ∀ (w : World) (a : Option Addr) (n c n' c' : Nat), (binOp .eql 30 (.slice a n c) (.slice none n' c')).run Tryd.prog w = .ok (.bool a.isNone) w := fun w a n c n' c' => Lib.run_eql_slice_nil w _ _ a n c n' c' Tryd.underlying30
  cases a with
  | none =>
    obtain ⟨_, _, ⟨rfl, rfl⟩ | ⟨b, off, h, _⟩⟩ := h
    · clear h1 hl
      go_enter Tryd.func12, Tryd.ntmps12
      go_wp2
      go_ret
      exact ⟨_, rfl, World.ownsRow_nil _ _ _ _, Below.refl _ _⟩
    · cases h
  | some ad =>
    have hc : ∀ j u, cs[j]? = some u → w.cell? (ad.add j) = some u := by
      obtain ⟨_, _, ⟨_, rfl⟩ | ⟨b, off, h, _, h5⟩⟩ := h
      · intro j u hj; cases hj
      · cases h
        intro j u hj
        have := h5 j u hj
        rcases j with _ | j
        · simpa [Addr.add] using this
        · simpa [Addr.add] using this
    have HC := hid hc
    have HL := hid hl
    have H1 := hid h1
    clear hc hl h1 h
    go_enter Tryd.func12, Tryd.ntmps12
    go_wp2_with (at_builtin; refine wp_appendM elemWords rfl _ _ rfl w.heap.size _ _ _ rfl (World.ownsRow_made w #[] 0 (Nat.le_refl _) (Nat.zero_le _) (by simp)) ad n cap cs rfl ?qc1 ?qc2 ?qc3 ?qc4 ?qc5 ?_)
    case qc1 => exact HL.out
    case qc2 =>
      intro j u hj
      exact Lib.cell?_alloc_some _ (HC.out j u hj)
    case qc3 => exact H1.out
    case qc4 => omega
    case qc5 => simp
    intro v' w1 hown hgrow hmv
    have hb : Below w.heap.size w w1 := ((Below.refl _ w).alloc (Nat.le_refl _) _).trans (own_below (size := 1) (World.ownsRow_made w #[] 0 (Nat.le_refl _) (Nat.zero_le _) (by simp)) hgrow (by simp))
    go_wp2
    go_ret
    exact ⟨v', rfl, by simpa using hown, hb⟩

end Go.Proofs.YtpehnahmdfoobaaDoor
