/- An operation that its guard asks for is walked as one without a guard. No program in sight. -/
import Derived.Test.YtmnbkhmphhgdiaaDoorOwn
import Derived.Test.YtmnbkhmphhgdiaaDoorRange
namespace Go.Proofs.YtmnbkhmphhgdiaaDoor
open Go.RowKit
set_option linter.unusedVariables false
theorem wpList_unguard {P : Program} {w : World} {ops : Array Oper} {rest : List Oper} {o : Oper} {a : Act} {Q : Exit → Act → World → Prop} (hw : Region.wanted o (yielded ops a.tmps) = true)
    (h : wpList P ops Q ({ o with guard := none } :: rest) a w) : wpList P ops Q (o :: rest) a w := by
  have hn : Region.wanted { o with guard := none } (yielded ops a.tmps) = true := by simp [Region.wanted]
  unfold wpList at h ⊢
  rw [if_pos hn] at h
  rw [if_pos hw]
  exact h
end Go.Proofs.YtmnbkhmphhgdiaaDoor
