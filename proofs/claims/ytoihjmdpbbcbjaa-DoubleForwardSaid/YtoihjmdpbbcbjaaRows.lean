/-
  No cell of these rows narrows 'for every input' (looked for: loops, veiled, ifaces, maps, wideKeys, modest, calm, conditions, laid).
  DERIVED. THE GIVEN ROWS OF THIS SEAT. 4 by the template 'for every input the law returns true; each argument reads behind the call as it read before'; 0 by the template 'total and deterministic' (their statements: YtoihjmdpbbcbjaaTotals.lean).
  GIVEN WITH THE SEED: the statements are not yours to turn. If you find one false, say at which input.
  Laid BY PROGRAM, IN A SANDBOX (cutbox-rows.mjs): the forced cells as the released guide's own fill.sh prints them over the translation bf437f07e9509cca… (all of the seat's roots in one cut). By AI agents, Wed Nov 11 2026. No macro, syntax, notation, axiom, sorry.
-/
import Derived.Test.YtoihjmdpbbcbjaaChecked
import GoSem.Claim
import GoSem.ClaimJoined
import GoSem.ClaimMapViews
import Derived.JoinedTies
import Derived.KernelRfl
namespace Go.Proofs.Ytoihjmdpbbcbjaa
/- THE CELL 'sum', in the pinned program and in every row, IS THE sha256 OF THE DUMP (.gsa) THAT YtoihjmdpbbcbjaaProg.lean LOADS. Nothing in Lean hashes anything: it is a label: what it is worth is what the hold of that sum in a sandbox is worth. -/
noncomputable def Try.pinned : Pinned := { name := "ytoihjmdpbbcbjaa", sum := "bf437f07e9509ccaf82a39b3ef8d4efe6a7a14b6f54ff9f9a60c9415fcb01de0", checked := Try.checked }
namespace Rows
def none {H : Type} : Left H := { results := [], args := [] }

/-- 'afterglowlaw16.DoubleLists': WHATEVER THE INPUT: true; the input reads as it did. -/
def doubleListsSpec : ChangeSpec := { name := "doubleLists", fn := fun _ => fun
  | [d1, d2, d3] => { results := [.lit (.bool true)], args := [d1, d2, d3] }
  | _ => none }
def doubleListsRow : OpenClaim := { program := "ytoihjmdpbbcbjaa", sum := "bf437f07e9509ccaf82a39b3ef8d4efe6a7a14b6f54ff9f9a60c9415fcb01de0", func := "afterglow/afterglowlaw16.DoubleLists", spec := "doubleLists", unfollowed := true, recurses := true, apart := false }
def DoubleListsSaid : Prop := doubleListsRow.holds Try.pinned (OpenSpec.ofChange doubleListsSpec)

/-- ITS FALSE NEIGHBOUR: 'it returns false'. Refute it at one input. -/
def doubleListsWrong : ChangeSpec := { name := "doubleLists", fn := fun _ => fun
  | [d1, d2, d3] => { results := [.lit (.bool false)], args := [d1, d2, d3] }
  | _ => none }
def DoubleListsWrongFalsely : Prop := doubleListsRow.holds Try.pinned (OpenSpec.ofChange doubleListsWrong)

/-- 'afterglowlaw16.DoubleEdits': WHATEVER THE INPUT: true; the input reads as it did. -/
def doubleEditsSpec : ChangeSpec := { name := "doubleEdits", fn := fun _ => fun
  | [d1, d2, d3] => { results := [.lit (.bool true)], args := [d1, d2, d3] }
  | _ => none }
def doubleEditsRow : OpenClaim := { program := "ytoihjmdpbbcbjaa", sum := "bf437f07e9509ccaf82a39b3ef8d4efe6a7a14b6f54ff9f9a60c9415fcb01de0", func := "afterglow/afterglowlaw16.DoubleEdits", spec := "doubleEdits", unfollowed := true, recurses := true, apart := false }
def DoubleEditsSaid : Prop := doubleEditsRow.holds Try.pinned (OpenSpec.ofChange doubleEditsSpec)

/-- ITS FALSE NEIGHBOUR: 'it returns false'. Refute it at one input. -/
def doubleEditsWrong : ChangeSpec := { name := "doubleEdits", fn := fun _ => fun
  | [d1, d2, d3] => { results := [.lit (.bool false)], args := [d1, d2, d3] }
  | _ => none }
def DoubleEditsWrongFalsely : Prop := doubleEditsRow.holds Try.pinned (OpenSpec.ofChange doubleEditsWrong)

/-- 'afterglowlaw16.DoubleSteps': WHATEVER THE INPUT: true; the input reads as it did. -/
def doubleStepsSpec : ChangeSpec := { name := "doubleSteps", fn := fun _ => fun
  | [d1, d2] => { results := [.lit (.bool true)], args := [d1, d2] }
  | _ => none }
def doubleStepsRow : OpenClaim := { program := "ytoihjmdpbbcbjaa", sum := "bf437f07e9509ccaf82a39b3ef8d4efe6a7a14b6f54ff9f9a60c9415fcb01de0", func := "afterglow/afterglowlaw16.DoubleSteps", spec := "doubleSteps", unfollowed := true, recurses := true, apart := false }
def DoubleStepsSaid : Prop := doubleStepsRow.holds Try.pinned (OpenSpec.ofChange doubleStepsSpec)

/-- ITS FALSE NEIGHBOUR: 'it returns false'. Refute it at one input. -/
def doubleStepsWrong : ChangeSpec := { name := "doubleSteps", fn := fun _ => fun
  | [d1, d2] => { results := [.lit (.bool false)], args := [d1, d2] }
  | _ => none }
def DoubleStepsWrongFalsely : Prop := doubleStepsRow.holds Try.pinned (OpenSpec.ofChange doubleStepsWrong)

/-- 'afterglowlaw16.DoubleForward': WHATEVER THE INPUT: true; the input reads as it did. -/
def doubleForwardSpec : ChangeSpec := { name := "doubleForward", fn := fun _ => fun
  | [d1, d2, d3] => { results := [.lit (.bool true)], args := [d1, d2, d3] }
  | _ => none }
def doubleForwardRow : OpenClaim := { program := "ytoihjmdpbbcbjaa", sum := "bf437f07e9509ccaf82a39b3ef8d4efe6a7a14b6f54ff9f9a60c9415fcb01de0", func := "afterglow/afterglowlaw16.DoubleForward", spec := "doubleForward", unfollowed := true, recurses := true, apart := false }
def DoubleForwardSaid : Prop := doubleForwardRow.holds Try.pinned (OpenSpec.ofChange doubleForwardSpec)

/-- ITS FALSE NEIGHBOUR: 'it returns false'. Refute it at one input. -/
def doubleForwardWrong : ChangeSpec := { name := "doubleForward", fn := fun _ => fun
  | [d1, d2, d3] => { results := [.lit (.bool false)], args := [d1, d2, d3] }
  | _ => none }
def DoubleForwardWrongFalsely : Prop := doubleForwardRow.holds Try.pinned (OpenSpec.ofChange doubleForwardWrong)

/- THE SECOND FORM. 'bulk': how many values and letters a reading holds, each counted each time it is reached (what is shared counts as often as it is met; a slice's spare places count too). A statement '..UptoSaid' is the law's where the arguments, and the package variables that the reading takes, are together of bulk at most 1048576: NARROWER than '..Said'. Prove '..Said' where nothing that the law and all that it calls make is longer than what came in: it says more and counts as full. Else prove '..UptoSaid'. A law counts once. -/
mutual
def uptoBulk {H : Type} : DataW H → Nat
  | .lit (.string bytes) => bytes.length + 1
  | .lit _ => 1
  | .nil => 1
  | .ptr d => uptoBulk d + 1
  | .slice elems spare => uptoBulkAll elems + uptoBulkAll spare + 1
  | .agg parts => uptoBulkAll parts + 1
  | .iface _ d => uptoBulk d + 1
  | .map entries => uptoBulkEntries entries + 1
  | .held _ => 1
def uptoBulkAll {H : Type} : List (DataW H) → Nat
  | [] => 0
  | d :: r => uptoBulk d + uptoBulkAll r
def uptoBulkEntries {H : Type} : List (Lit × DataW H) → Nat
  | [] => 0
  | x :: r => uptoBulkEntry x + uptoBulkEntries r
def uptoBulkEntry {H : Type} : Lit × DataW H → Nat
  | (.string bytes, d) => bytes.length + uptoBulk d + 1
  | (_, d) => uptoBulk d + 1
 end
def uptoSmall : (H : Type) → List (DataW H) → Bool := fun _ ds => decide (uptoBulkAll ds ≤ 1048576)
def OpenSpec.upto (s : _root_.Go.ChangeSpec) : _root_.Go.OpenSpec := { _root_.Go.OpenSpec.ofChange s with cond := some uptoSmall }

/-- 'afterglowlaw16.DoubleLists', WHERE WHAT IT READS IS OF BULK AT MOST 1048576: true; the input reads as it did. -/
def doubleListsUptoRow : OpenClaim := { program := "ytoihjmdpbbcbjaa", sum := "bf437f07e9509ccaf82a39b3ef8d4efe6a7a14b6f54ff9f9a60c9415fcb01de0", func := "afterglow/afterglowlaw16.DoubleLists", spec := "doubleLists", unfollowed := true, recurses := true, apart := false, narrowed := true }
def DoubleListsUptoSaid : Prop := doubleListsUptoRow.holds Try.pinned (OpenSpec.upto doubleListsSpec)

/-- 'afterglowlaw16.DoubleEdits', WHERE WHAT IT READS IS OF BULK AT MOST 1048576: true; the input reads as it did. -/
def doubleEditsUptoRow : OpenClaim := { program := "ytoihjmdpbbcbjaa", sum := "bf437f07e9509ccaf82a39b3ef8d4efe6a7a14b6f54ff9f9a60c9415fcb01de0", func := "afterglow/afterglowlaw16.DoubleEdits", spec := "doubleEdits", unfollowed := true, recurses := true, apart := false, narrowed := true }
def DoubleEditsUptoSaid : Prop := doubleEditsUptoRow.holds Try.pinned (OpenSpec.upto doubleEditsSpec)

/-- 'afterglowlaw16.DoubleSteps', WHERE WHAT IT READS IS OF BULK AT MOST 1048576: true; the input reads as it did. -/
def doubleStepsUptoRow : OpenClaim := { program := "ytoihjmdpbbcbjaa", sum := "bf437f07e9509ccaf82a39b3ef8d4efe6a7a14b6f54ff9f9a60c9415fcb01de0", func := "afterglow/afterglowlaw16.DoubleSteps", spec := "doubleSteps", unfollowed := true, recurses := true, apart := false, narrowed := true }
def DoubleStepsUptoSaid : Prop := doubleStepsUptoRow.holds Try.pinned (OpenSpec.upto doubleStepsSpec)

/-- 'afterglowlaw16.DoubleForward', WHERE WHAT IT READS IS OF BULK AT MOST 1048576: true; the input reads as it did. -/
def doubleForwardUptoRow : OpenClaim := { program := "ytoihjmdpbbcbjaa", sum := "bf437f07e9509ccaf82a39b3ef8d4efe6a7a14b6f54ff9f9a60c9415fcb01de0", func := "afterglow/afterglowlaw16.DoubleForward", spec := "doubleForward", unfollowed := true, recurses := true, apart := false, narrowed := true }
def DoubleForwardUptoSaid : Prop := doubleForwardUptoRow.holds Try.pinned (OpenSpec.upto doubleForwardSpec)

end Rows
end Go.Proofs.Ytoihjmdpbbcbjaa
