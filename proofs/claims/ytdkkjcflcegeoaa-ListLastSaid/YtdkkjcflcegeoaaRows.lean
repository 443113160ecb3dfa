/-
  No cell of these rows narrows 'for every input' (looked for: loops, veiled, ifaces, maps, wideKeys, modest, calm, conditions, laid).
  DERIVED. THE GIVEN ROWS OF THIS SEAT. 5 by the template 'for every input the law returns true; each argument reads behind the call as it read before'; 0 by the template 'total and deterministic' (their statements: YtdkkjcflcegeoaaTotals.lean).
  GIVEN WITH THE SEED: the statements are not yours to turn. If you find one false, say at which input.
  Laid BY PROGRAM, IN A SANDBOX (cutbox-rows.mjs): the forced cells as the released guide's own fill.sh prints them over the translation 9ec179d1817df51a… (all of the seat's roots in one cut). By AI agents, Wed Nov 11 2026. No macro, syntax, notation, axiom, sorry.
-/
import Derived.Test.YtdkkjcflcegeoaaChecked
import GoSem.Claim
import GoSem.ClaimJoined
import GoSem.ClaimMapViews
import Derived.JoinedTies
import Derived.KernelRfl
namespace Go.Proofs.Ytdkkjcflcegeoaa
/- THE CELL 'sum', in the pinned program and in every row, IS THE sha256 OF THE DUMP (.gsa) THAT YtdkkjcflcegeoaaProg.lean LOADS. Nothing in Lean hashes anything: it is a label: what it is worth is what the hold of that sum in a sandbox is worth. -/
noncomputable def Try.pinned : Pinned := { name := "ytdkkjcflcegeoaa", sum := "9ec179d1817df51ab9344992f3290f243747e5ce1ecfa79d8dfaf29a312893c4", checked := Try.checked }
namespace Rows
def none {H : Type} : Left H := { results := [], args := [] }

/-- 'afterglowlaw15.ListFinds': WHATEVER THE INPUT: true; the input reads as it did. -/
def listFindsSpec : ChangeSpec := { name := "listFinds", fn := fun _ => fun
  | [d1, d2, d3] => { results := [.lit (.bool true)], args := [d1, d2, d3] }
  | _ => none }
def listFindsRow : OpenClaim := { program := "ytdkkjcflcegeoaa", sum := "9ec179d1817df51ab9344992f3290f243747e5ce1ecfa79d8dfaf29a312893c4", func := "afterglow/afterglowlaw15.ListFinds", spec := "listFinds", unfollowed := true, recurses := true, apart := false }
def ListFindsSaid : Prop := listFindsRow.holds Try.pinned (OpenSpec.ofChange listFindsSpec)

/-- ITS FALSE NEIGHBOUR: 'it returns false'. Refute it at one input. -/
def listFindsWrong : ChangeSpec := { name := "listFinds", fn := fun _ => fun
  | [d1, d2, d3] => { results := [.lit (.bool false)], args := [d1, d2, d3] }
  | _ => none }
def ListFindsWrongFalsely : Prop := listFindsRow.holds Try.pinned (OpenSpec.ofChange listFindsWrong)

/-- 'afterglowlaw15.ListEdits': WHATEVER THE INPUT: true; the input reads as it did. -/
def listEditsSpec : ChangeSpec := { name := "listEdits", fn := fun _ => fun
  | [d1, d2, d3] => { results := [.lit (.bool true)], args := [d1, d2, d3] }
  | _ => none }
def listEditsRow : OpenClaim := { program := "ytdkkjcflcegeoaa", sum := "9ec179d1817df51ab9344992f3290f243747e5ce1ecfa79d8dfaf29a312893c4", func := "afterglow/afterglowlaw15.ListEdits", spec := "listEdits", unfollowed := true, recurses := true, apart := false }
def ListEditsSaid : Prop := listEditsRow.holds Try.pinned (OpenSpec.ofChange listEditsSpec)

/-- ITS FALSE NEIGHBOUR: 'it returns false'. Refute it at one input. -/
def listEditsWrong : ChangeSpec := { name := "listEdits", fn := fun _ => fun
  | [d1, d2, d3] => { results := [.lit (.bool false)], args := [d1, d2, d3] }
  | _ => none }
def ListEditsWrongFalsely : Prop := listEditsRow.holds Try.pinned (OpenSpec.ofChange listEditsWrong)

/-- 'afterglowlaw15.ListSteps': WHATEVER THE INPUT: true; the input reads as it did. -/
def listStepsSpec : ChangeSpec := { name := "listSteps", fn := fun _ => fun
  | [d1, d2, d3] => { results := [.lit (.bool true)], args := [d1, d2, d3] }
  | _ => none }
def listStepsRow : OpenClaim := { program := "ytdkkjcflcegeoaa", sum := "9ec179d1817df51ab9344992f3290f243747e5ce1ecfa79d8dfaf29a312893c4", func := "afterglow/afterglowlaw15.ListSteps", spec := "listSteps", unfollowed := true, recurses := true, apart := false }
def ListStepsSaid : Prop := listStepsRow.holds Try.pinned (OpenSpec.ofChange listStepsSpec)

/-- ITS FALSE NEIGHBOUR: 'it returns false'. Refute it at one input. -/
def listStepsWrong : ChangeSpec := { name := "listSteps", fn := fun _ => fun
  | [d1, d2, d3] => { results := [.lit (.bool false)], args := [d1, d2, d3] }
  | _ => none }
def ListStepsWrongFalsely : Prop := listStepsRow.holds Try.pinned (OpenSpec.ofChange listStepsWrong)

/-- 'afterglowlaw15.ListLast': WHATEVER THE INPUT: true; the input reads as it did. -/
def listLastSpec : ChangeSpec := { name := "listLast", fn := fun _ => fun
  | [d1, d2, d3] => { results := [.lit (.bool true)], args := [d1, d2, d3] }
  | _ => none }
def listLastRow : OpenClaim := { program := "ytdkkjcflcegeoaa", sum := "9ec179d1817df51ab9344992f3290f243747e5ce1ecfa79d8dfaf29a312893c4", func := "afterglow/afterglowlaw15.ListLast", spec := "listLast", unfollowed := true, recurses := true, apart := false }
def ListLastSaid : Prop := listLastRow.holds Try.pinned (OpenSpec.ofChange listLastSpec)

/-- ITS FALSE NEIGHBOUR: 'it returns false'. Refute it at one input. -/
def listLastWrong : ChangeSpec := { name := "listLast", fn := fun _ => fun
  | [d1, d2, d3] => { results := [.lit (.bool false)], args := [d1, d2, d3] }
  | _ => none }
def ListLastWrongFalsely : Prop := listLastRow.holds Try.pinned (OpenSpec.ofChange listLastWrong)

/-- 'afterglowlaw15.ListKeeps': WHATEVER THE INPUT: true; the input reads as it did. -/
def listKeepsSpec : ChangeSpec := { name := "listKeeps", fn := fun _ => fun
  | [d1, d2, d3] => { results := [.lit (.bool true)], args := [d1, d2, d3] }
  | _ => none }
def listKeepsRow : OpenClaim := { program := "ytdkkjcflcegeoaa", sum := "9ec179d1817df51ab9344992f3290f243747e5ce1ecfa79d8dfaf29a312893c4", func := "afterglow/afterglowlaw15.ListKeeps", spec := "listKeeps", unfollowed := true, recurses := true, apart := false }
def ListKeepsSaid : Prop := listKeepsRow.holds Try.pinned (OpenSpec.ofChange listKeepsSpec)

/-- ITS FALSE NEIGHBOUR: 'it returns false'. Refute it at one input. -/
def listKeepsWrong : ChangeSpec := { name := "listKeeps", fn := fun _ => fun
  | [d1, d2, d3] => { results := [.lit (.bool false)], args := [d1, d2, d3] }
  | _ => none }
def ListKeepsWrongFalsely : Prop := listKeepsRow.holds Try.pinned (OpenSpec.ofChange listKeepsWrong)

/- THE SECOND FORM. 'bulk': how many values and letters a reading holds, each counted each time it is reached (what is shared counts as often as it is met; a slice's spare places count too). A statement '..UptoSaid' is the law's where the arguments, and the package variables that the reading takes, are together of bulk at most 1048576: NARROWER than '..Said'. Prove '..Said' where nothing that the law and all that it calls make is longer than what came in: it says more and counts as full. Else prove '..UptoSaid'. A law counts once. -/
mutual
def uptoBulk {H : Type} : DataW H → Nat
  | .lit (.string bytes) => bytes.length + 1
  | .lit _ => 1
  | .nil => 1
  | .ptr d => uptoBulk d + 1
  | .slice elems spare => uptoBulkAll elems + uptoBulkAll spare + 1
  | .agg parts => uptoBulkAll parts + 1
  | .iface _ d => uptoBulk d + 1
  | .map entries => uptoBulkEntries entries + 1
  | .held _ => 1
def uptoBulkAll {H : Type} : List (DataW H) → Nat
  | [] => 0
  | d :: r => uptoBulk d + uptoBulkAll r
def uptoBulkEntries {H : Type} : List (Lit × DataW H) → Nat
  | [] => 0
  | x :: r => uptoBulkEntry x + uptoBulkEntries r
def uptoBulkEntry {H : Type} : Lit × DataW H → Nat
  | (.string bytes, d) => bytes.length + uptoBulk d + 1
  | (_, d) => uptoBulk d + 1
 end
def uptoSmall : (H : Type) → List (DataW H) → Bool := fun _ ds => decide (uptoBulkAll ds ≤ 1048576)
def OpenSpec.upto (s : _root_.Go.ChangeSpec) : _root_.Go.OpenSpec := { _root_.Go.OpenSpec.ofChange s with cond := some uptoSmall }

/-- 'afterglowlaw15.ListFinds', WHERE WHAT IT READS IS OF BULK AT MOST 1048576: true; the input reads as it did. -/
def listFindsUptoRow : OpenClaim := { program := "ytdkkjcflcegeoaa", sum := "9ec179d1817df51ab9344992f3290f243747e5ce1ecfa79d8dfaf29a312893c4", func := "afterglow/afterglowlaw15.ListFinds", spec := "listFinds", unfollowed := true, recurses := true, apart := false, narrowed := true }
def ListFindsUptoSaid : Prop := listFindsUptoRow.holds Try.pinned (OpenSpec.upto listFindsSpec)

/-- 'afterglowlaw15.ListEdits', WHERE WHAT IT READS IS OF BULK AT MOST 1048576: true; the input reads as it did. -/
def listEditsUptoRow : OpenClaim := { program := "ytdkkjcflcegeoaa", sum := "9ec179d1817df51ab9344992f3290f243747e5ce1ecfa79d8dfaf29a312893c4", func := "afterglow/afterglowlaw15.ListEdits", spec := "listEdits", unfollowed := true, recurses := true, apart := false, narrowed := true }
def ListEditsUptoSaid : Prop := listEditsUptoRow.holds Try.pinned (OpenSpec.upto listEditsSpec)

/-- 'afterglowlaw15.ListSteps', WHERE WHAT IT READS IS OF BULK AT MOST 1048576: true; the input reads as it did. -/
def listStepsUptoRow : OpenClaim := { program := "ytdkkjcflcegeoaa", sum := "9ec179d1817df51ab9344992f3290f243747e5ce1ecfa79d8dfaf29a312893c4", func := "afterglow/afterglowlaw15.ListSteps", spec := "listSteps", unfollowed := true, recurses := true, apart := false, narrowed := true }
def ListStepsUptoSaid : Prop := listStepsUptoRow.holds Try.pinned (OpenSpec.upto listStepsSpec)

/-- 'afterglowlaw15.ListLast', WHERE WHAT IT READS IS OF BULK AT MOST 1048576: true; the input reads as it did. -/
def listLastUptoRow : OpenClaim := { program := "ytdkkjcflcegeoaa", sum := "9ec179d1817df51ab9344992f3290f243747e5ce1ecfa79d8dfaf29a312893c4", func := "afterglow/afterglowlaw15.ListLast", spec := "listLast", unfollowed := true, recurses := true, apart := false, narrowed := true }
def ListLastUptoSaid : Prop := listLastUptoRow.holds Try.pinned (OpenSpec.upto listLastSpec)

/-- 'afterglowlaw15.ListKeeps', WHERE WHAT IT READS IS OF BULK AT MOST 1048576: true; the input reads as it did. -/
def listKeepsUptoRow : OpenClaim := { program := "ytdkkjcflcegeoaa", sum := "9ec179d1817df51ab9344992f3290f243747e5ce1ecfa79d8dfaf29a312893c4", func := "afterglow/afterglowlaw15.ListKeeps", spec := "listKeeps", unfollowed := true, recurses := true, apart := false, narrowed := true }
def ListKeepsUptoSaid : Prop := listKeepsUptoRow.holds Try.pinned (OpenSpec.upto listKeepsSpec)

end Rows
end Go.Proofs.Ytdkkjcflcegeoaa
