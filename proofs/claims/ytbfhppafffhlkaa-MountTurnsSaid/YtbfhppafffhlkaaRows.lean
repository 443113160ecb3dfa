/-
  No cell of these rows narrows 'for every input' (looked for: loops, veiled, ifaces, maps, wideKeys, modest, calm, conditions, laid).
  DERIVED. THE GIVEN ROWS OF THIS SEAT. 4 by the template 'for every input the law returns true; each argument reads behind the call as it read before'; 0 by the template 'total and deterministic' (their statements: YtbfhppafffhlkaaTotals.lean).
  GIVEN WITH THE SEED: the statements are not yours to turn. If you find one false, say at which input.
  Laid BY PROGRAM, IN A SANDBOX (cutbox-rows.mjs): the forced cells as the released guide's own fill.sh prints them over the translation b2b638be075b7228… (all of the seat's roots in one cut). By AI agents, Wed Nov 11 2026. No macro, syntax, notation, axiom, sorry.
-/
import Derived.Test.YtbfhppafffhlkaaChecked
import GoSem.Claim
import GoSem.ClaimJoined
import GoSem.ClaimMapViews
import Derived.JoinedTies
import Derived.KernelRfl
namespace Go.Proofs.Ytbfhppafffhlkaa
/- THE CELL 'sum', in the pinned program and in every row, IS THE sha256 OF THE DUMP (.gsa) THAT YtbfhppafffhlkaaProg.lean LOADS. Nothing in Lean hashes anything: it is a label: what it is worth is what the hold of that sum in a sandbox is worth. -/
noncomputable def Try.pinned : Pinned := { name := "ytbfhppafffhlkaa", sum := "b2b638be075b72281bec018d6f5506962a9f3c8d33edd935f6b14e8781041316", checked := Try.checked }
namespace Rows
def none {H : Type} : Left H := { results := [], args := [] }

/-- 'afterglowlaw24.MountTurns': WHATEVER THE INPUT: true; the input reads as it did. -/
def mountTurnsSpec : ChangeSpec := { name := "mountTurns", fn := fun _ => fun
  | [d1, d2] => { results := [.lit (.bool true)], args := [d1, d2] }
  | _ => none }
def mountTurnsRow : OpenClaim := { program := "ytbfhppafffhlkaa", sum := "b2b638be075b72281bec018d6f5506962a9f3c8d33edd935f6b14e8781041316", func := "afterglow/afterglowlaw24.MountTurns", spec := "mountTurns", inPlace := ["internal/bytealg.IndexByteString", "internal/abi.NoEscape", "internal/bytealg.MakeNoZero"], unfollowed := true, recurses := true, apart := false }
def MountTurnsSaid : Prop := mountTurnsRow.holds Try.pinned (OpenSpec.ofChange mountTurnsSpec)

/-- ITS FALSE NEIGHBOUR: 'it returns false'. Refute it at one input. -/
def mountTurnsWrong : ChangeSpec := { name := "mountTurns", fn := fun _ => fun
  | [d1, d2] => { results := [.lit (.bool false)], args := [d1, d2] }
  | _ => none }
def MountTurnsWrongFalsely : Prop := mountTurnsRow.holds Try.pinned (OpenSpec.ofChange mountTurnsWrong)

/-- 'afterglowlaw24.MountNearest': WHATEVER THE INPUT: true; the input reads as it did. -/
def mountNearestSpec : ChangeSpec := { name := "mountNearest", fn := fun _ => fun
  | [d1, d2] => { results := [.lit (.bool true)], args := [d1, d2] }
  | _ => none }
def mountNearestRow : OpenClaim := { program := "ytbfhppafffhlkaa", sum := "b2b638be075b72281bec018d6f5506962a9f3c8d33edd935f6b14e8781041316", func := "afterglow/afterglowlaw24.MountNearest", spec := "mountNearest", inPlace := ["internal/bytealg.IndexByteString", "internal/abi.NoEscape", "internal/bytealg.MakeNoZero"], unfollowed := true, recurses := true, apart := false }
def MountNearestSaid : Prop := mountNearestRow.holds Try.pinned (OpenSpec.ofChange mountNearestSpec)

/-- ITS FALSE NEIGHBOUR: 'it returns false'. Refute it at one input. -/
def mountNearestWrong : ChangeSpec := { name := "mountNearest", fn := fun _ => fun
  | [d1, d2] => { results := [.lit (.bool false)], args := [d1, d2] }
  | _ => none }
def MountNearestWrongFalsely : Prop := mountNearestRow.holds Try.pinned (OpenSpec.ofChange mountNearestWrong)

/-- 'afterglowlaw24.MountOnce': WHATEVER THE INPUT: true; the input reads as it did. -/
def mountOnceSpec : ChangeSpec := { name := "mountOnce", fn := fun _ => fun
  | [d1, d2] => { results := [.lit (.bool true)], args := [d1, d2] }
  | _ => none }
def mountOnceRow : OpenClaim := { program := "ytbfhppafffhlkaa", sum := "b2b638be075b72281bec018d6f5506962a9f3c8d33edd935f6b14e8781041316", func := "afterglow/afterglowlaw24.MountOnce", spec := "mountOnce", inPlace := ["internal/bytealg.IndexByteString", "internal/abi.NoEscape", "internal/bytealg.MakeNoZero"], unfollowed := true, recurses := true, apart := false }
def MountOnceSaid : Prop := mountOnceRow.holds Try.pinned (OpenSpec.ofChange mountOnceSpec)

/-- ITS FALSE NEIGHBOUR: 'it returns false'. Refute it at one input. -/
def mountOnceWrong : ChangeSpec := { name := "mountOnce", fn := fun _ => fun
  | [d1, d2] => { results := [.lit (.bool false)], args := [d1, d2] }
  | _ => none }
def MountOnceWrongFalsely : Prop := mountOnceRow.holds Try.pinned (OpenSpec.ofChange mountOnceWrong)

/-- 'afterglowlaw24.MountClears': WHATEVER THE INPUT: true; the input reads as it did. -/
def mountClearsSpec : ChangeSpec := { name := "mountClears", fn := fun _ => fun
  | [d] => { results := [.lit (.bool true)], args := [d] }
  | _ => none }
def mountClearsRow : OpenClaim := { program := "ytbfhppafffhlkaa", sum := "b2b638be075b72281bec018d6f5506962a9f3c8d33edd935f6b14e8781041316", func := "afterglow/afterglowlaw24.MountClears", spec := "mountClears", inPlace := ["internal/bytealg.IndexByteString", "internal/abi.NoEscape", "internal/bytealg.MakeNoZero"], unfollowed := true, recurses := true, apart := false }
def MountClearsSaid : Prop := mountClearsRow.holds Try.pinned (OpenSpec.ofChange mountClearsSpec)

/-- ITS FALSE NEIGHBOUR: 'it returns false'. Refute it at one input. -/
def mountClearsWrong : ChangeSpec := { name := "mountClears", fn := fun _ => fun
  | [d] => { results := [.lit (.bool false)], args := [d] }
  | _ => none }
def MountClearsWrongFalsely : Prop := mountClearsRow.holds Try.pinned (OpenSpec.ofChange mountClearsWrong)

/- THE SECOND FORM. 'bulk': how many values and letters a reading holds, each counted each time it is reached (what is shared counts as often as it is met; a slice's spare places count too). A statement '..UptoSaid' is the law's where the arguments, and the package variables that the reading takes, are together of bulk at most 1048576: NARROWER than '..Said'. Prove '..Said' where nothing that the law and all that it calls make is longer than what came in: it says more and counts as full. Else prove '..UptoSaid'. A law counts once. -/
mutual
def uptoBulk {H : Type} : DataW H → Nat
  | .lit (.string bytes) => bytes.length + 1
  | .lit _ => 1
  | .nil => 1
  | .ptr d => uptoBulk d + 1
  | .slice elems spare => uptoBulkAll elems + uptoBulkAll spare + 1
  | .agg parts => uptoBulkAll parts + 1
  | .iface _ d => uptoBulk d + 1
  | .map entries => uptoBulkEntries entries + 1
  | .held _ => 1
def uptoBulkAll {H : Type} : List (DataW H) → Nat
  | [] => 0
  | d :: r => uptoBulk d + uptoBulkAll r
def uptoBulkEntries {H : Type} : List (Lit × DataW H) → Nat
  | [] => 0
  | x :: r => uptoBulkEntry x + uptoBulkEntries r
def uptoBulkEntry {H : Type} : Lit × DataW H → Nat
  | (.string bytes, d) => bytes.length + uptoBulk d + 1
  | (_, d) => uptoBulk d + 1
 end
def uptoSmall : (H : Type) → List (DataW H) → Bool := fun _ ds => decide (uptoBulkAll ds ≤ 1048576)
def OpenSpec.upto (s : _root_.Go.ChangeSpec) : _root_.Go.OpenSpec := { _root_.Go.OpenSpec.ofChange s with cond := some uptoSmall }

/-- 'afterglowlaw24.MountTurns', WHERE WHAT IT READS IS OF BULK AT MOST 1048576: true; the input reads as it did. -/
def mountTurnsUptoRow : OpenClaim := { program := "ytbfhppafffhlkaa", sum := "b2b638be075b72281bec018d6f5506962a9f3c8d33edd935f6b14e8781041316", func := "afterglow/afterglowlaw24.MountTurns", spec := "mountTurns", inPlace := ["internal/bytealg.IndexByteString", "internal/abi.NoEscape", "internal/bytealg.MakeNoZero"], unfollowed := true, recurses := true, apart := false, narrowed := true }
def MountTurnsUptoSaid : Prop := mountTurnsUptoRow.holds Try.pinned (OpenSpec.upto mountTurnsSpec)

/-- 'afterglowlaw24.MountNearest', WHERE WHAT IT READS IS OF BULK AT MOST 1048576: true; the input reads as it did. -/
def mountNearestUptoRow : OpenClaim := { program := "ytbfhppafffhlkaa", sum := "b2b638be075b72281bec018d6f5506962a9f3c8d33edd935f6b14e8781041316", func := "afterglow/afterglowlaw24.MountNearest", spec := "mountNearest", inPlace := ["internal/bytealg.IndexByteString", "internal/abi.NoEscape", "internal/bytealg.MakeNoZero"], unfollowed := true, recurses := true, apart := false, narrowed := true }
def MountNearestUptoSaid : Prop := mountNearestUptoRow.holds Try.pinned (OpenSpec.upto mountNearestSpec)

/-- 'afterglowlaw24.MountOnce', WHERE WHAT IT READS IS OF BULK AT MOST 1048576: true; the input reads as it did. -/
def mountOnceUptoRow : OpenClaim := { program := "ytbfhppafffhlkaa", sum := "b2b638be075b72281bec018d6f5506962a9f3c8d33edd935f6b14e8781041316", func := "afterglow/afterglowlaw24.MountOnce", spec := "mountOnce", inPlace := ["internal/bytealg.IndexByteString", "internal/abi.NoEscape", "internal/bytealg.MakeNoZero"], unfollowed := true, recurses := true, apart := false, narrowed := true }
def MountOnceUptoSaid : Prop := mountOnceUptoRow.holds Try.pinned (OpenSpec.upto mountOnceSpec)

/-- 'afterglowlaw24.MountClears', WHERE WHAT IT READS IS OF BULK AT MOST 1048576: true; the input reads as it did. -/
def mountClearsUptoRow : OpenClaim := { program := "ytbfhppafffhlkaa", sum := "b2b638be075b72281bec018d6f5506962a9f3c8d33edd935f6b14e8781041316", func := "afterglow/afterglowlaw24.MountClears", spec := "mountClears", inPlace := ["internal/bytealg.IndexByteString", "internal/abi.NoEscape", "internal/bytealg.MakeNoZero"], unfollowed := true, recurses := true, apart := false, narrowed := true }
def MountClearsUptoSaid : Prop := mountClearsUptoRow.holds Try.pinned (OpenSpec.upto mountClearsSpec)

end Rows
end Go.Proofs.Ytbfhppafffhlkaa
