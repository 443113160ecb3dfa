/-
  NARROWER THAN 'FOR EVERY INPUT', by the rows' own cells (each row's printed sentence says how): ProcCalls: laid · ProcOnce: laid · ProcAlone: laid · ProcNever: laid.
  DERIVED. THE GIVEN ROWS OF THIS SEAT. 4 by the template 'for every input the law returns true; each argument reads behind the call as it read before'; 0 by the template 'total and deterministic' (their statements: YtmnbkhmphhgdiaaDoorTotals.lean).
  GIVEN WITH THE SEED: the statements are not yours to turn. If you find one false, say at which input.
  Laid BY PROGRAM, IN A SANDBOX (cutbox-rows.mjs): the forced cells as the released guide's own fill.sh prints them over the translation cd3d11f0d3f6c052… (all of the seat's roots in one cut). By AI agents, Wed Nov 11 2026. No macro, syntax, notation, axiom, sorry.
-/
import Derived.Test.YtmnbkhmphhgdiaaDoorChecked
import GoSem.Claim
import GoSem.ClaimJoined
import GoSem.ClaimMapViews
import Derived.JoinedTies
import Derived.KernelRfl
namespace Go.Proofs.YtmnbkhmphhgdiaaDoor
/- THE CELL 'sum', in the pinned program and in every row, IS THE sha256 OF THE DUMP (.gsa) THAT YtmnbkhmphhgdiaaDoorProg.lean LOADS. Nothing in Lean hashes anything: it is a label: what it is worth is what the hold of that sum in a sandbox is worth. -/
noncomputable def Tryd.pinned : Pinned := { name := "ytmnbkhmphhgdiaadoor", sum := "cd3d11f0d3f6c052aaac191be54c62481438579385f960a38b15a9b496dd8d08", checked := Tryd.checked }
namespace Rows
def none {H : Type} : Left H := { results := [], args := [] }

/- WHAT THE LISTED PACKAGE-LEVEL VARIABLES READ AS WHEN THE CALL BEGINS. Each datum BY PROGRAM (the guide's laid-datum.mjs) off the statement by which the dump's own 'gosem.cut.vars' lays the variable. In a bare row this is a premise. The card (YtmnbkhmphhgdiaaDoorCards.lean) ties it to the program's text. -/
def laid_afterglow_proc_first {H : Type} : DataW H := .agg [.lit (.int .u64 1), .lit (.int .u64 0), .lit (.bool false), .lit (.int .u64 0)]

/-- 'afterglowlaw22.ProcCalls': WHATEVER THE INPUT: true; the input reads as it did. -/
def procCallsSpec : ChangeSpec := { name := "procCalls", fn := fun _ => fun
  | [d1, d2] => { results := [.lit (.bool true)], args := [d1, d2] }
  | _ => none }
def procCallsRow : OpenClaim := { program := "ytmnbkhmphhgdiaadoor", sum := "cd3d11f0d3f6c052aaac191be54c62481438579385f960a38b15a9b496dd8d08", func := "afterglow/afterglowlaw22.ProcCalls", spec := "procCalls", inPlace := ["slices.overlaps[afterglow/api.Proc]"], unfollowed := true, recurses := true, named := ["afterglow/proc.first"], apart := false, laid := [("afterglow/proc.first", laid_afterglow_proc_first)] }
def ProcCallsSaid : Prop := procCallsRow.holds Tryd.pinned (OpenSpec.ofChange procCallsSpec)

/-- ITS FALSE NEIGHBOUR: 'it returns false'. Refute it at one input. -/
def procCallsWrong : ChangeSpec := { name := "procCalls", fn := fun _ => fun
  | [d1, d2] => { results := [.lit (.bool false)], args := [d1, d2] }
  | _ => none }
def ProcCallsWrongFalsely : Prop := procCallsRow.holds Tryd.pinned (OpenSpec.ofChange procCallsWrong)

/-- 'afterglowlaw22.ProcOnce': WHATEVER THE INPUT: true; the input reads as it did. -/
def procOnceSpec : ChangeSpec := { name := "procOnce", fn := fun _ => fun
  | [d1, d2, d3] => { results := [.lit (.bool true)], args := [d1, d2, d3] }
  | _ => none }
def procOnceRow : OpenClaim := { program := "ytmnbkhmphhgdiaadoor", sum := "cd3d11f0d3f6c052aaac191be54c62481438579385f960a38b15a9b496dd8d08", func := "afterglow/afterglowlaw22.ProcOnce", spec := "procOnce", inPlace := ["slices.overlaps[afterglow/api.Proc]"], unfollowed := true, recurses := true, named := ["afterglow/proc.first"], apart := false, laid := [("afterglow/proc.first", laid_afterglow_proc_first)] }
def ProcOnceSaid : Prop := procOnceRow.holds Tryd.pinned (OpenSpec.ofChange procOnceSpec)

/-- ITS FALSE NEIGHBOUR: 'it returns false'. Refute it at one input. -/
def procOnceWrong : ChangeSpec := { name := "procOnce", fn := fun _ => fun
  | [d1, d2, d3] => { results := [.lit (.bool false)], args := [d1, d2, d3] }
  | _ => none }
def ProcOnceWrongFalsely : Prop := procOnceRow.holds Tryd.pinned (OpenSpec.ofChange procOnceWrong)

/-- 'afterglowlaw22.ProcAlone': WHATEVER THE INPUT: true; the input reads as it did. -/
def procAloneSpec : ChangeSpec := { name := "procAlone", fn := fun _ => fun
  | [d] => { results := [.lit (.bool true)], args := [d] }
  | _ => none }
def procAloneRow : OpenClaim := { program := "ytmnbkhmphhgdiaadoor", sum := "cd3d11f0d3f6c052aaac191be54c62481438579385f960a38b15a9b496dd8d08", func := "afterglow/afterglowlaw22.ProcAlone", spec := "procAlone", inPlace := ["slices.overlaps[afterglow/api.Proc]"], unfollowed := true, recurses := true, named := ["afterglow/proc.first"], apart := false, laid := [("afterglow/proc.first", laid_afterglow_proc_first)] }
def ProcAloneSaid : Prop := procAloneRow.holds Tryd.pinned (OpenSpec.ofChange procAloneSpec)

/-- ITS FALSE NEIGHBOUR: 'it returns false'. Refute it at one input. -/
def procAloneWrong : ChangeSpec := { name := "procAlone", fn := fun _ => fun
  | [d] => { results := [.lit (.bool false)], args := [d] }
  | _ => none }
def ProcAloneWrongFalsely : Prop := procAloneRow.holds Tryd.pinned (OpenSpec.ofChange procAloneWrong)

/-- 'afterglowlaw22.ProcNever': WHATEVER THE INPUT: true; the input reads as it did. -/
def procNeverSpec : ChangeSpec := { name := "procNever", fn := fun _ => fun
  | [d1, d2] => { results := [.lit (.bool true)], args := [d1, d2] }
  | _ => none }
def procNeverRow : OpenClaim := { program := "ytmnbkhmphhgdiaadoor", sum := "cd3d11f0d3f6c052aaac191be54c62481438579385f960a38b15a9b496dd8d08", func := "afterglow/afterglowlaw22.ProcNever", spec := "procNever", inPlace := ["slices.overlaps[afterglow/api.Proc]"], unfollowed := true, recurses := true, named := ["afterglow/proc.first"], apart := false, laid := [("afterglow/proc.first", laid_afterglow_proc_first)] }
def ProcNeverSaid : Prop := procNeverRow.holds Tryd.pinned (OpenSpec.ofChange procNeverSpec)

/-- ITS FALSE NEIGHBOUR: 'it returns false'. Refute it at one input. -/
def procNeverWrong : ChangeSpec := { name := "procNever", fn := fun _ => fun
  | [d1, d2] => { results := [.lit (.bool false)], args := [d1, d2] }
  | _ => none }
def ProcNeverWrongFalsely : Prop := procNeverRow.holds Tryd.pinned (OpenSpec.ofChange procNeverWrong)

/- THE SECOND FORM. 'bulk': how many values and letters a reading holds, each counted each time it is reached (what is shared counts as often as it is met; a slice's spare places count too). A statement '..UptoSaid' is the law's where the arguments, and the package variables that the reading takes, are together of bulk at most 1048576: NARROWER than '..Said'. Prove '..Said' where nothing that the law and all that it calls make is longer than what came in: it says more and counts as full. Else prove '..UptoSaid'. A law counts once. -/
mutual
def uptoBulk {H : Type} : DataW H → Nat
  | .lit (.string bytes) => bytes.length + 1
  | .lit _ => 1
  | .nil => 1
  | .ptr d => uptoBulk d + 1
  | .slice elems spare => uptoBulkAll elems + uptoBulkAll spare + 1
  | .agg parts => uptoBulkAll parts + 1
  | .iface _ d => uptoBulk d + 1
  | .map entries => uptoBulkEntries entries + 1
  | .held _ => 1
def uptoBulkAll {H : Type} : List (DataW H) → Nat
  | [] => 0
  | d :: r => uptoBulk d + uptoBulkAll r
def uptoBulkEntries {H : Type} : List (Lit × DataW H) → Nat
  | [] => 0
  | x :: r => uptoBulkEntry x + uptoBulkEntries r
def uptoBulkEntry {H : Type} : Lit × DataW H → Nat
  | (.string bytes, d) => bytes.length + uptoBulk d + 1
  | (_, d) => uptoBulk d + 1
 end
def uptoSmall : (H : Type) → List (DataW H) → Bool := fun _ ds => decide (uptoBulkAll ds ≤ 1048576)
def OpenSpec.upto (s : _root_.Go.ChangeSpec) : _root_.Go.OpenSpec := { _root_.Go.OpenSpec.ofChange s with cond := some uptoSmall }

/-- 'afterglowlaw22.ProcCalls', WHERE WHAT IT READS IS OF BULK AT MOST 1048576: true; the input reads as it did. -/
def procCallsUptoRow : OpenClaim := { program := "ytmnbkhmphhgdiaadoor", sum := "cd3d11f0d3f6c052aaac191be54c62481438579385f960a38b15a9b496dd8d08", func := "afterglow/afterglowlaw22.ProcCalls", spec := "procCalls", inPlace := ["slices.overlaps[afterglow/api.Proc]"], unfollowed := true, recurses := true, named := ["afterglow/proc.first"], apart := false, laid := [("afterglow/proc.first", laid_afterglow_proc_first)], narrowed := true }
def ProcCallsUptoSaid : Prop := procCallsUptoRow.holds Tryd.pinned (OpenSpec.upto procCallsSpec)

/-- 'afterglowlaw22.ProcOnce', WHERE WHAT IT READS IS OF BULK AT MOST 1048576: true; the input reads as it did. -/
def procOnceUptoRow : OpenClaim := { program := "ytmnbkhmphhgdiaadoor", sum := "cd3d11f0d3f6c052aaac191be54c62481438579385f960a38b15a9b496dd8d08", func := "afterglow/afterglowlaw22.ProcOnce", spec := "procOnce", inPlace := ["slices.overlaps[afterglow/api.Proc]"], unfollowed := true, recurses := true, named := ["afterglow/proc.first"], apart := false, laid := [("afterglow/proc.first", laid_afterglow_proc_first)], narrowed := true }
def ProcOnceUptoSaid : Prop := procOnceUptoRow.holds Tryd.pinned (OpenSpec.upto procOnceSpec)

/-- 'afterglowlaw22.ProcAlone', WHERE WHAT IT READS IS OF BULK AT MOST 1048576: true; the input reads as it did. -/
def procAloneUptoRow : OpenClaim := { program := "ytmnbkhmphhgdiaadoor", sum := "cd3d11f0d3f6c052aaac191be54c62481438579385f960a38b15a9b496dd8d08", func := "afterglow/afterglowlaw22.ProcAlone", spec := "procAlone", inPlace := ["slices.overlaps[afterglow/api.Proc]"], unfollowed := true, recurses := true, named := ["afterglow/proc.first"], apart := false, laid := [("afterglow/proc.first", laid_afterglow_proc_first)], narrowed := true }
def ProcAloneUptoSaid : Prop := procAloneUptoRow.holds Tryd.pinned (OpenSpec.upto procAloneSpec)

/-- 'afterglowlaw22.ProcNever', WHERE WHAT IT READS IS OF BULK AT MOST 1048576: true; the input reads as it did. -/
def procNeverUptoRow : OpenClaim := { program := "ytmnbkhmphhgdiaadoor", sum := "cd3d11f0d3f6c052aaac191be54c62481438579385f960a38b15a9b496dd8d08", func := "afterglow/afterglowlaw22.ProcNever", spec := "procNever", inPlace := ["slices.overlaps[afterglow/api.Proc]"], unfollowed := true, recurses := true, named := ["afterglow/proc.first"], apart := false, laid := [("afterglow/proc.first", laid_afterglow_proc_first)], narrowed := true }
def ProcNeverUptoSaid : Prop := procNeverUptoRow.holds Tryd.pinned (OpenSpec.upto procNeverSpec)

end Rows
end Go.Proofs.YtmnbkhmphhgdiaaDoor
