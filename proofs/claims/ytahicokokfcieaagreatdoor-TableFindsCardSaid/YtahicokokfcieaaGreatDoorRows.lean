/-
  NARROWER THAN 'FOR EVERY INPUT', by the rows' own cells (each row's printed sentence says how): TableFinds: laid · TableEdits: laid · TableLays: laid.
  DERIVED. THE GIVEN ROWS OF THIS SEAT. 3 by the template 'for every input the law returns true; each argument reads behind the call as it read before'; 0 by the template 'total and deterministic' (their statements: YtahicokokfcieaaGreatDoorTotals.lean).
  GIVEN WITH THE SEED: the statements are not yours to turn. If you find one false, say at which input.
  Laid BY PROGRAM, IN A SANDBOX (cutbox-rows.mjs): the forced cells as the released guide's own fill.sh prints them over the translation 1abd131261626924… (all of the seat's roots in one cut). By AI agents, Wed Nov 11 2026. No macro, syntax, notation, axiom, sorry.
-/
import Derived.Test.YtahicokokfcieaaGreatDoorChecked
import GoSem.Claim
import GoSem.ClaimJoined
import GoSem.ClaimMapViews
import Derived.JoinedTies
import Derived.KernelRfl
namespace Go.Proofs.YtahicokokfcieaaGreatDoor
/- THE CELL 'sum', in the pinned program and in every row, IS THE sha256 OF THE DUMP (.gsa) THAT YtahicokokfcieaaGreatDoorProg.lean LOADS. Nothing in Lean hashes anything: it is a label: what it is worth is what the hold of that sum in a sandbox is worth. -/
noncomputable def Tryz.pinned : Pinned := { name := "ytahicokokfcieaagreatdoor", sum := "1abd1312616269247a403b77a7bf08a4296c9b921215d93b42c7fc895fd97de1", checked := Tryz.checked }
namespace Rows
def none {H : Type} : Left H := { results := [], args := [] }

/- WHAT THE LISTED PACKAGE-LEVEL VARIABLES READ AS WHEN THE CALL BEGINS. Each datum BY PROGRAM (the guide's laid-datum.mjs) off the statement by which the dump's own 'gosem.cut.vars' lays the variable. In a bare row this is a premise. The card (YtahicokokfcieaaGreatDoorCards.lean) ties it to the program's text. -/
def laid_afterglow_table_parts {H : Type} : DataW H := .agg [.agg [.lit (.int .i64 0), .lit (.int .i64 32)], .agg [.lit (.int .i64 32), .lit (.int .i64 8)]]

/-- 'afterglowlaw19.TableFinds': WHATEVER THE INPUT: true; the input reads as it did. -/
def tableFindsSpec : ChangeSpec := { name := "tableFinds", fn := fun _ => fun
  | [d1, d2, d3] => { results := [.lit (.bool true)], args := [d1, d2, d3] }
  | _ => none }
def tableFindsRow : OpenClaim := { program := "ytahicokokfcieaagreatdoor", sum := "1abd1312616269247a403b77a7bf08a4296c9b921215d93b42c7fc895fd97de1", func := "afterglow/afterglowlaw19.TableFinds", spec := "tableFinds", unfollowed := true, recurses := true, named := ["afterglow/table.parts"], apart := false, laid := [("afterglow/table.parts", laid_afterglow_table_parts)] }
def TableFindsSaid : Prop := tableFindsRow.holds Tryz.pinned (OpenSpec.ofChange tableFindsSpec)

/-- ITS FALSE NEIGHBOUR: 'it returns false'. Refute it at one input. -/
def tableFindsWrong : ChangeSpec := { name := "tableFinds", fn := fun _ => fun
  | [d1, d2, d3] => { results := [.lit (.bool false)], args := [d1, d2, d3] }
  | _ => none }
def TableFindsWrongFalsely : Prop := tableFindsRow.holds Tryz.pinned (OpenSpec.ofChange tableFindsWrong)

/-- 'afterglowlaw19.TableEdits': WHATEVER THE INPUT: true; the input reads as it did. -/
def tableEditsSpec : ChangeSpec := { name := "tableEdits", fn := fun _ => fun
  | [d1, d2, d3] => { results := [.lit (.bool true)], args := [d1, d2, d3] }
  | _ => none }
def tableEditsRow : OpenClaim := { program := "ytahicokokfcieaagreatdoor", sum := "1abd1312616269247a403b77a7bf08a4296c9b921215d93b42c7fc895fd97de1", func := "afterglow/afterglowlaw19.TableEdits", spec := "tableEdits", unfollowed := true, recurses := true, named := ["afterglow/table.parts"], apart := false, laid := [("afterglow/table.parts", laid_afterglow_table_parts)] }
def TableEditsSaid : Prop := tableEditsRow.holds Tryz.pinned (OpenSpec.ofChange tableEditsSpec)

/-- ITS FALSE NEIGHBOUR: 'it returns false'. Refute it at one input. -/
def tableEditsWrong : ChangeSpec := { name := "tableEdits", fn := fun _ => fun
  | [d1, d2, d3] => { results := [.lit (.bool false)], args := [d1, d2, d3] }
  | _ => none }
def TableEditsWrongFalsely : Prop := tableEditsRow.holds Tryz.pinned (OpenSpec.ofChange tableEditsWrong)

/-- 'afterglowlaw19.TableLays': WHATEVER THE INPUT: true; the input reads as it did. -/
def tableLaysSpec : ChangeSpec := { name := "tableLays", fn := fun _ => fun
  | [d1, d2, d3] => { results := [.lit (.bool true)], args := [d1, d2, d3] }
  | _ => none }
def tableLaysRow : OpenClaim := { program := "ytahicokokfcieaagreatdoor", sum := "1abd1312616269247a403b77a7bf08a4296c9b921215d93b42c7fc895fd97de1", func := "afterglow/afterglowlaw19.TableLays", spec := "tableLays", unfollowed := true, recurses := true, named := ["afterglow/table.parts"], apart := false, laid := [("afterglow/table.parts", laid_afterglow_table_parts)] }
def TableLaysSaid : Prop := tableLaysRow.holds Tryz.pinned (OpenSpec.ofChange tableLaysSpec)

/-- ITS FALSE NEIGHBOUR: 'it returns false'. Refute it at one input. -/
def tableLaysWrong : ChangeSpec := { name := "tableLays", fn := fun _ => fun
  | [d1, d2, d3] => { results := [.lit (.bool false)], args := [d1, d2, d3] }
  | _ => none }
def TableLaysWrongFalsely : Prop := tableLaysRow.holds Tryz.pinned (OpenSpec.ofChange tableLaysWrong)

/- THE SECOND FORM. 'bulk': how many values and letters a reading holds, each counted each time it is reached (what is shared counts as often as it is met; a slice's spare places count too). A statement '..UptoSaid' is the law's where the arguments, and the package variables that the reading takes, are together of bulk at most 1048576: NARROWER than '..Said'. Prove '..Said' where nothing that the law and all that it calls make is longer than what came in: it says more and counts as full. Else prove '..UptoSaid'. A law counts once. -/
mutual
def uptoBulk {H : Type} : DataW H → Nat
  | .lit (.string bytes) => bytes.length + 1
  | .lit _ => 1
  | .nil => 1
  | .ptr d => uptoBulk d + 1
  | .slice elems spare => uptoBulkAll elems + uptoBulkAll spare + 1
  | .agg parts => uptoBulkAll parts + 1
  | .iface _ d => uptoBulk d + 1
  | .map entries => uptoBulkEntries entries + 1
  | .held _ => 1
def uptoBulkAll {H : Type} : List (DataW H) → Nat
  | [] => 0
  | d :: r => uptoBulk d + uptoBulkAll r
def uptoBulkEntries {H : Type} : List (Lit × DataW H) → Nat
  | [] => 0
  | x :: r => uptoBulkEntry x + uptoBulkEntries r
def uptoBulkEntry {H : Type} : Lit × DataW H → Nat
  | (.string bytes, d) => bytes.length + uptoBulk d + 1
  | (_, d) => uptoBulk d + 1
 end
def uptoSmall : (H : Type) → List (DataW H) → Bool := fun _ ds => decide (uptoBulkAll ds ≤ 1048576)
def OpenSpec.upto (s : _root_.Go.ChangeSpec) : _root_.Go.OpenSpec := { _root_.Go.OpenSpec.ofChange s with cond := some uptoSmall }

/-- 'afterglowlaw19.TableFinds', WHERE WHAT IT READS IS OF BULK AT MOST 1048576: true; the input reads as it did. -/
def tableFindsUptoRow : OpenClaim := { program := "ytahicokokfcieaagreatdoor", sum := "1abd1312616269247a403b77a7bf08a4296c9b921215d93b42c7fc895fd97de1", func := "afterglow/afterglowlaw19.TableFinds", spec := "tableFinds", unfollowed := true, recurses := true, named := ["afterglow/table.parts"], apart := false, laid := [("afterglow/table.parts", laid_afterglow_table_parts)], narrowed := true }
def TableFindsUptoSaid : Prop := tableFindsUptoRow.holds Tryz.pinned (OpenSpec.upto tableFindsSpec)

/-- 'afterglowlaw19.TableEdits', WHERE WHAT IT READS IS OF BULK AT MOST 1048576: true; the input reads as it did. -/
def tableEditsUptoRow : OpenClaim := { program := "ytahicokokfcieaagreatdoor", sum := "1abd1312616269247a403b77a7bf08a4296c9b921215d93b42c7fc895fd97de1", func := "afterglow/afterglowlaw19.TableEdits", spec := "tableEdits", unfollowed := true, recurses := true, named := ["afterglow/table.parts"], apart := false, laid := [("afterglow/table.parts", laid_afterglow_table_parts)], narrowed := true }
def TableEditsUptoSaid : Prop := tableEditsUptoRow.holds Tryz.pinned (OpenSpec.upto tableEditsSpec)

/-- 'afterglowlaw19.TableLays', WHERE WHAT IT READS IS OF BULK AT MOST 1048576: true; the input reads as it did. -/
def tableLaysUptoRow : OpenClaim := { program := "ytahicokokfcieaagreatdoor", sum := "1abd1312616269247a403b77a7bf08a4296c9b921215d93b42c7fc895fd97de1", func := "afterglow/afterglowlaw19.TableLays", spec := "tableLays", unfollowed := true, recurses := true, named := ["afterglow/table.parts"], apart := false, laid := [("afterglow/table.parts", laid_afterglow_table_parts)], narrowed := true }
def TableLaysUptoSaid : Prop := tableLaysUptoRow.holds Tryz.pinned (OpenSpec.upto tableLaysSpec)

end Rows
end Go.Proofs.YtahicokokfcieaaGreatDoor
