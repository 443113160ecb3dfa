/-
  NARROWER THAN 'FOR EVERY INPUT', by the rows' own cells (each row's printed sentence says how): TableWords: laid · TableFew: laid · TableKeeps: laid.
  DERIVED. THE GIVEN ROWS OF THIS SEAT. 3 by the template 'for every input the law returns true; each argument reads behind the call as it read before'; 0 by the template 'total and deterministic' (their statements: YtahicokokfcieaaDoorTotals.lean).
  GIVEN WITH THE SEED: the statements are not yours to turn. If you find one false, say at which input.
  Laid BY PROGRAM, IN A SANDBOX (cutbox-rows.mjs): the forced cells as the released guide's own fill.sh prints them over the translation f63d816cc5c25590… (all of the seat's roots in one cut). By AI agents, Wed Nov 11 2026. No macro, syntax, notation, axiom, sorry.
-/
import Derived.Test.YtahicokokfcieaaDoorChecked
import GoSem.Claim
import GoSem.ClaimJoined
import GoSem.ClaimMapViews
import Derived.JoinedTies
import Derived.KernelRfl
namespace Go.Proofs.YtahicokokfcieaaDoor
/- THE CELL 'sum', in the pinned program and in every row, IS THE sha256 OF THE DUMP (.gsa) THAT YtahicokokfcieaaDoorProg.lean LOADS. Nothing in Lean hashes anything: it is a label: what it is worth is what the hold of that sum in a sandbox is worth. -/
noncomputable def Tryd.pinned : Pinned := { name := "ytahicokokfcieaadoor", sum := "f63d816cc5c25590b44fa9aa631ae575c2cc09bd3f88f39e9f7ec455ae1e9bd8", checked := Tryd.checked }
namespace Rows
def none {H : Type} : Left H := { results := [], args := [] }

/- WHAT THE LISTED PACKAGE-LEVEL VARIABLES READ AS WHEN THE CALL BEGINS. Each datum BY PROGRAM (the guide's laid-datum.mjs) off the statement by which the dump's own 'gosem.cut.vars' lays the variable. In a bare row this is a premise. The card (YtahicokokfcieaaDoorCards.lean) ties it to the program's text. -/
def laid_afterglow_table_parts {H : Type} : DataW H := .agg [.agg [.lit (.int .i64 0), .lit (.int .i64 32)], .agg [.lit (.int .i64 32), .lit (.int .i64 8)]]

/-- 'afterglowlaw19.TableWords': WHATEVER THE INPUT: true; the input reads as it did. -/
def tableWordsSpec : ChangeSpec := { name := "tableWords", fn := fun _ => fun
  | [d1, d2] => { results := [.lit (.bool true)], args := [d1, d2] }
  | _ => none }
def tableWordsRow : OpenClaim := { program := "ytahicokokfcieaadoor", sum := "f63d816cc5c25590b44fa9aa631ae575c2cc09bd3f88f39e9f7ec455ae1e9bd8", func := "afterglow/afterglowlaw19.TableWords", spec := "tableWords", unfollowed := true, recurses := true, named := ["afterglow/table.parts"], apart := false, laid := [("afterglow/table.parts", laid_afterglow_table_parts)] }
def TableWordsSaid : Prop := tableWordsRow.holds Tryd.pinned (OpenSpec.ofChange tableWordsSpec)

/-- ITS FALSE NEIGHBOUR: 'it returns false'. Refute it at one input. -/
def tableWordsWrong : ChangeSpec := { name := "tableWords", fn := fun _ => fun
  | [d1, d2] => { results := [.lit (.bool false)], args := [d1, d2] }
  | _ => none }
def TableWordsWrongFalsely : Prop := tableWordsRow.holds Tryd.pinned (OpenSpec.ofChange tableWordsWrong)

/-- 'afterglowlaw19.TableFew': WHATEVER THE INPUT: true; the input reads as it did. -/
def tableFewSpec : ChangeSpec := { name := "tableFew", fn := fun _ => fun
  | [d1, d2, d3] => { results := [.lit (.bool true)], args := [d1, d2, d3] }
  | _ => none }
def tableFewRow : OpenClaim := { program := "ytahicokokfcieaadoor", sum := "f63d816cc5c25590b44fa9aa631ae575c2cc09bd3f88f39e9f7ec455ae1e9bd8", func := "afterglow/afterglowlaw19.TableFew", spec := "tableFew", unfollowed := true, recurses := true, named := ["afterglow/table.parts"], apart := false, laid := [("afterglow/table.parts", laid_afterglow_table_parts)] }
def TableFewSaid : Prop := tableFewRow.holds Tryd.pinned (OpenSpec.ofChange tableFewSpec)

/-- ITS FALSE NEIGHBOUR: 'it returns false'. Refute it at one input. -/
def tableFewWrong : ChangeSpec := { name := "tableFew", fn := fun _ => fun
  | [d1, d2, d3] => { results := [.lit (.bool false)], args := [d1, d2, d3] }
  | _ => none }
def TableFewWrongFalsely : Prop := tableFewRow.holds Tryd.pinned (OpenSpec.ofChange tableFewWrong)

/-- 'afterglowlaw19.TableKeeps': WHATEVER THE INPUT: true; the input reads as it did. -/
def tableKeepsSpec : ChangeSpec := { name := "tableKeeps", fn := fun _ => fun
  | [d1, d2, d3] => { results := [.lit (.bool true)], args := [d1, d2, d3] }
  | _ => none }
def tableKeepsRow : OpenClaim := { program := "ytahicokokfcieaadoor", sum := "f63d816cc5c25590b44fa9aa631ae575c2cc09bd3f88f39e9f7ec455ae1e9bd8", func := "afterglow/afterglowlaw19.TableKeeps", spec := "tableKeeps", unfollowed := true, recurses := true, named := ["afterglow/table.parts"], apart := false, laid := [("afterglow/table.parts", laid_afterglow_table_parts)] }
def TableKeepsSaid : Prop := tableKeepsRow.holds Tryd.pinned (OpenSpec.ofChange tableKeepsSpec)

/-- ITS FALSE NEIGHBOUR: 'it returns false'. Refute it at one input. -/
def tableKeepsWrong : ChangeSpec := { name := "tableKeeps", fn := fun _ => fun
  | [d1, d2, d3] => { results := [.lit (.bool false)], args := [d1, d2, d3] }
  | _ => none }
def TableKeepsWrongFalsely : Prop := tableKeepsRow.holds Tryd.pinned (OpenSpec.ofChange tableKeepsWrong)

/- THE SECOND FORM. 'bulk': how many values and letters a reading holds, each counted each time it is reached (what is shared counts as often as it is met; a slice's spare places count too). A statement '..UptoSaid' is the law's where the arguments, and the package variables that the reading takes, are together of bulk at most 1048576: NARROWER than '..Said'. Prove '..Said' where nothing that the law and all that it calls make is longer than what came in: it says more and counts as full. Else prove '..UptoSaid'. A law counts once. -/
mutual
def uptoBulk {H : Type} : DataW H → Nat
  | .lit (.string bytes) => bytes.length + 1
  | .lit _ => 1
  | .nil => 1
  | .ptr d => uptoBulk d + 1
  | .slice elems spare => uptoBulkAll elems + uptoBulkAll spare + 1
  | .agg parts => uptoBulkAll parts + 1
  | .iface _ d => uptoBulk d + 1
  | .map entries => uptoBulkEntries entries + 1
  | .held _ => 1
def uptoBulkAll {H : Type} : List (DataW H) → Nat
  | [] => 0
  | d :: r => uptoBulk d + uptoBulkAll r
def uptoBulkEntries {H : Type} : List (Lit × DataW H) → Nat
  | [] => 0
  | x :: r => uptoBulkEntry x + uptoBulkEntries r
def uptoBulkEntry {H : Type} : Lit × DataW H → Nat
  | (.string bytes, d) => bytes.length + uptoBulk d + 1
  | (_, d) => uptoBulk d + 1
 end
def uptoSmall : (H : Type) → List (DataW H) → Bool := fun _ ds => decide (uptoBulkAll ds ≤ 1048576)
def OpenSpec.upto (s : _root_.Go.ChangeSpec) : _root_.Go.OpenSpec := { _root_.Go.OpenSpec.ofChange s with cond := some uptoSmall }

/-- 'afterglowlaw19.TableWords', WHERE WHAT IT READS IS OF BULK AT MOST 1048576: true; the input reads as it did. -/
def tableWordsUptoRow : OpenClaim := { program := "ytahicokokfcieaadoor", sum := "f63d816cc5c25590b44fa9aa631ae575c2cc09bd3f88f39e9f7ec455ae1e9bd8", func := "afterglow/afterglowlaw19.TableWords", spec := "tableWords", unfollowed := true, recurses := true, named := ["afterglow/table.parts"], apart := false, laid := [("afterglow/table.parts", laid_afterglow_table_parts)], narrowed := true }
def TableWordsUptoSaid : Prop := tableWordsUptoRow.holds Tryd.pinned (OpenSpec.upto tableWordsSpec)

/-- 'afterglowlaw19.TableFew', WHERE WHAT IT READS IS OF BULK AT MOST 1048576: true; the input reads as it did. -/
def tableFewUptoRow : OpenClaim := { program := "ytahicokokfcieaadoor", sum := "f63d816cc5c25590b44fa9aa631ae575c2cc09bd3f88f39e9f7ec455ae1e9bd8", func := "afterglow/afterglowlaw19.TableFew", spec := "tableFew", unfollowed := true, recurses := true, named := ["afterglow/table.parts"], apart := false, laid := [("afterglow/table.parts", laid_afterglow_table_parts)], narrowed := true }
def TableFewUptoSaid : Prop := tableFewUptoRow.holds Tryd.pinned (OpenSpec.upto tableFewSpec)

/-- 'afterglowlaw19.TableKeeps', WHERE WHAT IT READS IS OF BULK AT MOST 1048576: true; the input reads as it did. -/
def tableKeepsUptoRow : OpenClaim := { program := "ytahicokokfcieaadoor", sum := "f63d816cc5c25590b44fa9aa631ae575c2cc09bd3f88f39e9f7ec455ae1e9bd8", func := "afterglow/afterglowlaw19.TableKeeps", spec := "tableKeeps", unfollowed := true, recurses := true, named := ["afterglow/table.parts"], apart := false, laid := [("afterglow/table.parts", laid_afterglow_table_parts)], narrowed := true }
def TableKeepsUptoSaid : Prop := tableKeepsUptoRow.holds Tryd.pinned (OpenSpec.upto tableKeepsSpec)

end Rows
end Go.Proofs.YtahicokokfcieaaDoor
