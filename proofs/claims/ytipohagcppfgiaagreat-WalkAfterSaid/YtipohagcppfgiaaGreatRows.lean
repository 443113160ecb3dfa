/-
  No cell of these rows narrows 'for every input' (looked for: loops, veiled, ifaces, maps, wideKeys, modest, calm, conditions, laid).
  DERIVED. THE GIVEN ROWS OF THIS SEAT. 2 by the template 'for every input the law returns true; each argument reads behind the call as it read before'; 0 by the template 'total and deterministic' (their statements: YtipohagcppfgiaaGreatTotals.lean).
  GIVEN WITH THE SEED: the statements are not yours to turn. If you find one false, say at which input.
  Laid BY PROGRAM, IN A SANDBOX (cutbox-rows.mjs): the forced cells as the released guide's own fill.sh prints them over the translation 020e08b2fc6b6962… (all of the seat's roots in one cut). By AI agents, Wed Nov 11 2026. No macro, syntax, notation, axiom, sorry.
-/
import Derived.Test.YtipohagcppfgiaaGreatChecked
import GoSem.Claim
import GoSem.ClaimJoined
import GoSem.ClaimMapViews
import Derived.JoinedTies
import Derived.KernelRfl
namespace Go.Proofs.YtipohagcppfgiaaGreat
/- THE CELL 'sum', in the pinned program and in every row, IS THE sha256 OF THE DUMP (.gsa) THAT YtipohagcppfgiaaGreatProg.lean LOADS. Nothing in Lean hashes anything: it is a label: what it is worth is what the hold of that sum in a sandbox is worth. -/
noncomputable def Tryz.pinned : Pinned := { name := "ytipohagcppfgiaagreat", sum := "020e08b2fc6b696205788423919b329caa6570cd91f0edbfdded7a91706885a7", checked := Tryz.checked }
namespace Rows
def none {H : Type} : Left H := { results := [], args := [] }

/-- 'afterglowlaw17.WalkAfter': WHATEVER THE INPUT: true; the input reads as it did. -/
def walkAfterSpec : ChangeSpec := { name := "walkAfter", fn := fun _ => fun
  | [d1, d2] => { results := [.lit (.bool true)], args := [d1, d2] }
  | _ => none }
def walkAfterRow : OpenClaim := { program := "ytipohagcppfgiaagreat", sum := "020e08b2fc6b696205788423919b329caa6570cd91f0edbfdded7a91706885a7", func := "afterglow/afterglowlaw17.WalkAfter", spec := "walkAfter", inPlace := ["slices.overlaps[afterglow/api.Node]"], unfollowed := true, recurses := true, apart := false }
def WalkAfterSaid : Prop := walkAfterRow.holds Tryz.pinned (OpenSpec.ofChange walkAfterSpec)

/-- ITS FALSE NEIGHBOUR: 'it returns false'. Refute it at one input. -/
def walkAfterWrong : ChangeSpec := { name := "walkAfter", fn := fun _ => fun
  | [d1, d2] => { results := [.lit (.bool false)], args := [d1, d2] }
  | _ => none }
def WalkAfterWrongFalsely : Prop := walkAfterRow.holds Tryz.pinned (OpenSpec.ofChange walkAfterWrong)

/-- 'afterglowlaw17.WalkPlays': WHATEVER THE INPUT: true; the input reads as it did. -/
def walkPlaysSpec : ChangeSpec := { name := "walkPlays", fn := fun _ => fun
  | [d1, d2] => { results := [.lit (.bool true)], args := [d1, d2] }
  | _ => none }
def walkPlaysRow : OpenClaim := { program := "ytipohagcppfgiaagreat", sum := "020e08b2fc6b696205788423919b329caa6570cd91f0edbfdded7a91706885a7", func := "afterglow/afterglowlaw17.WalkPlays", spec := "walkPlays", inPlace := ["slices.overlaps[afterglow/api.Node]"], unfollowed := true, recurses := true, apart := false }
def WalkPlaysSaid : Prop := walkPlaysRow.holds Tryz.pinned (OpenSpec.ofChange walkPlaysSpec)

/-- ITS FALSE NEIGHBOUR: 'it returns false'. Refute it at one input. -/
def walkPlaysWrong : ChangeSpec := { name := "walkPlays", fn := fun _ => fun
  | [d1, d2] => { results := [.lit (.bool false)], args := [d1, d2] }
  | _ => none }
def WalkPlaysWrongFalsely : Prop := walkPlaysRow.holds Tryz.pinned (OpenSpec.ofChange walkPlaysWrong)

/- THE SECOND FORM. 'bulk': how many values and letters a reading holds, each counted each time it is reached (what is shared counts as often as it is met; a slice's spare places count too). A statement '..UptoSaid' is the law's where the arguments, and the package variables that the reading takes, are together of bulk at most 1048576: NARROWER than '..Said'. Prove '..Said' where nothing that the law and all that it calls make is longer than what came in: it says more and counts as full. Else prove '..UptoSaid'. A law counts once. -/
mutual
def uptoBulk {H : Type} : DataW H → Nat
  | .lit (.string bytes) => bytes.length + 1
  | .lit _ => 1
  | .nil => 1
  | .ptr d => uptoBulk d + 1
  | .slice elems spare => uptoBulkAll elems + uptoBulkAll spare + 1
  | .agg parts => uptoBulkAll parts + 1
  | .iface _ d => uptoBulk d + 1
  | .map entries => uptoBulkEntries entries + 1
  | .held _ => 1
def uptoBulkAll {H : Type} : List (DataW H) → Nat
  | [] => 0
  | d :: r => uptoBulk d + uptoBulkAll r
def uptoBulkEntries {H : Type} : List (Lit × DataW H) → Nat
  | [] => 0
  | x :: r => uptoBulkEntry x + uptoBulkEntries r
def uptoBulkEntry {H : Type} : Lit × DataW H → Nat
  | (.string bytes, d) => bytes.length + uptoBulk d + 1
  | (_, d) => uptoBulk d + 1
 end
def uptoSmall : (H : Type) → List (DataW H) → Bool := fun _ ds => decide (uptoBulkAll ds ≤ 1048576)
def OpenSpec.upto (s : _root_.Go.ChangeSpec) : _root_.Go.OpenSpec := { _root_.Go.OpenSpec.ofChange s with cond := some uptoSmall }

/-- 'afterglowlaw17.WalkAfter', WHERE WHAT IT READS IS OF BULK AT MOST 1048576: true; the input reads as it did. -/
def walkAfterUptoRow : OpenClaim := { program := "ytipohagcppfgiaagreat", sum := "020e08b2fc6b696205788423919b329caa6570cd91f0edbfdded7a91706885a7", func := "afterglow/afterglowlaw17.WalkAfter", spec := "walkAfter", inPlace := ["slices.overlaps[afterglow/api.Node]"], unfollowed := true, recurses := true, apart := false, narrowed := true }
def WalkAfterUptoSaid : Prop := walkAfterUptoRow.holds Tryz.pinned (OpenSpec.upto walkAfterSpec)

/-- 'afterglowlaw17.WalkPlays', WHERE WHAT IT READS IS OF BULK AT MOST 1048576: true; the input reads as it did. -/
def walkPlaysUptoRow : OpenClaim := { program := "ytipohagcppfgiaagreat", sum := "020e08b2fc6b696205788423919b329caa6570cd91f0edbfdded7a91706885a7", func := "afterglow/afterglowlaw17.WalkPlays", spec := "walkPlays", inPlace := ["slices.overlaps[afterglow/api.Node]"], unfollowed := true, recurses := true, apart := false, narrowed := true }
def WalkPlaysUptoSaid : Prop := walkPlaysUptoRow.holds Tryz.pinned (OpenSpec.upto walkPlaysSpec)

end Rows
end Go.Proofs.YtipohagcppfgiaaGreat
