/-
  DERIVED. GIVEN WITH THE SEED: THE CARDS: each row of YtahicokokfcieaaGreatDoorRows.lean that lists a variable, with what it lists TIED to the program's text (the seventh form; the later family's looks); each row that meets fmt, with fmt's text TOLD by the authors' own Lean function (tested against real Go, not proved from fmt's source: count such statements apart). THE CARD IS WHAT COUNTS. Prove the row's statement (the work); the ties are given (YtahicokokfcieaaGreatDoorTie.lean); close each card by the builder's one call (the guide's Derived/Test/ToyasCard.lean, 'card_holds'). Laid BY PROGRAM, IN A SANDBOX (cutbox-door.mjs). By AI agents, Wed Nov 11 2026. No macro, syntax, notation, axiom, sorry.
-/
import Derived.Test.YtahicokokfcieaaGreatDoorRows
import GoSem.ClaimSeven
namespace Go.Proofs.YtahicokokfcieaaGreatDoor
namespace Rows

/-- THE TIED CARD OF 'afterglowlaw19.TableFinds'. -/
def tableFindsCard : Claim7 := { stood := { row := tableFindsRow, standIns := [], harness := (true, "03a0a0bc7d8d4312e8d46265f5dccb8fbcb76d7142abe48499a1bb49b0eb2dad"), looks := true }, kinds := [], alts := [], laidByText := true, laidKinds := [.widerDeep], laidTests := true, laidLooks := .later }
def TableFindsCardSaid : Prop := Claim7.holds Tryz.pinned (.plain (OpenSpec.ofChange tableFindsSpec)) tableFindsCard

/-- THE TIED CARD OF 'afterglowlaw19.TableEdits'. -/
def tableEditsCard : Claim7 := { stood := { row := tableEditsRow, standIns := [], harness := (true, "03a0a0bc7d8d4312e8d46265f5dccb8fbcb76d7142abe48499a1bb49b0eb2dad"), looks := true }, kinds := [], alts := [], laidByText := true, laidKinds := [.widerDeep], laidTests := true, laidLooks := .later }
def TableEditsCardSaid : Prop := Claim7.holds Tryz.pinned (.plain (OpenSpec.ofChange tableEditsSpec)) tableEditsCard

/-- THE TIED CARD OF 'afterglowlaw19.TableLays'. -/
def tableLaysCard : Claim7 := { stood := { row := tableLaysRow, standIns := [], harness := (true, "03a0a0bc7d8d4312e8d46265f5dccb8fbcb76d7142abe48499a1bb49b0eb2dad"), looks := true }, kinds := [], alts := [], laidByText := true, laidKinds := [.widerDeep], laidTests := true, laidLooks := .later }
def TableLaysCardSaid : Prop := Claim7.holds Tryz.pinned (.plain (OpenSpec.ofChange tableLaysSpec)) tableLaysCard

/-- THE SECOND FORM's CARD OF 'afterglowlaw19.TableFinds'. -/
def tableFindsUptoCard : Claim7 := { stood := { row := tableFindsUptoRow, standIns := [], harness := (true, "03a0a0bc7d8d4312e8d46265f5dccb8fbcb76d7142abe48499a1bb49b0eb2dad"), looks := true }, kinds := [], alts := [], laidByText := true, laidKinds := [.widerDeep], laidTests := true, laidLooks := .later }
def TableFindsUptoCardSaid : Prop := Claim7.holds Tryz.pinned (.plain (OpenSpec.upto tableFindsSpec)) tableFindsUptoCard

/-- THE SECOND FORM's CARD OF 'afterglowlaw19.TableEdits'. -/
def tableEditsUptoCard : Claim7 := { stood := { row := tableEditsUptoRow, standIns := [], harness := (true, "03a0a0bc7d8d4312e8d46265f5dccb8fbcb76d7142abe48499a1bb49b0eb2dad"), looks := true }, kinds := [], alts := [], laidByText := true, laidKinds := [.widerDeep], laidTests := true, laidLooks := .later }
def TableEditsUptoCardSaid : Prop := Claim7.holds Tryz.pinned (.plain (OpenSpec.upto tableEditsSpec)) tableEditsUptoCard

/-- THE SECOND FORM's CARD OF 'afterglowlaw19.TableLays'. -/
def tableLaysUptoCard : Claim7 := { stood := { row := tableLaysUptoRow, standIns := [], harness := (true, "03a0a0bc7d8d4312e8d46265f5dccb8fbcb76d7142abe48499a1bb49b0eb2dad"), looks := true }, kinds := [], alts := [], laidByText := true, laidKinds := [.widerDeep], laidTests := true, laidLooks := .later }
def TableLaysUptoCardSaid : Prop := Claim7.holds Tryz.pinned (.plain (OpenSpec.upto tableLaysSpec)) tableLaysUptoCard
end Rows
end Go.Proofs.YtahicokokfcieaaGreatDoor
