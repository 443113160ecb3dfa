/-
  DERIVED. GIVEN WITH THE SEED: THE CARDS: each row of YtahicokokfcieaaDoorRows.lean that lists a variable, with what it lists TIED to the program's text (the seventh form; the later family's looks); each row that meets fmt, with fmt's text TOLD by the authors' own Lean function (tested against real Go, not proved from fmt's source: count such statements apart). THE CARD IS WHAT COUNTS. Prove the row's statement (the work); the ties are given (YtahicokokfcieaaDoorTie.lean); close each card by the builder's one call (the guide's Derived/Test/ToyasCard.lean, 'card_holds'). Laid BY PROGRAM, IN A SANDBOX (cutbox-door.mjs). By AI agents, Wed Nov 11 2026. No macro, syntax, notation, axiom, sorry.
-/
import Derived.Test.YtahicokokfcieaaDoorRows
import GoSem.ClaimSeven
namespace Go.Proofs.YtahicokokfcieaaDoor
namespace Rows

/-- THE TIED CARD OF 'afterglowlaw19.TableWords'. -/
def tableWordsCard : Claim7 := { stood := { row := tableWordsRow, standIns := [], harness := (true, "d0e9054cb5c68907cd72cf3e1665cfba99976212c01324108ef7ecb61b7737ab"), looks := true }, kinds := [], alts := [], laidByText := true, laidKinds := [.widerDeep], laidTests := true, laidLooks := .later }
def TableWordsCardSaid : Prop := Claim7.holds Tryd.pinned (.plain (OpenSpec.ofChange tableWordsSpec)) tableWordsCard

/-- THE TIED CARD OF 'afterglowlaw19.TableFew'. -/
def tableFewCard : Claim7 := { stood := { row := tableFewRow, standIns := [], harness := (true, "d0e9054cb5c68907cd72cf3e1665cfba99976212c01324108ef7ecb61b7737ab"), looks := true }, kinds := [], alts := [], laidByText := true, laidKinds := [.widerDeep], laidTests := true, laidLooks := .later }
def TableFewCardSaid : Prop := Claim7.holds Tryd.pinned (.plain (OpenSpec.ofChange tableFewSpec)) tableFewCard

/-- THE TIED CARD OF 'afterglowlaw19.TableKeeps'. -/
def tableKeepsCard : Claim7 := { stood := { row := tableKeepsRow, standIns := [], harness := (true, "d0e9054cb5c68907cd72cf3e1665cfba99976212c01324108ef7ecb61b7737ab"), looks := true }, kinds := [], alts := [], laidByText := true, laidKinds := [.widerDeep], laidTests := true, laidLooks := .later }
def TableKeepsCardSaid : Prop := Claim7.holds Tryd.pinned (.plain (OpenSpec.ofChange tableKeepsSpec)) tableKeepsCard

/-- THE SECOND FORM's CARD OF 'afterglowlaw19.TableWords'. -/
def tableWordsUptoCard : Claim7 := { stood := { row := tableWordsUptoRow, standIns := [], harness := (true, "d0e9054cb5c68907cd72cf3e1665cfba99976212c01324108ef7ecb61b7737ab"), looks := true }, kinds := [], alts := [], laidByText := true, laidKinds := [.widerDeep], laidTests := true, laidLooks := .later }
def TableWordsUptoCardSaid : Prop := Claim7.holds Tryd.pinned (.plain (OpenSpec.upto tableWordsSpec)) tableWordsUptoCard

/-- THE SECOND FORM's CARD OF 'afterglowlaw19.TableFew'. -/
def tableFewUptoCard : Claim7 := { stood := { row := tableFewUptoRow, standIns := [], harness := (true, "d0e9054cb5c68907cd72cf3e1665cfba99976212c01324108ef7ecb61b7737ab"), looks := true }, kinds := [], alts := [], laidByText := true, laidKinds := [.widerDeep], laidTests := true, laidLooks := .later }
def TableFewUptoCardSaid : Prop := Claim7.holds Tryd.pinned (.plain (OpenSpec.upto tableFewSpec)) tableFewUptoCard

/-- THE SECOND FORM's CARD OF 'afterglowlaw19.TableKeeps'. -/
def tableKeepsUptoCard : Claim7 := { stood := { row := tableKeepsUptoRow, standIns := [], harness := (true, "d0e9054cb5c68907cd72cf3e1665cfba99976212c01324108ef7ecb61b7737ab"), looks := true }, kinds := [], alts := [], laidByText := true, laidKinds := [.widerDeep], laidTests := true, laidLooks := .later }
def TableKeepsUptoCardSaid : Prop := Claim7.holds Tryd.pinned (.plain (OpenSpec.upto tableKeepsSpec)) tableKeepsUptoCard
end Rows
end Go.Proofs.YtahicokokfcieaaDoor
