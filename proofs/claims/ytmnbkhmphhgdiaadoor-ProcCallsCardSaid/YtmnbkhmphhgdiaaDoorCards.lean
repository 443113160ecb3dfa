/-
  DERIVED. GIVEN WITH THE SEED: THE CARDS: each row of YtmnbkhmphhgdiaaDoorRows.lean that lists a variable, with what it lists TIED to the program's text (the seventh form; the later family's looks); each row that meets fmt, with fmt's text TOLD by the authors' own Lean function (tested against real Go, not proved from fmt's source: count such statements apart). THE CARD IS WHAT COUNTS. Prove the row's statement (the work); the ties are given (YtmnbkhmphhgdiaaDoorTie.lean); close each card by the builder's one call (the guide's Derived/Test/ToyasCard.lean, 'card_holds'). Laid BY PROGRAM, IN A SANDBOX (cutbox-door.mjs). By AI agents, Wed Nov 11 2026. No macro, syntax, notation, axiom, sorry.
-/
import Derived.Test.YtmnbkhmphhgdiaaDoorRows
import GoSem.ClaimSeven
namespace Go.Proofs.YtmnbkhmphhgdiaaDoor
namespace Rows

/-- THE TIED CARD OF 'afterglowlaw22.ProcCalls'. -/
def procCallsCard : Claim7 := { stood := { row := procCallsRow, standIns := [], harness := (true, "9d98262ec36756124cda94bb530b9e392b2cfb112fa8e6c6764265fde8d25c7d"), looks := true }, kinds := [], alts := [], laidByText := true, laidKinds := [.data], laidTests := true, laidLooks := .later }
def ProcCallsCardSaid : Prop := Claim7.holds Tryd.pinned (.plain (OpenSpec.ofChange procCallsSpec)) procCallsCard

/-- THE TIED CARD OF 'afterglowlaw22.ProcOnce'. -/
def procOnceCard : Claim7 := { stood := { row := procOnceRow, standIns := [], harness := (true, "9d98262ec36756124cda94bb530b9e392b2cfb112fa8e6c6764265fde8d25c7d"), looks := true }, kinds := [], alts := [], laidByText := true, laidKinds := [.data], laidTests := true, laidLooks := .later }
def ProcOnceCardSaid : Prop := Claim7.holds Tryd.pinned (.plain (OpenSpec.ofChange procOnceSpec)) procOnceCard

/-- THE TIED CARD OF 'afterglowlaw22.ProcAlone'. -/
def procAloneCard : Claim7 := { stood := { row := procAloneRow, standIns := [], harness := (true, "9d98262ec36756124cda94bb530b9e392b2cfb112fa8e6c6764265fde8d25c7d"), looks := true }, kinds := [], alts := [], laidByText := true, laidKinds := [.data], laidTests := true, laidLooks := .later }
def ProcAloneCardSaid : Prop := Claim7.holds Tryd.pinned (.plain (OpenSpec.ofChange procAloneSpec)) procAloneCard

/-- THE TIED CARD OF 'afterglowlaw22.ProcNever'. -/
def procNeverCard : Claim7 := { stood := { row := procNeverRow, standIns := [], harness := (true, "9d98262ec36756124cda94bb530b9e392b2cfb112fa8e6c6764265fde8d25c7d"), looks := true }, kinds := [], alts := [], laidByText := true, laidKinds := [.data], laidTests := true, laidLooks := .later }
def ProcNeverCardSaid : Prop := Claim7.holds Tryd.pinned (.plain (OpenSpec.ofChange procNeverSpec)) procNeverCard

/-- THE SECOND FORM's CARD OF 'afterglowlaw22.ProcCalls'. -/
def procCallsUptoCard : Claim7 := { stood := { row := procCallsUptoRow, standIns := [], harness := (true, "9d98262ec36756124cda94bb530b9e392b2cfb112fa8e6c6764265fde8d25c7d"), looks := true }, kinds := [], alts := [], laidByText := true, laidKinds := [.data], laidTests := true, laidLooks := .later }
def ProcCallsUptoCardSaid : Prop := Claim7.holds Tryd.pinned (.plain (OpenSpec.upto procCallsSpec)) procCallsUptoCard

/-- THE SECOND FORM's CARD OF 'afterglowlaw22.ProcOnce'. -/
def procOnceUptoCard : Claim7 := { stood := { row := procOnceUptoRow, standIns := [], harness := (true, "9d98262ec36756124cda94bb530b9e392b2cfb112fa8e6c6764265fde8d25c7d"), looks := true }, kinds := [], alts := [], laidByText := true, laidKinds := [.data], laidTests := true, laidLooks := .later }
def ProcOnceUptoCardSaid : Prop := Claim7.holds Tryd.pinned (.plain (OpenSpec.upto procOnceSpec)) procOnceUptoCard

/-- THE SECOND FORM's CARD OF 'afterglowlaw22.ProcAlone'. -/
def procAloneUptoCard : Claim7 := { stood := { row := procAloneUptoRow, standIns := [], harness := (true, "9d98262ec36756124cda94bb530b9e392b2cfb112fa8e6c6764265fde8d25c7d"), looks := true }, kinds := [], alts := [], laidByText := true, laidKinds := [.data], laidTests := true, laidLooks := .later }
def ProcAloneUptoCardSaid : Prop := Claim7.holds Tryd.pinned (.plain (OpenSpec.upto procAloneSpec)) procAloneUptoCard

/-- THE SECOND FORM's CARD OF 'afterglowlaw22.ProcNever'. -/
def procNeverUptoCard : Claim7 := { stood := { row := procNeverUptoRow, standIns := [], harness := (true, "9d98262ec36756124cda94bb530b9e392b2cfb112fa8e6c6764265fde8d25c7d"), looks := true }, kinds := [], alts := [], laidByText := true, laidKinds := [.data], laidTests := true, laidLooks := .later }
def ProcNeverUptoCardSaid : Prop := Claim7.holds Tryd.pinned (.plain (OpenSpec.upto procNeverSpec)) procNeverUptoCard
end Rows
end Go.Proofs.YtmnbkhmphhgdiaaDoor
