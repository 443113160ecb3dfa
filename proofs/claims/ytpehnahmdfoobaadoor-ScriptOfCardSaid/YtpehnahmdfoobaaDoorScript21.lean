/- Scripts in variables. -/
import Derived.Test.YtpehnahmdfoobaaDoorScript20
namespace Go.Proofs.YtpehnahmdfoobaaDoor
open Go.RowKit
open Go.Proofs
set_option linter.unusedVariables false

theorem cells4 {W : World} {Y : Nat} {v0 v1 v2 v3 : Value} (h : W.heap[Y]? = some (.cells #[v0, v1, v2, v3] 35 (0, 0))) : W.cell? ⟨Y, 0, none⟩ = some v0 ∧ W.cell? ⟨Y, 1, none⟩ = some v1 ∧ W.cell? ⟨Y, 2, none⟩ = some v2 ∧ W.cell? ⟨Y, 3, none⟩ = some v3 :=
  ⟨cell_laid h rfl, cell_laid h rfl, cell_laid h rfl, cell_laid h rfl⟩
/-- A variable that a script is put into. -/
theorem scr_put (w : World) : ∃ w3 Y, w.alloc (.cells #[.int .i64 0, .int .i64 0, .slice none 0 0, .slice none 0 0] 35) = w3 ∧ w.heap.size = Y ∧ w3.heap.size = Y + 1 ∧
    (w3.frozen? ⟨Y, 0, none⟩ = false ∧ w3.frozen? ⟨Y, 1, none⟩ = false ∧ w3.frozen? ⟨Y, 2, none⟩ = false ∧ w3.frozen? ⟨Y, 3, none⟩ = false) ∧
    (w3.cell? ⟨Y, 0, none⟩ = some (.int .i64 0) ∧ w3.cell? ⟨Y, 1, none⟩ = some (.int .i64 0) ∧ w3.cell? ⟨Y, 2, none⟩ = some (.slice none 0 0) ∧ w3.cell? ⟨Y, 3, none⟩ = some (.slice none 0 0)) ∧
    Hid (∀ v0 v1 v2 v3 : Value, ∃ w4, w4 = (((w3.setCell ⟨Y, 0, none⟩ v0).setCell ⟨Y, 1, none⟩ v1).setCell ⟨Y, 2, none⟩ v2).setCell ⟨Y, 3, none⟩ v3 ∧ Below w.heap.size w w4 ∧ w4.heap[Y]? = some (.cells #[v0, v1, v2, v3] 35 (0, 0))) := by
  obtain ⟨w3, hw3, hb3, hs3, hl3⟩ := laid w #[.int .i64 0, .int .i64 0, .slice none 0 0, .slice none 0 0] 35
  refine ⟨w3, w.heap.size, hw3, rfl, hs3, ⟨free_laid hl3, free_laid hl3, free_laid hl3, free_laid hl3⟩, ⟨cell_laid hl3 rfl, cell_laid hl3 rfl, cell_laid hl3 rfl, cell_laid hl3 rfl⟩, hid fun v0 v1 v2 v3 => ⟨_, rfl, ?_, ?_⟩⟩
  · exact hb3.trans ((((Below.refl w3.heap.size w3).mono (show w.heap.size ≤ w3.heap.size by omega)).setCell (p := ⟨w.heap.size, 0, none⟩) (Nat.le_refl _) v0 |>.setCell (p := ⟨w.heap.size, 1, none⟩) (Nat.le_refl _) v1 |>.setCell (p := ⟨w.heap.size, 2, none⟩) (Nat.le_refl _) v2).setCell (p := ⟨w.heap.size, 3, none⟩) (Nat.le_refl _) v3)
  · exact set_laid (i := 3) (set_laid (i := 2) (set_laid (i := 1) (set_laid (i := 0) hl3 v0) v1) v2) v3
end Go.Proofs.YtpehnahmdfoobaaDoor
