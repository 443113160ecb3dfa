/- Processes: what the listed variable holds when the call begins. -/
import Derived.Test.YtmnbkhmphhgdiaaDoorRows
import Derived.Test.YtmnbkhmphhgdiaaDoorPr1
import Derived.ProofKit
import Derived.LaidMore
import Derived.OpenShut
import Derived.Stop.Joined
namespace Go.Proofs.YtmnbkhmphhgdiaaDoor
open Go.ChangeShapes Go.WideShapes Go.ChangeAt Go.RowKit
set_option linter.unusedVariables false

abbrev laidL : List (String × DataW Unit) := [("afterglow/proc.first", Rows.laid_afterglow_proc_first)]
theorem gFirst : Tryd.prog.globalNamed "afterglow/proc.first" = some 0 := by kernel_rfl
theorem tFirst : (Tryd.prog.globals[0]?).map (·.type) = some 45 := by kernel_rfl
/-- The door's own heap meets the condition. -/
theorem door_met (os : Os) (args : Array Value) : laidMetH Tryd.prog laidL ((World.doorLaid Tryd.prog 400 os).forCall (fun _ _ => 0) ⟨#[], args, []⟩).memory :=
  laidMetH_of_parts3 (fuel := 8) (laidMet_of_run' 8 (by kernel_rfl) (by kernel_rfl)) (by kernel_rfl) (by kernel_rfl)
theorem glob_of_laid {W : World} (h : laidMetH Tryd.prog laidL W) : Glob W := by
  rw [MakeChecks.laidMetH_plain _ _ _ (by kernel_rfl)] at h
  obtain ⟨ps, ⟨g0, t0, cs0, f0, p0, q0, hg0, ht0, hv0, hd0, _, _⟩, _, _⟩ := h
  obtain rfl := Option.some.inj (gFirst.symm.trans hg0)
  obtain rfl := Option.some.inj (tFirst.symm.trans ht0)
  obtain ⟨xs, k, -, hx, hlen, hxl, hf⟩ := DataW.trod_struct Tryd.underlying45 hd0
  have e4 : Tryd.prog.cellsOf 45 = 4 := by kernel_rfl
  have ec0 : Tryd.prog.cellsOf 29 = 1 := by kernel_rfl
  have ec1 : Tryd.prog.cellsOf 4 = 1 := by kernel_rfl
  rw [e4] at hlen
  obtain ⟨l0⟩ := cs0
  have at0 := World.var?_cell hg0 hv0
  match l0, hlen, xs, hxl with
  | [c0, c1, c2, c3], _, [y0, y1, y2, y3], _ =>
    have g0 := hf 0 _ rfl
    have g1 := hf 1 _ rfl
    have g2 := hf 2 _ rfl
    have g3 := hf 3 _ rfl
    simp [ec0, ec1] at g0 g1 g2 g3
    obtain ⟨z0, a0, r0, _⟩ := DataW.trod_int Tryd.underlying29 g0
    obtain ⟨z1, a1, r1, _⟩ := DataW.trod_int Tryd.underlying29 g1
    obtain ⟨z2, a2, r2⟩ := DataW.trod_bool Tryd.underlying4 g2
    obtain ⟨z3, a3, r3, _⟩ := DataW.trod_int Tryd.underlying29 g3
    simp only [Prod.mk.injEq, List.map_cons, List.map_nil, Rows.laid_afterglow_proc_first, DataW.agg.injEq, List.cons.injEq] at hx
    obtain ⟨⟨h0, h1, h2, h3, _⟩, _⟩ := hx
    have r2' := r2
    rw [r0] at h0
    rw [r1] at h1
    first | rw [r2] at h2 | rw [r2.1] at h2
    rw [r3] at h3
    simp only [DataW.lit.injEq, Lit.int.injEq, Lit.bool.injEq, true_and] at h0 h1 h2 h3
    simp only [List.cons.injEq, and_true] at a0 a1 a2 a3
    rw [← h0] at a0
    rw [← h1] at a1
    rw [← h2] at a2
    rw [← h3] at a3
    subst a0 a1 a2 a3
    have b0 := at0 0
    have b1 := at0 1
    have b2 := at0 2
    have b3 := at0 3
    simp at b0 b1 b2 b3
    exact ⟨block_lt_of_cell b0, b0, b1, b2, b3⟩
end Go.Proofs.YtmnbkhmphhgdiaaDoor
