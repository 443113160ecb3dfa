/- Tables: what the listed variable holds when the call begins. -/
import Derived.Test.YtahicokokfcieaaGreatDoorRows
import Derived.Test.YtahicokokfcieaaGreatDoorTb3
import Derived.ProofKit
import Derived.LaidMore
import Derived.OpenShut
import Derived.Stop.Joined
namespace Go.Proofs.YtahicokokfcieaaGreatDoor
open Go.ChangeShapes Go.WideShapes Go.ChangeAt Go.RowKit
set_option linter.unusedVariables false
abbrev laidL : List (String × DataW Unit) := [("afterglow/table.parts", Rows.laid_afterglow_table_parts)]
theorem gParts : Tryz.prog.globalNamed "afterglow/table.parts" = some 0 := by kernel_rfl
theorem tParts : (Tryz.prog.globals[0]?).map (·.type) = some 143 := by kernel_rfl
/-- The door's own heap meets the condition. -/
theorem door_met (os : Os) (args : Array Value) : laidMetH Tryz.prog laidL ((World.doorLaid Tryz.prog 400 os).forCall (fun _ _ => 0) ⟨#[], args, []⟩).memory :=
  laidMetH_of_parts3 (fuel := 8) (laidMet_of_run' 8 (by kernel_rfl) (by kernel_rfl)) (by kernel_rfl) (by kernel_rfl)
set_option maxRecDepth 100000 in
theorem field_cells {w : World} {base : Nat} {sp : Nat → Bool} {held : Bool} {n : Nat} {cs : List Value} {d0 d1 : Int} {p : List MemPlace} {H : Type} {enc : TypeId × Value → H}
    (h : DataW.trod enc Tryz.prog w base sp held n 142 cs = some (.agg [.lit (.int .i64 d0), .lit (.int .i64 d1)], p)) : cs = [.int .i64 d0, .int .i64 d1] := by
  obtain ⟨xs, k, -, hx, hlen, hxl, hf⟩ := DataW.trod_struct Tryz.underlying142 h
  have e2 : Tryz.prog.cellsOf 142 = 2 := by kernel_rfl
  have e1 : Tryz.prog.cellsOf 3 = 1 := by kernel_rfl
  rw [e2] at hlen
  match cs, hlen, xs, hxl with
  | [c0, c1], _, [y0, y1], _ =>
    have g0 := hf 0 _ rfl
    have g1 := hf 1 _ rfl
    simp [e1] at g0 g1
    obtain ⟨z0, q0, r0, _⟩ := DataW.trod_int Tryz.underlying3 g0
    obtain ⟨z1, q1, r1, _⟩ := DataW.trod_int Tryz.underlying3 g1
    simp only [Prod.mk.injEq, List.map_cons, List.map_nil, DataW.agg.injEq, List.cons.injEq] at hx
    obtain ⟨⟨h0, h1, _⟩, _⟩ := hx
    rw [r0] at h0
    rw [r1] at h1
    simp only [DataW.lit.injEq, Lit.int.injEq, true_and] at h0 h1
    simp only [List.cons.injEq, and_true] at q0 q1
    rw [q0, q1, h0, h1]
set_option maxRecDepth 100000 in
theorem glob_of_laid {W : World} (h : laidMetH Tryz.prog laidL W) : Glob W := by
  rw [MakeChecks.laidMetH_plain _ _ _ (by kernel_rfl)] at h
  obtain ⟨ps, ⟨g0, t0, cs0, f0, p0, q0, hg0, ht0, hv0, hd0, _, _⟩, _, _⟩ := h
  obtain rfl := Option.some.inj (gParts.symm.trans hg0)
  obtain rfl := Option.some.inj (tParts.symm.trans ht0)
  obtain ⟨xs, m, rfl, hx, hlen, hn4, hel⟩ := DataW.trod_array Tryz.underlying143 hd0
  have e2 : Tryz.prog.cellsOf 142 = 2 := by kernel_rfl
  have e8 : Tryz.prog.cellsOf 143 = 4 := by kernel_rfl
  simp only [Prod.mk.injEq] at hx
  match xs, hn4, hx, hel with
  | [x0, x1], _, hx, hel =>
    have hx1 := hx.1
    simp only [List.map_cons, List.map_nil, Rows.laid_afterglow_table_parts, DataW.agg.injEq, List.cons.injEq, and_true] at hx1
    obtain ⟨y0, y1⟩ := hx1
    have k0 := hel 0 (by decide)
    have k1 := hel 1 (by decide)
    rw [e2] at k0 k1
    have c0 := field_cells (k0.trans (show some x0 = _ by rw [show x0 = (x0.1, x0.2) from rfl, ← y0]))
    have c1 := field_cells (k1.trans (show some x1 = _ by rw [show x1 = (x1.1, x1.2) from rfl, ← y1]))
    rw [e8] at hlen
    obtain ⟨l0⟩ := cs0
    have at0 := World.var?_cell hg0 hv0
    match l0, hlen with
    | [a0, a1, a2, a3], _ =>
      simp at c0 c1
      obtain ⟨rfl, rfl⟩ := c0
      obtain ⟨rfl, rfl⟩ := c1
      have b0 := at0 0
      have b1 := at0 1
      have b2 := at0 2
      have b3 := at0 3
      simp at b0 b1 b2 b3
      exact ⟨block_lt_of_cell b0, b0, b1, b2, b3⟩
end Go.Proofs.YtahicokokfcieaaGreatDoor
