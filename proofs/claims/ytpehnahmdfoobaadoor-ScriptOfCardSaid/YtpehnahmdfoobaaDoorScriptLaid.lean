/- Scripts: what the listed variables hold when the call begins. -/
import Derived.Test.YtpehnahmdfoobaaDoorRows
import Derived.Test.YtpehnahmdfoobaaDoorScript1
import Derived.ProofKit
import Derived.LaidMore
import Derived.OpenShut
import Derived.Stop.Joined
namespace Go.Proofs.YtpehnahmdfoobaaDoor
open Go.ChangeShapes Go.WideShapes Go.ChangeAt Go.RowKit
set_option linter.unusedVariables false

abbrev laidL : List (String × DataW Unit) := [("afterglow/script.parts", Rows.laid_afterglow_script_parts), ("afterglow/script.cpus", Rows.laid_afterglow_script_cpus)]
theorem gParts : Tryd.prog.globalNamed "afterglow/script.parts" = some 1 := by kernel_rfl
theorem gCpus : Tryd.prog.globalNamed "afterglow/script.cpus" = some 0 := by kernel_rfl
theorem tParts : (Tryd.prog.globals[1]?).map (·.type) = some 66 := by kernel_rfl
theorem tCpus : (Tryd.prog.globals[0]?).map (·.type) = some 65 := by kernel_rfl
/-- The door's own heap meets the condition. -/
theorem door_met (os : Os) (args : Array Value) : laidMetH Tryd.prog laidL ((World.doorLaid Tryd.prog 400 os).forCall (fun _ _ => 0) ⟨#[], args, []⟩).memory :=
  laidMetH_of_parts3 (fuel := 8) (laidMet_of_run' 8 (by kernel_rfl) (by kernel_rfl)) (by kernel_rfl) (by kernel_rfl)
theorem field_cells {w : World} {base : Nat} {sp : Nat → Bool} {held : Bool} {n : Nat} {cs : List Value} {d0 d1 : Int} {p : List MemPlace} {H : Type} {enc : TypeId × Value → H}
    (h : DataW.trod enc Tryd.prog w base sp held n 65 cs = some (.agg [.lit (.int .i64 d0), .lit (.int .i64 d1)], p)) : cs = [.int .i64 d0, .int .i64 d1] := by
  obtain ⟨xs, k, -, hx, hlen, hxl, hf⟩ := DataW.trod_struct Tryd.underlying65 h
  have e2 : Tryd.prog.cellsOf 65 = 2 := by kernel_rfl
  have e1 : Tryd.prog.cellsOf 3 = 1 := by kernel_rfl
  rw [e2] at hlen
  match cs, hlen, xs, hxl with
  | [c0, c1], _, [y0, y1], _ =>
    have g0 := hf 0 _ rfl
    have g1 := hf 1 _ rfl
    simp [e1] at g0 g1
    obtain ⟨z0, q0, r0, _⟩ := DataW.trod_int Tryd.underlying3 g0
    obtain ⟨z1, q1, r1, _⟩ := DataW.trod_int Tryd.underlying3 g1
    simp only [Prod.mk.injEq, List.map_cons, List.map_nil, DataW.agg.injEq, List.cons.injEq] at hx
    obtain ⟨⟨h0, h1, _⟩, _⟩ := hx
    rw [r0] at h0
    rw [r1] at h1
    simp only [DataW.lit.injEq, Lit.int.injEq, true_and] at h0 h1
    simp only [List.cons.injEq, and_true] at q0 q1
    rw [q0, q1, h0, h1]
theorem glob_of_laid {W : World} (h : laidMetH Tryd.prog laidL W) : Glob W := by
  rw [MakeChecks.laidMetH_plain _ _ _ (by kernel_rfl)] at h
  obtain ⟨ps, ⟨g0, t0, cs0, f0, p0, q0, hg0, ht0, hv0, hd0, ⟨g1, t1, cs1, f1, p1, q1, hg1, ht1, hv1, hd1, _, _⟩, _⟩, _, _⟩ := h
  obtain rfl := Option.some.inj (gParts.symm.trans hg0)
  obtain rfl := Option.some.inj (gCpus.symm.trans hg1)
  obtain rfl := Option.some.inj (tParts.symm.trans ht0)
  obtain rfl := Option.some.inj (tCpus.symm.trans ht1)
  obtain ⟨xs, m, rfl, hx, hlen, hn4, hel⟩ := DataW.trod_array Tryd.underlying66 hd0
  have e2 : Tryd.prog.cellsOf 65 = 2 := by kernel_rfl
  have e8 : Tryd.prog.cellsOf 66 = 8 := by kernel_rfl
  simp only [Prod.mk.injEq] at hx
  match xs, hn4, hx, hel with
  | [x0, x1, x2, x3], _, hx, hel =>
    have hx1 := hx.1
    simp only [List.map_cons, List.map_nil, Rows.laid_afterglow_script_parts, DataW.agg.injEq, List.cons.injEq, and_true] at hx1
    obtain ⟨y0, y1, y2, y3⟩ := hx1
    have k0 := hel 0 (by decide)
    have k1 := hel 1 (by decide)
    have k2 := hel 2 (by decide)
    have k3 := hel 3 (by decide)
    rw [e2] at k0 k1 k2 k3
    have c0 := field_cells (k0.trans (show some x0 = _ by rw [show x0 = (x0.1, x0.2) from rfl, ← y0]))
    have c1 := field_cells (k1.trans (show some x1 = _ by rw [show x1 = (x1.1, x1.2) from rfl, ← y1]))
    have c2 := field_cells (k2.trans (show some x2 = _ by rw [show x2 = (x2.1, x2.2) from rfl, ← y2]))
    have c3 := field_cells (k3.trans (show some x3 = _ by rw [show x3 = (x3.1, x3.2) from rfl, ← y3]))
    have c4 := field_cells hd1
    rw [e8] at hlen
    obtain ⟨l0⟩ := cs0
    obtain ⟨l1⟩ := cs1
    have at0 := World.var?_cell hg0 hv0
    have at1 := World.var?_cell hg1 hv1
    match l0, hlen with
    | [a0, a1, a2, a3, a4, a5, a6, a7], _ =>
      simp at c0 c1 c2 c3 c4
      obtain ⟨rfl, rfl⟩ := c0
      obtain ⟨rfl, rfl⟩ := c1
      obtain ⟨rfl, rfl⟩ := c2
      obtain ⟨rfl, rfl⟩ := c3
      subst c4
      have z0 := at1 0
      have z1 := at1 1
      have b0 := at0 0
      have b1 := at0 1
      have b2 := at0 2
      have b3 := at0 3
      have b4 := at0 4
      have b5 := at0 5
      have b6 := at0 6
      have b7 := at0 7
      simp at z0 z1 b0 b1 b2 b3 b4 b5 b6 b7
      exact ⟨block_lt_of_cell b0, z0, z1, b0, b1, b2, b3, b4, b5, b6, b7⟩
end Go.Proofs.YtpehnahmdfoobaaDoor
