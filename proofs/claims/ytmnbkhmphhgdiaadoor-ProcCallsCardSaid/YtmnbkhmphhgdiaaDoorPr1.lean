/- Processes: the data, the iterator over a table, the process of a pid (printed by gen_pr1.py). -/
import Derived.Test.YtmnbkhmphhgdiaaDoorProg
import Derived.Test.YtmnbkhmphhgdiaaDoorOwn
import Derived.Test.YtmnbkhmphhgdiaaDoorRange
import Derived.Test.YtmnbkhmphhgdiaaDoorRegion3
import Derived.RangeFuncNested
import Derived.RangeFuncBound
import Derived.RangeFuncCalls
import Derived.RangeFuncLeaves
import Derived.OwnWalkIn
import Derived.TacticsInMore
import Derived.LoopNIn
import Derived.LoopIn
import Derived.OneCell
import Derived.Shelf.Abstract
import Derived.Sort.LoopGhostIn
import Derived.Sort.BigQuietIn
import Derived.Sort.QuietTacIn
namespace Go.Proofs.YtmnbkhmphhgdiaaDoor
open Go.RowKit Go.Shelf
open Go.Proofs
set_option linter.unusedVariables false
attribute [local go_sem] Oper.semAt_some

/-- A process: its pid, its parent's, whether it is dead, its code. -/
abbrev Pr := Nat × Nat × Bool × Nat
def pr4 (x : Pr) : List Value := [.int .u64 ((x.1 : Nat) : Int), .int .u64 ((x.2.1 : Nat) : Int), .bool x.2.2.1, .int .u64 ((x.2.2.2 : Nat) : Int)]
def prV (x : Pr) : Value := .agg #[.int .u64 ((x.1 : Nat) : Int), .int .u64 ((x.2.1 : Nat) : Int), .bool x.2.2.1, .int .u64 ((x.2.2.2 : Nat) : Int)]
def prcells (xs : List Pr) : List Value := xs.flatMap pr4
def Pr.Ok (x : Pr) : Prop := x.1 < 18446744073709551616 ∧ x.2.1 < 18446744073709551616 ∧ x.2.2.2 < 18446744073709551616
def PrsOk (xs : List Pr) : Prop := ∀ x ∈ xs, x.Ok
def GOk (G : Nat → Int) : Prop := ∀ i, -9223372036854775808 ≤ G i ∧ G i ≤ 9223372036854775807
theorem prcells_len (xs : List Pr) : (prcells xs).length = 4 * xs.length := by
  induction xs with
  | nil => rfl
  | cons x xs ih => show (pr4 x ++ prcells xs).length = _; rw [List.length_append, ih, List.length_cons]; show 4 + _ = _; omega
theorem prcells_snoc (xs : List Pr) (t : Pr) : prcells (xs ++ [t]) = prcells xs ++ pr4 t := by simp [prcells]
theorem prcells_append (xs ys : List Pr) : prcells (xs ++ ys) = prcells xs ++ prcells ys := by simp [prcells]
theorem pr4_one (t : Pr) : ∀ u ∈ pr4 t, u.oneCell' = true := by
  intro u hu
  simp only [pr4, List.mem_cons, List.not_mem_nil, or_false] at hu
  rcases hu with rfl | rfl | rfl | rfl <;> rfl
theorem prcells_one (xs : List Pr) : ∀ u ∈ prcells xs, u.oneCell' = true := by
  intro u hu
  simp only [prcells, List.mem_flatMap] at hu
  obtain ⟨t, -, h⟩ := hu
  exact pr4_one t u h
theorem prcells_at {xs : List Pr} {k : Nat} {t : Pr} (h : xs[k]? = some t) : (prcells xs)[k * 4]? = some (.int .u64 ((t.1 : Nat) : Int)) ∧ (prcells xs)[k * 4 + 1]? = some (.int .u64 ((t.2.1 : Nat) : Int)) ∧ (prcells xs)[k * 4 + 2]? = some (.bool t.2.2.1) ∧ (prcells xs)[k * 4 + 3]? = some (.int .u64 ((t.2.2.2 : Nat) : Int)) :=
  ⟨flat_at pr4 4 (fun _ => rfl) xs k 0 t h (by decide), flat_at pr4 4 (fun _ => rfl) xs k 1 t h (by decide), flat_at pr4 4 (fun _ => rfl) xs k 2 t h (by decide), flat_at pr4 4 (fun _ => rfl) xs k 3 t h (by decide)⟩
theorem Leads.pr {w : World} {a : Option Addr} {n cap k : Nat} {xs : List Pr} {t : Pr} (h : Leads w a n cap (prcells xs)) (hk : k < n) (hv : xs[k]? = some t) : ∃ b off, a = some ⟨b, off, none⟩ ∧ b < w.heap.size ∧ ∀ w', Below w.heap.size w w' →
    w'.cell? ⟨b, off + k * 4, none⟩ = some (.int .u64 ((t.1 : Nat) : Int)) ∧ w'.cell? ⟨b, off + k * 4 + 1, none⟩ = some (.int .u64 ((t.2.1 : Nat) : Int)) ∧ w'.cell? ⟨b, off + k * 4 + 2, none⟩ = some (.bool t.2.2.1) ∧ w'.cell? ⟨b, off + k * 4 + 3, none⟩ = some (.int .u64 ((t.2.2.2 : Nat) : Int)) := by
  obtain ⟨_, _, ⟨h, _⟩ | ⟨b, off, rfl, h3, h4⟩⟩ := h
  · omega
  · obtain ⟨q0, q1, q2, q3⟩ := prcells_at hv
    exact ⟨b, off, rfl, h3, fun w' hb => ⟨(hb.cell (p := ⟨b, off + k * 4, none⟩) h3).trans (h4 _ _ q0), (hb.cell (p := ⟨b, off + k * 4 + 1, none⟩) h3).trans (h4 (k * 4 + 1) _ q1), (hb.cell (p := ⟨b, off + k * 4 + 2, none⟩) h3).trans (h4 (k * 4 + 2) _ q2), (hb.cell (p := ⟨b, off + k * 4 + 3, none⟩) h3).trans (h4 (k * 4 + 3) _ q3)⟩⟩
theorem elemPr : Elem Tryd.prog 23 45 4 32 := Elem.mk' (z := .agg #[.int .u64 0, .int .u64 0, .bool false, .int .u64 0]) Tryd.underlying23 (by kernel_rfl) rfl (by decide) (by decide)
theorem grownBy_trans {A B C : World} {r : Option Nat} (h : A.grownBy B r) (k : B.grownBy C r) : A.grownBy C r :=
  ⟨k.os.trans h.os, k.tape.trans h.tape, k.output.trans h.output, Nat.le_trans h.size k.size, fun i hi hr => (k.block i (Nat.lt_of_lt_of_le hi h.size) hr).trans (h.block i hi hr)⟩
theorem ncl4 {W : World} {Y : Nat} {v0 v1 v2 v3 : Value} {T : TypeId} (h : W.heap[Y]? = some (.cells #[v0, v1, v2, v3] T (0, 0))) : W.cell? ⟨Y, 0, none⟩ = some v0 ∧ W.cell? ⟨Y, 1, none⟩ = some v1 ∧ W.cell? ⟨Y, 2, none⟩ = some v2 ∧ W.cell? ⟨Y, 3, none⟩ = some v3 := ⟨cell_laid (i := 0) h rfl, cell_laid (i := 1) h rfl, cell_laid (i := 2) h rfl, cell_laid (i := 3) h rfl⟩
theorem fcl4 {W : World} {Y : Nat} {v0 v1 v2 v3 : Value} {T : TypeId} (h : W.heap[Y]? = some (.cells #[v0, v1, v2, v3] T (0, 0))) : W.cell? ⟨Y, 0, none⟩ = some v0 ∧ W.frozen? ⟨Y, 0, none⟩ = false ∧ W.cell? ⟨Y, 1, none⟩ = some v1 ∧ W.frozen? ⟨Y, 1, none⟩ = false ∧ W.cell? ⟨Y, 2, none⟩ = some v2 ∧ W.frozen? ⟨Y, 2, none⟩ = false ∧ W.cell? ⟨Y, 3, none⟩ = some v3 ∧ W.frozen? ⟨Y, 3, none⟩ = false := ⟨cell_laid (i := 0) h rfl, free_laid (i := 0) h, cell_laid (i := 1) h rfl, free_laid (i := 1) h, cell_laid (i := 2) h rfl, free_laid (i := 2) h, cell_laid (i := 3) h rfl, free_laid (i := 3) h⟩
theorem ncl17 {W : World} {Y : Nat} {v0 v1 v2 v3 v4 v5 v6 v7 v8 v9 v10 v11 v12 v13 v14 v15 v16 : Value} {T : TypeId} (h : W.heap[Y]? = some (.cells #[v0, v1, v2, v3, v4, v5, v6, v7, v8, v9, v10, v11, v12, v13, v14, v15, v16] T (0, 0))) : W.cell? ⟨Y, 0, none⟩ = some v0 ∧ W.cell? ⟨Y, 1, none⟩ = some v1 ∧ W.cell? ⟨Y, 2, none⟩ = some v2 ∧ W.cell? ⟨Y, 3, none⟩ = some v3 ∧ W.cell? ⟨Y, 4, none⟩ = some v4 ∧ W.cell? ⟨Y, 5, none⟩ = some v5 ∧ W.cell? ⟨Y, 6, none⟩ = some v6 ∧ W.cell? ⟨Y, 7, none⟩ = some v7 ∧ W.cell? ⟨Y, 8, none⟩ = some v8 ∧ W.cell? ⟨Y, 9, none⟩ = some v9 ∧ W.cell? ⟨Y, 10, none⟩ = some v10 ∧ W.cell? ⟨Y, 11, none⟩ = some v11 ∧ W.cell? ⟨Y, 12, none⟩ = some v12 ∧ W.cell? ⟨Y, 13, none⟩ = some v13 ∧ W.cell? ⟨Y, 14, none⟩ = some v14 ∧ W.cell? ⟨Y, 15, none⟩ = some v15 ∧ W.cell? ⟨Y, 16, none⟩ = some v16 := ⟨cell_laid (i := 0) h rfl, cell_laid (i := 1) h rfl, cell_laid (i := 2) h rfl, cell_laid (i := 3) h rfl, cell_laid (i := 4) h rfl, cell_laid (i := 5) h rfl, cell_laid (i := 6) h rfl, cell_laid (i := 7) h rfl, cell_laid (i := 8) h rfl, cell_laid (i := 9) h rfl, cell_laid (i := 10) h rfl, cell_laid (i := 11) h rfl, cell_laid (i := 12) h rfl, cell_laid (i := 13) h rfl, cell_laid (i := 14) h rfl, cell_laid (i := 15) h rfl, cell_laid (i := 16) h rfl⟩
theorem fcl17 {W : World} {Y : Nat} {v0 v1 v2 v3 v4 v5 v6 v7 v8 v9 v10 v11 v12 v13 v14 v15 v16 : Value} {T : TypeId} (h : W.heap[Y]? = some (.cells #[v0, v1, v2, v3, v4, v5, v6, v7, v8, v9, v10, v11, v12, v13, v14, v15, v16] T (0, 0))) : W.cell? ⟨Y, 0, none⟩ = some v0 ∧ W.frozen? ⟨Y, 0, none⟩ = false ∧ W.cell? ⟨Y, 1, none⟩ = some v1 ∧ W.frozen? ⟨Y, 1, none⟩ = false ∧ W.cell? ⟨Y, 2, none⟩ = some v2 ∧ W.frozen? ⟨Y, 2, none⟩ = false ∧ W.cell? ⟨Y, 3, none⟩ = some v3 ∧ W.frozen? ⟨Y, 3, none⟩ = false ∧ W.cell? ⟨Y, 4, none⟩ = some v4 ∧ W.frozen? ⟨Y, 4, none⟩ = false ∧ W.cell? ⟨Y, 5, none⟩ = some v5 ∧ W.frozen? ⟨Y, 5, none⟩ = false ∧ W.cell? ⟨Y, 6, none⟩ = some v6 ∧ W.frozen? ⟨Y, 6, none⟩ = false ∧ W.cell? ⟨Y, 7, none⟩ = some v7 ∧ W.frozen? ⟨Y, 7, none⟩ = false ∧ W.cell? ⟨Y, 8, none⟩ = some v8 ∧ W.frozen? ⟨Y, 8, none⟩ = false ∧ W.cell? ⟨Y, 9, none⟩ = some v9 ∧ W.frozen? ⟨Y, 9, none⟩ = false ∧ W.cell? ⟨Y, 10, none⟩ = some v10 ∧ W.frozen? ⟨Y, 10, none⟩ = false ∧ W.cell? ⟨Y, 11, none⟩ = some v11 ∧ W.frozen? ⟨Y, 11, none⟩ = false ∧ W.cell? ⟨Y, 12, none⟩ = some v12 ∧ W.frozen? ⟨Y, 12, none⟩ = false ∧ W.cell? ⟨Y, 13, none⟩ = some v13 ∧ W.frozen? ⟨Y, 13, none⟩ = false ∧ W.cell? ⟨Y, 14, none⟩ = some v14 ∧ W.frozen? ⟨Y, 14, none⟩ = false ∧ W.cell? ⟨Y, 15, none⟩ = some v15 ∧ W.frozen? ⟨Y, 15, none⟩ = false ∧ W.cell? ⟨Y, 16, none⟩ = some v16 ∧ W.frozen? ⟨Y, 16, none⟩ = false := ⟨cell_laid (i := 0) h rfl, free_laid (i := 0) h, cell_laid (i := 1) h rfl, free_laid (i := 1) h, cell_laid (i := 2) h rfl, free_laid (i := 2) h, cell_laid (i := 3) h rfl, free_laid (i := 3) h, cell_laid (i := 4) h rfl, free_laid (i := 4) h, cell_laid (i := 5) h rfl, free_laid (i := 5) h, cell_laid (i := 6) h rfl, free_laid (i := 6) h, cell_laid (i := 7) h rfl, free_laid (i := 7) h, cell_laid (i := 8) h rfl, free_laid (i := 8) h, cell_laid (i := 9) h rfl, free_laid (i := 9) h, cell_laid (i := 10) h rfl, free_laid (i := 10) h, cell_laid (i := 11) h rfl, free_laid (i := 11) h, cell_laid (i := 12) h rfl, free_laid (i := 12) h, cell_laid (i := 13) h rfl, free_laid (i := 13) h, cell_laid (i := 14) h rfl, free_laid (i := 14) h, cell_laid (i := 15) h rfl, free_laid (i := 15) h, cell_laid (i := 16) h rfl, free_laid (i := 16) h⟩
theorem putN4 {V : World} {Y : Nat} {z0 z1 z2 z3 : Value} {T : TypeId} (h : V.heap[Y]? = some (.cells #[z0, z1, z2, z3] T (0, 0))) (v0 v1 v2 v3 : Value) :
    ∃ V', V' = ((((V.setCell ⟨Y, 0, none⟩ v0).setCell ⟨Y, 1, none⟩ v1).setCell ⟨Y, 2, none⟩ v2).setCell ⟨Y, 3, none⟩ v3) ∧ V'.heap[Y]? = some (.cells #[v0, v1, v2, v3] T (0, 0)) ∧ (∀ (k : Nat) (o : Obj), k ≠ Y → V.heap[k]? = some o → V'.heap[k]? = some o) ∧ (∀ (B : Nat) (w : World), B ≤ Y → Below B w V → Below B w V') ∧ V.grownBy V' (some Y) := by
  obtain ⟨V0, hV0⟩ : ∃ W, V.setCell ⟨Y, 0, none⟩ v0 = W := ⟨_, rfl⟩
  have h0 : V0.heap[Y]? = some (.cells #[v0, z1, z2, z3] T (0, 0)) := by rw [← hV0]; exact set_laid (i := 0) h v0
  obtain ⟨V1, hV1⟩ : ∃ W, V0.setCell ⟨Y, 1, none⟩ v1 = W := ⟨_, rfl⟩
  have h1 : V1.heap[Y]? = some (.cells #[v0, v1, z2, z3] T (0, 0)) := by rw [← hV1]; exact set_laid (i := 1) h0 v1
  obtain ⟨V2, hV2⟩ : ∃ W, V1.setCell ⟨Y, 2, none⟩ v2 = W := ⟨_, rfl⟩
  have h2 : V2.heap[Y]? = some (.cells #[v0, v1, v2, z3] T (0, 0)) := by rw [← hV2]; exact set_laid (i := 2) h1 v2
  obtain ⟨V3, hV3⟩ : ∃ W, V2.setCell ⟨Y, 3, none⟩ v3 = W := ⟨_, rfl⟩
  have h3 : V3.heap[Y]? = some (.cells #[v0, v1, v2, v3] T (0, 0)) := by rw [← hV3]; exact set_laid (i := 3) h2 v3
  refine ⟨V3, by rw [hV0, hV1, hV2, hV3], h3, fun k o hk ho => ?_, fun B w hB hb => ?_, ?_⟩
  · rw [← hV3, ← hV2, ← hV1, ← hV0]; exact (other_laid (other_laid (other_laid (other_laid ho hk _) hk _) hk _) hk _)
  · rw [← hV3, ← hV2, ← hV1, ← hV0]; exact ((((hb.setCell (p := ⟨Y, 0, none⟩) hB _).setCell (p := ⟨Y, 1, none⟩) hB _).setCell (p := ⟨Y, 2, none⟩) hB _).setCell (p := ⟨Y, 3, none⟩) hB _)
  · rw [← hV3, ← hV2, ← hV1, ← hV0]; exact (grownBy_trans (grownBy_trans (grownBy_trans (grownBy_setCell _ Y 0 _) (grownBy_setCell _ Y 1 _)) (grownBy_setCell _ Y 2 _)) (grownBy_setCell _ Y 3 _))
theorem putN17 {V : World} {Y : Nat} {z0 z1 z2 z3 z4 z5 z6 z7 z8 z9 z10 z11 z12 z13 z14 z15 z16 : Value} {T : TypeId} (h : V.heap[Y]? = some (.cells #[z0, z1, z2, z3, z4, z5, z6, z7, z8, z9, z10, z11, z12, z13, z14, z15, z16] T (0, 0))) (v0 v1 v2 v3 v4 v5 v6 v7 v8 v9 v10 v11 v12 v13 v14 v15 v16 : Value) :
    ∃ V', V' = (((((((((((((((((V.setCell ⟨Y, 0, none⟩ v0).setCell ⟨Y, 1, none⟩ v1).setCell ⟨Y, 2, none⟩ v2).setCell ⟨Y, 3, none⟩ v3).setCell ⟨Y, 4, none⟩ v4).setCell ⟨Y, 5, none⟩ v5).setCell ⟨Y, 6, none⟩ v6).setCell ⟨Y, 7, none⟩ v7).setCell ⟨Y, 8, none⟩ v8).setCell ⟨Y, 9, none⟩ v9).setCell ⟨Y, 10, none⟩ v10).setCell ⟨Y, 11, none⟩ v11).setCell ⟨Y, 12, none⟩ v12).setCell ⟨Y, 13, none⟩ v13).setCell ⟨Y, 14, none⟩ v14).setCell ⟨Y, 15, none⟩ v15).setCell ⟨Y, 16, none⟩ v16) ∧ V'.heap[Y]? = some (.cells #[v0, v1, v2, v3, v4, v5, v6, v7, v8, v9, v10, v11, v12, v13, v14, v15, v16] T (0, 0)) ∧ (∀ (k : Nat) (o : Obj), k ≠ Y → V.heap[k]? = some o → V'.heap[k]? = some o) ∧ (∀ (B : Nat) (w : World), B ≤ Y → Below B w V → Below B w V') ∧ V.grownBy V' (some Y) := by
  obtain ⟨V0, hV0⟩ : ∃ W, V.setCell ⟨Y, 0, none⟩ v0 = W := ⟨_, rfl⟩
  have h0 : V0.heap[Y]? = some (.cells #[v0, z1, z2, z3, z4, z5, z6, z7, z8, z9, z10, z11, z12, z13, z14, z15, z16] T (0, 0)) := by rw [← hV0]; exact set_laid (i := 0) h v0
  obtain ⟨V1, hV1⟩ : ∃ W, V0.setCell ⟨Y, 1, none⟩ v1 = W := ⟨_, rfl⟩
  have h1 : V1.heap[Y]? = some (.cells #[v0, v1, z2, z3, z4, z5, z6, z7, z8, z9, z10, z11, z12, z13, z14, z15, z16] T (0, 0)) := by rw [← hV1]; exact set_laid (i := 1) h0 v1
  obtain ⟨V2, hV2⟩ : ∃ W, V1.setCell ⟨Y, 2, none⟩ v2 = W := ⟨_, rfl⟩
  have h2 : V2.heap[Y]? = some (.cells #[v0, v1, v2, z3, z4, z5, z6, z7, z8, z9, z10, z11, z12, z13, z14, z15, z16] T (0, 0)) := by rw [← hV2]; exact set_laid (i := 2) h1 v2
  obtain ⟨V3, hV3⟩ : ∃ W, V2.setCell ⟨Y, 3, none⟩ v3 = W := ⟨_, rfl⟩
  have h3 : V3.heap[Y]? = some (.cells #[v0, v1, v2, v3, z4, z5, z6, z7, z8, z9, z10, z11, z12, z13, z14, z15, z16] T (0, 0)) := by rw [← hV3]; exact set_laid (i := 3) h2 v3
  obtain ⟨V4, hV4⟩ : ∃ W, V3.setCell ⟨Y, 4, none⟩ v4 = W := ⟨_, rfl⟩
  have h4 : V4.heap[Y]? = some (.cells #[v0, v1, v2, v3, v4, z5, z6, z7, z8, z9, z10, z11, z12, z13, z14, z15, z16] T (0, 0)) := by rw [← hV4]; exact set_laid (i := 4) h3 v4
  obtain ⟨V5, hV5⟩ : ∃ W, V4.setCell ⟨Y, 5, none⟩ v5 = W := ⟨_, rfl⟩
  have h5 : V5.heap[Y]? = some (.cells #[v0, v1, v2, v3, v4, v5, z6, z7, z8, z9, z10, z11, z12, z13, z14, z15, z16] T (0, 0)) := by rw [← hV5]; exact set_laid (i := 5) h4 v5
  obtain ⟨V6, hV6⟩ : ∃ W, V5.setCell ⟨Y, 6, none⟩ v6 = W := ⟨_, rfl⟩
  have h6 : V6.heap[Y]? = some (.cells #[v0, v1, v2, v3, v4, v5, v6, z7, z8, z9, z10, z11, z12, z13, z14, z15, z16] T (0, 0)) := by rw [← hV6]; exact set_laid (i := 6) h5 v6
  obtain ⟨V7, hV7⟩ : ∃ W, V6.setCell ⟨Y, 7, none⟩ v7 = W := ⟨_, rfl⟩
  have h7 : V7.heap[Y]? = some (.cells #[v0, v1, v2, v3, v4, v5, v6, v7, z8, z9, z10, z11, z12, z13, z14, z15, z16] T (0, 0)) := by rw [← hV7]; exact set_laid (i := 7) h6 v7
  obtain ⟨V8, hV8⟩ : ∃ W, V7.setCell ⟨Y, 8, none⟩ v8 = W := ⟨_, rfl⟩
  have h8 : V8.heap[Y]? = some (.cells #[v0, v1, v2, v3, v4, v5, v6, v7, v8, z9, z10, z11, z12, z13, z14, z15, z16] T (0, 0)) := by rw [← hV8]; exact set_laid (i := 8) h7 v8
  obtain ⟨V9, hV9⟩ : ∃ W, V8.setCell ⟨Y, 9, none⟩ v9 = W := ⟨_, rfl⟩
  have h9 : V9.heap[Y]? = some (.cells #[v0, v1, v2, v3, v4, v5, v6, v7, v8, v9, z10, z11, z12, z13, z14, z15, z16] T (0, 0)) := by rw [← hV9]; exact set_laid (i := 9) h8 v9
  obtain ⟨V10, hV10⟩ : ∃ W, V9.setCell ⟨Y, 10, none⟩ v10 = W := ⟨_, rfl⟩
  have h10 : V10.heap[Y]? = some (.cells #[v0, v1, v2, v3, v4, v5, v6, v7, v8, v9, v10, z11, z12, z13, z14, z15, z16] T (0, 0)) := by rw [← hV10]; exact set_laid (i := 10) h9 v10
  obtain ⟨V11, hV11⟩ : ∃ W, V10.setCell ⟨Y, 11, none⟩ v11 = W := ⟨_, rfl⟩
  have h11 : V11.heap[Y]? = some (.cells #[v0, v1, v2, v3, v4, v5, v6, v7, v8, v9, v10, v11, z12, z13, z14, z15, z16] T (0, 0)) := by rw [← hV11]; exact set_laid (i := 11) h10 v11
  obtain ⟨V12, hV12⟩ : ∃ W, V11.setCell ⟨Y, 12, none⟩ v12 = W := ⟨_, rfl⟩
  have h12 : V12.heap[Y]? = some (.cells #[v0, v1, v2, v3, v4, v5, v6, v7, v8, v9, v10, v11, v12, z13, z14, z15, z16] T (0, 0)) := by rw [← hV12]; exact set_laid (i := 12) h11 v12
  obtain ⟨V13, hV13⟩ : ∃ W, V12.setCell ⟨Y, 13, none⟩ v13 = W := ⟨_, rfl⟩
  have h13 : V13.heap[Y]? = some (.cells #[v0, v1, v2, v3, v4, v5, v6, v7, v8, v9, v10, v11, v12, v13, z14, z15, z16] T (0, 0)) := by rw [← hV13]; exact set_laid (i := 13) h12 v13
  obtain ⟨V14, hV14⟩ : ∃ W, V13.setCell ⟨Y, 14, none⟩ v14 = W := ⟨_, rfl⟩
  have h14 : V14.heap[Y]? = some (.cells #[v0, v1, v2, v3, v4, v5, v6, v7, v8, v9, v10, v11, v12, v13, v14, z15, z16] T (0, 0)) := by rw [← hV14]; exact set_laid (i := 14) h13 v14
  obtain ⟨V15, hV15⟩ : ∃ W, V14.setCell ⟨Y, 15, none⟩ v15 = W := ⟨_, rfl⟩
  have h15 : V15.heap[Y]? = some (.cells #[v0, v1, v2, v3, v4, v5, v6, v7, v8, v9, v10, v11, v12, v13, v14, v15, z16] T (0, 0)) := by rw [← hV15]; exact set_laid (i := 15) h14 v15
  obtain ⟨V16, hV16⟩ : ∃ W, V15.setCell ⟨Y, 16, none⟩ v16 = W := ⟨_, rfl⟩
  have h16 : V16.heap[Y]? = some (.cells #[v0, v1, v2, v3, v4, v5, v6, v7, v8, v9, v10, v11, v12, v13, v14, v15, v16] T (0, 0)) := by rw [← hV16]; exact set_laid (i := 16) h15 v16
  refine ⟨V16, by rw [hV0, hV1, hV2, hV3, hV4, hV5, hV6, hV7, hV8, hV9, hV10, hV11, hV12, hV13, hV14, hV15, hV16], h16, fun k o hk ho => ?_, fun B w hB hb => ?_, ?_⟩
  · rw [← hV16, ← hV15, ← hV14, ← hV13, ← hV12, ← hV11, ← hV10, ← hV9, ← hV8, ← hV7, ← hV6, ← hV5, ← hV4, ← hV3, ← hV2, ← hV1, ← hV0]; exact (other_laid (other_laid (other_laid (other_laid (other_laid (other_laid (other_laid (other_laid (other_laid (other_laid (other_laid (other_laid (other_laid (other_laid (other_laid (other_laid (other_laid ho hk _) hk _) hk _) hk _) hk _) hk _) hk _) hk _) hk _) hk _) hk _) hk _) hk _) hk _) hk _) hk _) hk _)
  · rw [← hV16, ← hV15, ← hV14, ← hV13, ← hV12, ← hV11, ← hV10, ← hV9, ← hV8, ← hV7, ← hV6, ← hV5, ← hV4, ← hV3, ← hV2, ← hV1, ← hV0]; exact (((((((((((((((((hb.setCell (p := ⟨Y, 0, none⟩) hB _).setCell (p := ⟨Y, 1, none⟩) hB _).setCell (p := ⟨Y, 2, none⟩) hB _).setCell (p := ⟨Y, 3, none⟩) hB _).setCell (p := ⟨Y, 4, none⟩) hB _).setCell (p := ⟨Y, 5, none⟩) hB _).setCell (p := ⟨Y, 6, none⟩) hB _).setCell (p := ⟨Y, 7, none⟩) hB _).setCell (p := ⟨Y, 8, none⟩) hB _).setCell (p := ⟨Y, 9, none⟩) hB _).setCell (p := ⟨Y, 10, none⟩) hB _).setCell (p := ⟨Y, 11, none⟩) hB _).setCell (p := ⟨Y, 12, none⟩) hB _).setCell (p := ⟨Y, 13, none⟩) hB _).setCell (p := ⟨Y, 14, none⟩) hB _).setCell (p := ⟨Y, 15, none⟩) hB _).setCell (p := ⟨Y, 16, none⟩) hB _)
  · rw [← hV16, ← hV15, ← hV14, ← hV13, ← hV12, ← hV11, ← hV10, ← hV9, ← hV8, ← hV7, ← hV6, ← hV5, ← hV4, ← hV3, ← hV2, ← hV1, ← hV0]; exact (grownBy_trans (grownBy_trans (grownBy_trans (grownBy_trans (grownBy_trans (grownBy_trans (grownBy_trans (grownBy_trans (grownBy_trans (grownBy_trans (grownBy_trans (grownBy_trans (grownBy_trans (grownBy_trans (grownBy_trans (grownBy_trans (grownBy_setCell _ Y 0 _) (grownBy_setCell _ Y 1 _)) (grownBy_setCell _ Y 2 _)) (grownBy_setCell _ Y 3 _)) (grownBy_setCell _ Y 4 _)) (grownBy_setCell _ Y 5 _)) (grownBy_setCell _ Y 6 _)) (grownBy_setCell _ Y 7 _)) (grownBy_setCell _ Y 8 _)) (grownBy_setCell _ Y 9 _)) (grownBy_setCell _ Y 10 _)) (grownBy_setCell _ Y 11 _)) (grownBy_setCell _ Y 12 _)) (grownBy_setCell _ Y 13 _)) (grownBy_setCell _ Y 14 _)) (grownBy_setCell _ Y 15 _)) (grownBy_setCell _ Y 16 _))

/-- The variable that the program's text lays: the first process. -/
structure Glob (w : World) : Prop where
  one : 1 ≤ w.heap.size
  c0 : w.cell? ⟨0, 0, none⟩ = some (.int .u64 1)
  c1 : w.cell? ⟨0, 1, none⟩ = some (.int .u64 0)
  c2 : w.cell? ⟨0, 2, none⟩ = some (.bool false)
  c3 : w.cell? ⟨0, 3, none⟩ = some (.int .u64 0)
theorem Glob.grow {w w' : World} (h : Glob w) (hb : Below w.heap.size w w') : Glob w' := by
  have k : ∀ i v, w.cell? ⟨0, i, none⟩ = some v → w'.cell? ⟨0, i, none⟩ = some v := fun i v hv => (hb.cell (p := ⟨0, i, none⟩) (Nat.lt_of_lt_of_le Nat.zero_lt_one h.one)).trans hv
  exact ⟨Nat.le_trans h.one hb.size, k _ _ h.c0, k _ _ h.c1, k _ _ h.c2, k _ _ h.c3⟩

theorem index_any (p : Nat) (V : World) (hp : p < 18446744073709551616) : Calls Tryd.prog 49 #[.int .u64 ((p : Nat) : Int)] V (Ret (.int .i64 ((p % 64 : Nat) : Int)) V) := by
  obtain ⟨q, hq⟩ : ∃ q, p % 64 = q := ⟨_, rfl⟩
  have hq64 : q < 64 := by omega
  have hm : ((p : Nat) : Int).tmod 64 = ((q : Nat) : Int) := by rw [← hq]; rfl
  rw [hq]
  clear hq
  go_enter Tryd.func49, Tryd.ntmps49
  go_wp2
  go_ret
  exact ⟨rfl, Below.refl _ _⟩
theorem living_any (T : Nat) (V : World) : Calls Tryd.prog 41 #[.pointer (some ⟨T, 0, none⟩)] V (fun e W => ∃ Y, e = .returned (.func (.func 58) #[] #[.pointer (some ⟨Y, 0, none⟩)]) ∧ V.heap.size ≤ Y ∧ W.heap[Y]? = some (.cells #[.pointer (some ⟨T, 0, none⟩)] 60 (0, 0)) ∧ Below V.heap.size V W) := by
  obtain ⟨V1, hV1, hb1, hs1, hl1⟩ := laid V #[.pointer (some ⟨T, 0, none⟩)] 60
  have HL := hid hl1
  have HB := hid hb1
  have hmf : ∀ (fn : Fn) (first cap : Array Value) (w : World), (Instr.makeFunc fn first cap).run Tryd.prog w = .ok (.func fn first cap) w := fun _ _ _ _ => rfl
  clear hl1 hb1 hs1
  go_enter Tryd.func41, Tryd.ntmps41
  go_wp2
  go_ret
  exact ⟨_, rfl, Nat.le_refl _, HL.out, HB.out⟩

set_option maxRecDepth 100000 in
set_option maxHeartbeats 2000000 in
/-- The iterator's word. -/
theorem living_seq (Y T Bs s0 n c b off : Nat) (a : Option Addr) (G : Nat → Int) (T0 : TypeId) (kept : Nat → Prop) (ha : n = 0 ∨ a = some ⟨b, off, none⟩) (hn : n ≤ 1000) (hc : n ≤ c) (hc2 : c ≤ 9223372036854775807) (k1 : kept Y) (k2 : kept T) :
    SeqT (Turn Bs s0) Fence.wide 4 Tryd.prog 58 #[.pointer (some ⟨Y, 0, none⟩)] (fun i : Fin n => #[.int .i64 ((i.val : Nat) : Int), .pointer (some ⟨b, off + i.val * 4, none⟩)]) (Keeps kept)
      (fun xs => xs.map (·.val) = List.range n) (fun pre => ∃ k, pre.map (·.val) = List.range k) 1001
      (fun W => W.heap[Y]? = some (.cells #[.pointer (some ⟨T, 0, none⟩)] 60 (0, 0)) ∧ ∃ v16, (∀ i : Fin 16, True) ∧ W.heap[T]? = some (.cells #[.int .i64 (G 0), .int .i64 (G 1), .int .i64 (G 2), .int .i64 (G 3), .int .i64 (G 4), .int .i64 (G 5), .int .i64 (G 6), .int .i64 (G 7), .int .i64 (G 8), .int .i64 (G 9), .int .i64 (G 10), .int .i64 (G 11), .int .i64 (G 12), .int .i64 (G 13), .int .i64 (G 14), .int .i64 (G 15), v16] T0 (0, 0)) ∧ v16 = .slice a n c) := by
  intro l J Jx W hR hJ hJx hY h0
  obtain ⟨hy, v16, -, ht, rfl⟩ := hR
  have HY := hid hY
  have HJ0 := hid h0
  have H1 := hid hy
  have H2 := hid ht
  have y0 := cell_laid (i := 0) hy rfl
  have t16 := cell_laid (i := 16) ht rfl
  have K1 := hid k1
  have K2 := hid k2
  have HA := hid ha
  clear hJ hJx hY h0 hy ht k1 k2 ha
  refine callsIn_of_wp Tryd.func58 rfl trivial ?_ rfl
  simp only [Tryd.ntmps58, List.size_toArray, List.length_cons, List.length_nil, Nat.reduceAdd, Nat.reduceSub, Array.replicate_succ, Array.replicate_zero, List.push_toArray, List.append_toArray, List.nil_append, List.cons_append]
  gi_wp2
  gi_loopg [10] n (fun g t10 wr => ∃ (k : Nat) (pre : List (Fin n)), g + k = n ∧ t10 = .int .i64 ((k : Nat) : Int) ∧ Hid (pre.map (·.val) = List.range k) ∧ Hid (wr.heap[Y]? = some (.cells #[.pointer (some ⟨T, 0, none⟩)] 60 (0, 0))) ∧ Hid (wr.heap[T]? = some (.cells #[.int .i64 (G 0), .int .i64 (G 1), .int .i64 (G 2), .int .i64 (G 3), .int .i64 (G 4), .int .i64 (G 5), .int .i64 (G 6), .int .i64 (G 7), .int .i64 (G 8), .int .i64 (G 9), .int .i64 (G 10), .int .i64 (G 11), .int .i64 (G 12), .int .i64 (G 13), .int .i64 (G 14), .int .i64 (G 15), .slice a n c] T0 (0, 0))) ∧ Hid (J pre wr))
  case atStart => exact ⟨0, [], rfl, rfl, hid rfl, H1, H2, HJ0⟩
  case round =>
    obtain ⟨k, pre, hk, rfl, hpre, h1, h2, h3⟩ := hrel
    have HK := hid hk
    clear hk
    by_cases hlt : k < n
    · obtain rfl : a = some ⟨b, off, none⟩ := by
        rcases HA.out with h | h
        · omega
        · exact h
      have y0 := cell_laid (i := 0) h1.out rfl
      have t16 := cell_laid (i := 16) h2.out rfl
      obtain ⟨fn, tmps, assign, body, hy, hR⟩ := HY.out pre ⟨k, hlt⟩ wr h3.out (by have := congrArg List.length hpre.out; simp at this; omega)
      dsimp only at hy hR
      have HPS : Hid ((pre ++ [(⟨k, hlt⟩ : Fin n)]).map (·.val) = List.range (k + 1)) := hid (by rw [List.map_append, hpre.out, List.range_succ]; rfl)
      clear hpre
      gi_wp2
      refine hR.mono ?_
      rintro e W3 (⟨rfl, hJ3, hk3⟩ | ⟨rfl, hJx3⟩)
      · have H13 := hid ((hk3 Y K1.out).trans h1.out)
        have H23 := hid ((hk3 T K2.out).trans h2.out)
        have HJ3 := hid hJ3
        clear hk3 hJ3 hR hy
        gi_wp2
        go_roundg (gk - 1)
        case measure => have := HK.out; omega
        case rel => exact ⟨k + 1, _, by have := HK.out; omega, by go_num, HPS, H13, H23, HJ3⟩
      · have HJX := hid hJx3
        clear hJx3 hR hy
        gi_wp2
        refine bodyPost_ret (results_none rfl _ _ _) rfl ?_
        exact ⟨⟨_, rfl⟩, .inr ⟨_, ⟨k + 1, HPS.out⟩, HJX.out⟩⟩
    · have e := HK.out
      obtain rfl : k = n := by omega
      clear e
      gi_wp2
      go_end0
      exact ⟨⟨_, rfl⟩, .inl ⟨pre, hpre.out, h3.out⟩⟩

/-- What lies while the process of a pid is sought. -/
structure OfI (V : World) (P Z base pid : Nat) (r : Value) (W : World) : Prop where
  bp : W.heap[P]? = some (.cells #[.int .u64 ((pid : Nat) : Int)] 29 (0, 0))
  bz : W.heap[Z]? = some (.cells #[r] 61 (0, 0))
  below : Below V.heap.size V W
  sz : base ≤ W.heap.size
theorem OfI.grow {V : World} {P Z base pid : Nat} {r : Value} {W W' : World} (h : OfI V P Z base pid r W) (hb : Below W.heap.size W W') : OfI V P Z base pid r W' :=
  ⟨keep_laid h.bp hb, keep_laid h.bz hb, h.below.trans (hb.mono h.below.size), Nat.le_trans h.sz hb.size⟩
theorem OfI.abide {V A B : World} {P Z base pid Bs : Nat} {r : Value} {row : Option Nat} (h : OfI V P Z base pid r A) (hg : A.grownBy B row)
    (hr : ∀ r, row = some r → r = Bs ∨ (base ≤ r ∧ ∃ o, A.heap[r]? = some o ∧ o.isCells = false)) (h1 : P ≠ Bs) (h2 : Z ≠ Bs) (h3 : V.heap.size ≤ Bs) (h4 : V.heap.size ≤ base) : OfI V P Z base pid r B :=
  ⟨cells_abide h.bp hg hr h1, cells_abide h.bz hg hr h2, below_abide h.below hg hr h3 h4, Nat.le_trans h.sz hg.size⟩
/-- The place of a pid's process. -/
def OfP (L : List Pr) (a : Option Addr) (pid : Nat) (r : Value) : Prop :=
  (r = .pointer none ∧ ∀ x ∈ L, x.1 ≠ pid) ∨ ∃ k x b off, L[k]? = some x ∧ x.1 = pid ∧ (∀ y ∈ L.take k, y.1 ≠ pid) ∧ a = some ⟨b, off, none⟩ ∧ r = .pointer (some ⟨b, off + k * 4, none⟩)
theorem of_result {W : World} {b : Nat} {v0 : Value} {tmps : Array Value} (h : W.heap[b]? = some (.cells #[v0] 61 (0, 0))) (hp : tmps[4]?.getD undef = .pointer (some ⟨b, 0, none⟩)) :
    (results Tryd.f43 tmps).run Tryd.prog W = .ok v0 W := by
  have e0 := cell_laid (i := 0) (v := v0) h rfl
  simp [results, Tryd.results43, go_sem, hp, e0]
theorem val_inj {n : Nat} {xs : List (Fin n)} {k : Nat} (h : xs.map (·.val) = List.range k) : ∀ i, i < k → ∃ h' : i < n, (⟨i, h'⟩ : Fin n) ∈ xs := by
  intro i hi
  have hm : i ∈ xs.map (·.val) := by rw [h]; exact List.mem_range.2 hi
  obtain ⟨x, hx, rfl⟩ := List.mem_map.1 hm
  exact ⟨x.2, hx⟩
theorem val_last {n : Nat} {pre : List (Fin n)} {x : Fin n} {k : Nat} (h : (pre ++ [x]).map (·.val) = List.range k) : k = x.val + 1 ∧ pre.map (·.val) = List.range x.val := by
  cases k with
  | zero => simp at h
  | succ k =>
    rw [List.range_succ, List.map_append, List.map_singleton] at h
    obtain ⟨h1, h2⟩ := List.append_inj' h rfl
    simp only [List.cons.injEq, and_true] at h2
    subst h2
    exact ⟨rfl, h1⟩
set_option maxRecDepth 100000 in
set_option maxHeartbeats 4000000 in
theorem of_any (T n c pid : Nat) (a : Option Addr) (G : Nat → Int) (T0 : TypeId) (L : List Pr) (V : World) (hT : V.heap[T]? = some (.cells #[.int .i64 (G 0), .int .i64 (G 1), .int .i64 (G 2), .int .i64 (G 3), .int .i64 (G 4), .int .i64 (G 5), .int .i64 (G 6), .int .i64 (G 7), .int .i64 (G 8), .int .i64 (G 9), .int .i64 (G 10), .int .i64 (G 11), .int .i64 (G 12), .int .i64 (G 13), .int .i64 (G 14), .int .i64 (G 15), .slice a n c] T0 (0, 0))) (hl : Leads V a n c (prcells L)) (hn : L.length = n) (hn5 : n ≤ 1000) :
    Calls Tryd.prog 43 #[.pointer (some ⟨T, 0, none⟩), .int .u64 ((pid : Nat) : Int)] V (fun e W => ∃ r, e = .returned r ∧ OfP L a pid r ∧ Below V.heap.size V W) := by
  obtain ⟨V1, hV1, hb1, hs1, hl1⟩ := laid V #[.int .u64 ((pid : Nat) : Int)] 29
  obtain ⟨V2, hV2, hb2, hs2, hl2⟩ := laid V1 #[.pointer none] 61
  obtain ⟨P, hP⟩ : ∃ X, V.heap.size = X := ⟨_, rfl⟩
  obtain ⟨Z, hZ⟩ : ∃ X, V1.heap.size = X := ⟨_, rfl⟩
  rw [hP] at hl1
  rw [hZ] at hl2
  have hTl := lt_laid hT
  have hPZ : P < Z := by omega
  have hTP : T < P := by omega
  have hsz2 : V2.heap.size = Z + 1 := by omega
  have HVP : Hid (V.heap.size = P) := hid hP
  have HB2 := hid (step hb1 hb2)
  have KP := hid (keep_laid hl1 hb2)
  have KZ := hid hl2
  have KT := hid (keep_laid hT (step hb1 hb2))
  have HL := hid hl
  have HN := hid hn
  have hlen := hl.len
  obtain ⟨b, off, hab⟩ : ∃ b off, n = 0 ∨ a = some ⟨b, off, none⟩ := by
    obtain ⟨_, _, ⟨h, _⟩ | ⟨b, off, h, _⟩⟩ := hl
    · exact ⟨0, 0, .inl h⟩
    · exact ⟨b, off, .inr h⟩
  have hnc : n ≤ c := hl.1
  have HAB := hid hab
  have HLV := hid (living_any T V2)
  have HS2 := hid hsz2
  clear hb1 hs1 hl1 hb2 hs2 hl2 hT hl hn hTl hab hsz2
  refine calls_of_wp_marks Tryd.func43 rfl ?_
  simp only [Tryd.ntmps43, List.size_toArray, List.length_cons, List.length_nil, Nat.reduceAdd, Nat.reduceSub, Array.replicate_succ, Array.replicate_zero, List.push_toArray, List.append_toArray, List.nil_append, List.cons_append]
  go_wp2_with fail
  refine HLV.out.mono ?_
  rintro e w ⟨Y, rfl, hVY, hY, hbY⟩
  have hZY : Z < Y := by have := HS2.out; omega
  have hYw : Y < w.heap.size := lt_laid hY
  have HY := hid hY
  have KPw := hid (keep_laid KP.out hbY)
  have KZw := hid (keep_laid KZ.out hbY)
  have KTw := hid (keep_laid KT.out hbY)
  have HBw := hid (step HB2.out hbY)
  have hVw := (step HB2.out hbY).size
  clear hVY hY hbY hZ hP hV1 hV2
  go_wp2
  refine wp_range (Bs := Y) (gf := 58) (lb := #[.pointer (some ⟨Y, 0, none⟩)]) rfl (enters_of Tryd.func58 (by kernel_rfl) rfl)
    (living_seq Y T Y _ n c b off a G T0 (fun k => k = Y ∨ k = T) HAB.out hn5 hnc hlen.2 (.inl rfl) (.inr rfl)) (fun k hk => by rcases hk with rfl | rfl <;> omega) hYw
    (fun o o' => ?hR) (fun _ => rfl)
    (fun pre W => (∀ i ∈ pre, ∀ x, L[i.val]? = some x → x.1 ≠ pid) ∧ OfI V P Z w.heap.size pid (.pointer none) W)
    (fun c pre W => c = .ret ∧ ∃ pre0 i x, pre = pre0 ++ [i] ∧ (∀ i ∈ pre0, ∀ x, L[i.val]? = some x → x.1 ≠ pid) ∧ L[i.val]? = some x ∧ x.1 = pid ∧ OfI V P Z w.heap.size pid (.pointer (some ⟨b, off + i.val * 4, none⟩)) W)
    ?hI ?hIx ?h0 (fun t i => (t.setIfInBounds 9 (.int .i64 ((i.val : Nat) : Int))).setIfInBounds 10 (.pointer (some ⟨b, off + i.val * 4, none⟩)) |>.setIfInBounds 6 (.pointer (some ⟨b, off + i.val * 4, none⟩))) ?assign ?body ?done ?stop
  case hR =>
    have g1 := (Below.refl w.heap.size w).alloc (Nat.le_refl _) o
    have g2 : Below w.heap.size w ((w.alloc o).alloc o') := g1.alloc (Nat.le_of_lt (by simp)) o'
    exact ⟨keep_laid HY.out g2, _, fun _ => trivial, keep_laid KTw.out g2, rfl⟩
  case hI => exact fun s A B row hs hg hr => ⟨hs.1, hs.2.abide hg hr (by omega) (by omega) (by have := HVP.out; omega) hVw⟩
  case hIx => exact fun c s A B row hs hg hr => by obtain ⟨e, p0, i, x, e1, e2, e3, e4, h⟩ := hs; exact ⟨e, p0, i, x, e1, e2, e3, e4, h.abide hg hr (by omega) (by omega) (by have := HVP.out; omega) hVw⟩
  case h0 => exact ⟨(fun i hi => nomatch hi), KPw.out, KZw.out, HBw.out, Nat.le_refl _⟩
  case assign =>
    intro l y W K hK
    gi_wp2
    exact hK
  case body =>
    rintro l pre ⟨i, hin⟩ W ⟨hall, hO⟩ hlen2
    dsimp only
    obtain ⟨x, hx⟩ : ∃ x, L[i]? = some x := ⟨_, List.getElem?_eq_getElem (by rw [HN.out]; exact hin)⟩
    obtain ⟨b', off', hab, -, hcx⟩ := HL.out.pr hin hx
    obtain ⟨rfl, rfl⟩ : b' = b ∧ off' = off := by
      rcases HAB.out with h | h
      · omega
      · rw [hab] at h
        simp only [Option.some.injEq, Addr.mk.injEq, and_true] at h
        exact h
    have HO := hid hO
    have HALL := hid hall
    have HX := hid hx
    have f0 : ∀ z : Ext W, z.v.cell? ⟨b', off' + i * 4, none⟩ = some (.int .u64 ((x.1 : Nat) : Int)) := fun z => (hcx z.v (hO.below.trans (z.b.mono hO.below.size))).1
    have f1 : ∀ z : Ext W, z.v.cell? ⟨P, 0, none⟩ = some (.int .u64 ((pid : Nat) : Int)) := fun z => cell_laid (keep_laid hO.bp z.b) rfl
    clear hO hall hx hcx hab
    gi_wp2
    simp only [List.setIfInBounds_toArray, List.set_cons_succ, List.set_cons_zero]
    refine wpIn_region_mix2 (fun w' => ∃ z : Ext W, w' = z.v) 6 (.q 0 (.q 1 (.q 2 (.q 3 (.q 4 (.q 5 .done)))))) (by rintro ⟨a, w, h⟩; exact h) (by kernel_rfl) (by kernel_rfl) (by kernel_rfl) ⟨⟨W.drew, (Below.refl _ _).drew⟩, rfl⟩ ?_
    repeat (refine wpMix2_q rfl rfl ?_; go_big_quiet_step (fail); refine wpQuiet_nil ?_)
    refine wpMix2_done ?_
    simp only [List.drop_succ_cons, List.drop_nil]
    rename_i K hK
    refine hK _ _ ?_
    clear hK K
    have HOD := hid (HO.out.grow (Below.refl _ _).drew)
    have kz := HOD.out.bz
    have z0 := cell_laid (i := 0) kz rfl
    have zf := free_laid (i := 0) kz
    clear kz f0 f1
    by_cases he : x.1 = pid
    · have t0 : (((x.1 : Nat) : Int) == ((pid : Nat) : Int)) = true := by simp; omega
      have HE := hid he
      have HSET := hid (set_laid (i := 0) HOD.out.bz (.pointer (some ⟨b', off' + i * 4, none⟩)))
      have HP2 := hid (other_laid (i := 0) (b' := Z) HOD.out.bp (by omega) (.pointer (some ⟨b', off' + i * 4, none⟩)))
      have HB2 := hid (HOD.out.below.setCell (p := ⟨Z, 0, none⟩) (by show V.heap.size ≤ Z; have := HVP.out; omega) (.pointer (some ⟨b', off' + i * 4, none⟩)))
      have HSZ := hid HOD.out.sz
      clear he
      gi_wp2
      exact ⟨(keepsOthers_of_below (Below.refl _ _).drew).trans (KeepsOthers.setCell _ _ _), rfl, pre, ⟨i, hin⟩, x, rfl, HALL.out, HX.out, HE.out, HP2.out, HSET.out, HB2.out, by simpa [World.setCell] using HSZ.out⟩
    · have t0 : (((x.1 : Nat) : Int) == ((pid : Nat) : Int)) = false := by simp; omega
      have HE := hid he
      clear he
      gi_wp2
      exact ⟨keepsOthers_of_below (Below.refl _ _).drew, fun k hk => rfl, fun i' hi' x' hx' => by
        rcases List.mem_append.1 hi' with h | h
        · exact HALL.out i' h x' hx'
        · rw [List.mem_singleton] at h
          subst h
          rw [HX.out] at hx'
          cases hx'
          exact HE.out, HOD.out⟩
  case done =>
    rintro D xs W hD hxs ⟨hall, hO⟩ hK
    have HE : Hid (∀ x ∈ L, x.1 ≠ pid) := hid (fun x hx => by
      obtain ⟨i, hi⟩ := List.mem_iff_getElem?.1 hx
      obtain ⟨h', hm⟩ := val_inj hxs i (by rw [← HN.out]; exact (List.getElem?_eq_some_iff.1 hi).1)
      exact hall _ hm x hi)
    have KK := hid hK
    have HO := hid hO
    have kz := hO.bz
    have z0 := cell_laid (i := 0) kz rfl
    have zf := free_laid (i := 0) kz
    have HSET := hid (set_laid (i := 0) kz (.pointer none))
    have hDZ : D ≠ Z := by omega
    have KK2 := hid (other_laid (i := 0) hK hDZ (.pointer none))
    have HB2 := hid (hO.below.setCell (p := ⟨Z, 0, none⟩) (by show V.heap.size ≤ Z; have := HVP.out; omega) (.pointer none))
    clear hK hO kz hall hxs
    go_wp2
    refine leaves_mark KK2.out (of_result (mark_other HSET.out KK2.out _) rfl) ⟨_, rfl, .inl ⟨rfl, HE.out⟩, below_mark HB2.out (by omega) KK2.out⟩
  case stop =>
    rintro D cc pre W hD ⟨k, hk⟩ ⟨rfl, pre0, i, x, rfl, hall, hx, he, hO⟩ hK
    obtain ⟨-, hval⟩ := val_last hk
    have hin := i.2
    obtain ⟨b', off', hab, -, -⟩ := HL.out.pr hin hx
    obtain ⟨rfl, rfl⟩ : b' = b ∧ off' = off := by
      rcases HAB.out with h | h
      · omega
      · rw [hab] at h
        simp only [Option.some.injEq, Addr.mk.injEq, and_true] at h
        exact h
    have HR : Hid (OfP L a pid (.pointer (some ⟨b', off' + i.val * 4, none⟩))) := hid (.inr ⟨i.val, x, b', off', hx, he, (fun y hy => by
      obtain ⟨m, hm⟩ := List.mem_iff_getElem?.1 hy
      rw [List.getElem?_take] at hm
      split at hm
      · rename_i hlt
        obtain ⟨h', hmem⟩ := val_inj hval m hlt
        exact hall _ hmem y hm
      · cases hm), hab, rfl⟩)
    have KK := hid hK
    have HO := hid hO
    clear hK hO hall hx he hval hk hab
    go_wp2
    refine leaves_mark KK.out (of_result (mark_other HO.out.bz KK.out _) rfl) ⟨_, rfl, HR.out, below_mark HO.out.below (by omega) KK.out⟩
end Go.Proofs.YtmnbkhmphhgdiaaDoor
