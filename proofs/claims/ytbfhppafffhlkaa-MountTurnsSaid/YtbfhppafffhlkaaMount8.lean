/- The functions of package mount: Add. -/
import Derived.Test.YtbfhppafffhlkaaMount7
import Derived.Test.YtbfhppafffhlkaaCopy
namespace Go.Proofs.Ytbfhppafffhlkaa
open Go.RowKit
open Go.Proofs
set_option linter.unusedVariables false

def addE (ms : List (Nat × Nat)) (nx x : Nat) : Int := if chk2E ms nx x = 0 then (if hasM ms x then 5 else if ms.length = 16 ∨ 1073741824 < nx then 6 else 0) else chk2E ms nx x
/-- What Add gives. -/
def AddP (ms : List (Nat × Nat)) (nx x : Nat) (w : World) (e : Ending) (w' : World) : Prop :=
  ∃ v, (if addE ms nx x = 0 then e = .returned (.tuple #[.agg #[v, .int .u64 ((nx + 1 : Nat) : Int)], .int .u64 ((nx : Nat) : Int), .int .i64 0]) ∧ w'.ownsRow w.heap.size 51 2 v (ms.length + 1) (mcells (ms ++ [(x, nx)])) else e = .returned (.tuple #[.agg #[.slice none 0 0, .int .u64 0], .int .u64 0, .int .i64 (addE ms nx x)])) ∧ Below w.heap.size w w'
theorem addP_no {ms : List (Nat × Nat)} {nx x : Nat} {w w' : World} {E : Int} (h : addE ms nx x = E) (hE : E ≠ 0) (hb : Below w.heap.size w w') : AddP ms nx x w (.returned (.tuple #[.agg #[.slice none 0 0, .int .u64 0], .int .u64 0, .int .i64 E])) w' := by
  refine ⟨.slice none 0 0, ?_, hb⟩
  rw [h, if_neg hE]
theorem add_result {W : World} {b : Nat} {v0 v1 v5 v6 : Value} {tmps : Array Value} (h : W.heap[b]? = some (.cells #[v0, v1] 25 (0, 0))) (hp : tmps[4]?.getD undef = .pointer (some ⟨b, 0, none⟩)) (h5 : tmps[5]?.getD undef = v5) (h6 : tmps[6]?.getD undef = v6) :
    (results Try.f13 tmps).run Try.prog W = .ok (.tuple #[.agg #[v0, v1], v5, v6]) W := by
  have h0 := cell_laid (i := 0) (v := v0) h rfl
  have h1 := cell_laid (i := 1) (v := v1) h rfl
  simp [results, Try.results13, go_sem, hp, h5, h6, h0, h1]

theorem mcells_len : ∀ ms : List (Nat × Nat), (mcells ms).length = ms.length * 2
  | [] => rfl
  | p :: r => by
    have ih := mcells_len r
    unfold mcells at *
    rw [List.flatMap_cons, List.length_append, ih, List.length_cons]
    simp only [List.length_cons, List.length_nil]
    omega
theorem make_mounts (w : World) (n : Nat) (hn : n ≤ 1000) : (Instr.makeSlice 22 (.int .i64 ((n : Nat) : Int)) (.int .i64 (((n : Nat) : Int) + 1))).run Try.prog w = .ok (.slice (some ⟨w.heap.size, 0, none⟩) n (n + 1)) (w.alloc (.cells (madeCells #[.int .u64 0, .int .u64 0] ((n + 1) * 2)) 51)) := by
  obtain ⟨i, z, hi, hz, h2, h3, h4⟩ := elemMounts.info
  have hz0 : (Try.prog.info? 51).map (fun i => i.zero) = some (some (.agg #[.int .u64 0, .int .u64 0])) := by kernel_rfl
  rw [hi] at hz0
  have e : i.zero = some (.agg #[.int .u64 0, .int .u64 0]) := Option.some.inj hz0
  have hr := run_make (P := Try.prog) w 22 51 i _ Try.underlying22 hi e .i64 .i64 (n : Int) ((n : Int) + 1) (by omega) (by omega) (by rw [h3]; omega) (by omega)
  rw [hr, h2]
  have e1 : ((n : Int) + 1).toNat = n + 1 := by omega
  rw [e1, Int.toNat_natCast]
  rfl
/-- make and copy: a row of one's own with the mounts of another one. -/
theorem copy_mounts (ms : List (Nat × Nat)) (a : Option Addr) (n cap : Nat) (w w1 : World) (ty : TypeId) (hl : ms.length = n) (hn : n ≤ 1000) (h : Leads w a n cap (mcells ms)) (hw1 : w.alloc (.cells (madeCells #[.int .u64 0, .int .u64 0] ((n + 1) * 2)) 51) = w1) :
    ∃ w2, (Builtin.copy_ #[22, 22] ty #[.slice (some ⟨w.heap.size, 0, none⟩) n (n + 1), .slice a n cap]).run Try.prog w1 = .ok (.int .i64 ((n : Nat) : Int)) w2 ∧ w2.ownsRow w.heap.size 51 2 (.slice (some ⟨w.heap.size, 0, none⟩) n (n + 1)) n (mcells ms) ∧ Below w.heap.size w w2 := by
  have hb : Below w.heap.size w w1 := by rw [← hw1]; exact (Below.refl _ _).alloc (Nat.le_refl _) _
  have hg : w1.heap[w.heap.size]? = some (.cells (madeCells #[.int .u64 0, .int .u64 0] ((n + 1) * 2)) 51 (0, 0)) := by rw [← hw1]; exact heap_alloc_new w _
  have hml : (mcells ms).length = n * 2 := by rw [mcells_len, hl]
  have hs : (Try.prog.info? 51).map (·.size) = some 2 := by kernel_rfl
  obtain ⟨ho, hbs⟩ := own_copied (n := n) (size := 2) (cs := mcells ms) hg (Nat.le_refl _) (Nat.le_succ n) (by unfold maxLen; omega) (by rw [size_madeCells]) hml
  refine ⟨_, ?_, ho, hb.trans hbs⟩
  obtain ⟨_, _, ⟨h0, hc0⟩ | ⟨b, off, rfl, h3, h4⟩⟩ := h
  · subst h0
    rw [hc0]
    exact run_copy_wide_none w1 _ _ ty _ 2 _ _ _ _ _ _ Try.underlying22 hs (by simp)
  · exact run_copy_wide w1 _ _ ty _ 2 w.heap.size 0 n (n + 1) ⟨b, off, none⟩ n cap n (mcells ms) Try.underlying22 hs (by simp) hml
      (fun j v hj => by
        have := (hb.cell (p := ⟨b, off + j, none⟩) h3).trans (h4 j v hj)
        rcases j with _ | j
        · simpa [Addr.add] using this
        · simpa [Addr.add] using this)
      (fun j hj => by
        rw [cell_of_row w1 w.heap.size (0 + j) _ _ (0, 0) hg, Array.getElem?_eq_getElem (by rw [size_madeCells]; omega)]; rfl)
      (fun j hj => free_laid hg)
      (fun v hv => by
        unfold mcells at hv
        rw [List.mem_flatMap] at hv
        obtain ⟨p, _, hp⟩ := hv
        simp at hp
        rcases hp with rfl | rfl <;> rfl)
end Go.Proofs.Ytbfhppafffhlkaa
