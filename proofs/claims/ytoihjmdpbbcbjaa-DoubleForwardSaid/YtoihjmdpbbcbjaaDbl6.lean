/- Lists linked both ways: what recovers. -/
import Derived.Test.YtoihjmdpbbcbjaaDbl5
import Derived.RecoverIn
namespace Go.Proofs.Ytoihjmdpbbcbjaa
open Go.RowKit
open Go.Proofs
set_option linter.unusedVariables false

def errCell (n : Nat) : Value := .int .i64 ((n : Nat) : Int)
theorem as_brk (v : Value) (w : World) : (Instr.typeAssert (.iface 100 v) 20 100 true).run Try.prog w = .ok (.tuple #[v, .bool true]) w := by kernel_rfl
attribute [local go_sem] as_brk
theorem look1_idle (Z4 Z5 Z6 : Nat) (w : World) :
    CallsDIn Fence.wide 4 Try.prog 47 #[.pointer (some ⟨Z4, 0, none⟩), .pointer (some ⟨Z5, 0, none⟩), .pointer (some ⟨Z6, 0, none⟩)] .returning w (fun e u' w' => e = .returned (.tuple #[]) ∧ u' = .returning ∧ w' = w) := by
  refine callsDIn_of_wpSIn Try.func47 rfl trivial fun c₀ cs hu => ?_
  apply wpSIn_seq
  apply wpSIn_region
  simp [wpOpsSIn, go_sem, recoverD, hu, Try.ntmps47, Exit.thenS]
  refine wpSIn_of_wpIn rfl ?_
  refine wpIn_wide.2 ?_
  simp only [Array.replicate_succ, Array.replicate_zero, List.push_toArray, List.append_toArray, List.nil_append, List.cons_append, List.setIfInBounds_toArray, List.set_cons_succ, List.set_cons_zero]
  go_wp2
  cases c₀
  simp_all [bodyPostS, results, Try.results47]
set_option maxRecDepth 100000 in
set_option maxHeartbeats 2000000 in
theorem look1_caught (Z4 Z5 Z6 : Nat) (v0 v1 v2 : Value) (older : List PanicEntry) (w : World) (b4 : w.heap[Z4]? = some (.cells #[v0] 32 (0, 0))) (b5 : w.heap[Z5]? = some (.cells #[v1] 72 (0, 0))) (b6 : w.heap[Z6]? = some (.cells #[v2] 33 (0, 0))) :
    CallsDIn Fence.wide 4 Try.prog 47 #[.pointer (some ⟨Z4, 0, none⟩), .pointer (some ⟨Z5, 0, none⟩), .pointer (some ⟨Z6, 0, none⟩)] (.panicking ({ v := brkV, recovered := false } :: older)) w (fun e u' w' => e = .returned (.tuple #[]) ∧ u' = .panicking ({ v := brkV, recovered := true } :: older) ∧
      w'.heap[Z4]? = some (.cells #[.slice none 0 0] 32 (0, 0)) ∧ w'.heap[Z5]? = some (.cells #[.map none] 72 (0, 0)) ∧ w'.heap[Z6]? = some (.cells #[.int .i64 260] 33 (0, 0)) ∧ ∀ (B : Nat) (w0 : World), B ≤ Z4 → B ≤ Z5 → B ≤ Z6 → Below B w0 w → Below B w0 w') := by
  obtain ⟨w1, hw1, hb1, hs1, -⟩ := laid w #[] 100
  have k4 := keep_laid b4 hb1
  have k5 := keep_laid b5 hb1
  have k6 := keep_laid b6 hb1
  have n45 := type_ne k4 k5 (by decide)
  have n46 := type_ne k4 k6 (by decide)
  have n56 := type_ne k5 k6 (by decide)
  have n54 := Ne.symm n45
  have n64 := Ne.symm n46
  have n65 := Ne.symm n56
  have f0 := free_laid (i := 0) k4
  have f1 := free_laid (i := 0) k5
  have f2 := free_laid (i := 0) k6
  have h0 := cell_laid (i := 0) k4 rfl
  have h1 := cell_laid (i := 0) k5 rfl
  have h2 := cell_laid (i := 0) k6 rfl
  have H4 := hid (other_laid (i := 0) (other_laid (i := 0) (set_laid (i := 0) k4 (.slice none 0 0)) n45 (.map none)) n46 (.int .i64 260))
  have H5 := hid (other_laid (i := 0) (set_laid (i := 0) (other_laid (i := 0) k5 n54 (.slice none 0 0)) (.map none)) n56 (.int .i64 260))
  have H6 := hid (set_laid (i := 0) (other_laid (i := 0) (other_laid (i := 0) k6 n64 (.slice none 0 0)) n65 (.map none)) (.int .i64 260))
  have HB : Hid (∀ (B : Nat) (w0 : World), B ≤ Z4 → B ≤ Z5 → B ≤ Z6 → Below B w0 w → Below B w0 (((w1.setCell ⟨Z4, 0, none⟩ (.slice none 0 0)).setCell ⟨Z5, 0, none⟩ (.map none)).setCell ⟨Z6, 0, none⟩ (.int .i64 260))) := hid (fun B w0 q1 q2 q3 hb => (((hb.trans (hb1.mono (Nat.le_of_lt (Nat.lt_of_le_of_lt q1 (lt_laid b4))))).setCell q1 _).setCell q2 _).setCell q3 _)
  clear b4 b5 b6 k4 k5 k6 hb1 hs1
  refine callsDIn_of_wpSIn Try.func47 rfl trivial fun c₀ cs hu => ?_
  apply wpSIn_seq
  apply wpSIn_region
  simp [wpOpsSIn, go_sem, recoverD, hu, Try.ntmps47, Exit.thenS]
  refine wpSIn_of_wpIn rfl ?_
  refine wpIn_wide.2 ?_
  simp only [Array.replicate_succ, Array.replicate_zero, List.push_toArray, List.append_toArray, List.nil_append, List.cons_append, List.setIfInBounds_toArray, List.set_cons_succ, List.set_cons_zero]
  go_wp2
  exact ⟨rfl, _, rfl, _, results_none rfl _ _ _, rfl, rfl, H4.out, H5.out, H6.out, HB.out⟩
end Go.Proofs.Ytoihjmdpbbcbjaa
