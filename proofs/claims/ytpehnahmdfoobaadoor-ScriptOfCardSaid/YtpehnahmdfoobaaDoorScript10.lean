/- Scripts: are two calls, two pairs the same? -/
import Derived.Test.YtpehnahmdfoobaaDoorScript9
import Derived.Laws.StructEq
import Derived.DeepKeys
namespace Go.Proofs.YtpehnahmdfoobaaDoor
open Go.RowKit
open Go.Proofs
set_option linter.unusedVariables false

theorem wf_u64 {x : Nat} (h : x < 18446744073709551616) : (Lit.int .u64 ((x : Nat) : Int)).wf = true := by
  simp [Lit.wf, IntKind.min, IntKind.max, IntKind.signed, IntKind.bits]
  omega
theorem wf_i64 {x : Int} (h : -9223372036854775808 ≤ x ∧ x ≤ 9223372036854775807) : (Lit.int .i64 x).wf = true := by
  simp [Lit.wf, IntKind.min, IntKind.max, IntKind.signed, IntKind.bits]
  omega
theorem key_u64 (d : Nat) {x : Nat} (h : x < 18446744073709551616) : Tryd.prog.keyLits (d + 1) 32 [.int .u64 ((x : Nat) : Int)] = some [.int .u64 ((x : Nat) : Int)] := by
  simp [Program.keyLits, Tryd.underlying32, wf_u64 h]
theorem key_i64 (d : Nat) {x : Int} (h : -9223372036854775808 ≤ x ∧ x ≤ 9223372036854775807) : Tryd.prog.keyLits (d + 1) 3 [.int .i64 x] = some [.int .i64 x] := by
  simp [Program.keyLits, Tryd.underlying3, wf_i64 h]
theorem key_args {x1 x2 x3 x4 : Nat} (h1 : x1 < 18446744073709551616) (h2 : x2 < 18446744073709551616) (h3 : x3 < 18446744073709551616) (h4 : x4 < 18446744073709551616) : Tryd.prog.keyLits 2 51 (wcells [x1, x2, x3, x4]) = some [.int .u64 ((x1 : Nat) : Int), .int .u64 ((x2 : Nat) : Int), .int .u64 ((x3 : Nat) : Int), .int .u64 ((x4 : Nat) : Int)] := by
  have hc1 : Tryd.prog.cellsOf 32 = 1 := by kernel_rfl
  have hc4 : Tryd.prog.cellsOf 51 = 4 := by kernel_rfl
  simp [Program.keyLits, Tryd.underlying51, Tryd.underlying32, hc1, hc4, wcells, List.range_succ, wf_u64 h1, wf_u64 h2, wf_u64 h3, wf_u64 h4]
theorem key_call {x0 x1 x2 x3 x4 : Nat} (h0 : x0 < 18446744073709551616) (h1 : x1 < 18446744073709551616) (h2 : x2 < 18446744073709551616) (h3 : x3 < 18446744073709551616) (h4 : x4 < 18446744073709551616) : Tryd.prog.keyLits 3 53 (wcells [x0, x1, x2, x3, x4]) = some [.int .u64 ((x0 : Nat) : Int), .int .u64 ((x1 : Nat) : Int), .int .u64 ((x2 : Nat) : Int), .int .u64 ((x3 : Nat) : Int), .int .u64 ((x4 : Nat) : Int)] := by
  have hc1 : Tryd.prog.cellsOf 32 = 1 := by kernel_rfl
  have hc4 : Tryd.prog.cellsOf 51 = 4 := by kernel_rfl
  have hc5 : Tryd.prog.cellsOf 53 = 5 := by kernel_rfl
  have ha := key_args h1 h2 h3 h4
  unfold Program.keyLits
  simp only [Tryd.underlying53]
  simp only [wcells, List.map_cons, List.map_nil, List.length_cons, List.length_nil, hc5]
  simp only [wcells, List.map_cons, List.map_nil] at ha
  simp [hc1, hc4, key_u64 1 h0, ha]
def cval (q : List Nat) : Value := .agg (wcells q).toArray
theorem call_eq (x y : List Nat) (hx : x.length = 5) (hy : y.length = 5) (hxb : ∀ v ∈ x, v < 18446744073709551616) (hyb : ∀ v ∈ y, v < 18446744073709551616) (w : World) : (Op.equalIn 10000 53 (cval x) (cval y)).run Tryd.prog w = .ok (decide (x = y)) w := by
  obtain ⟨x0, x1, x2, x3, x4, rfl⟩ : ∃ a b c d e, x = [a, b, c, d, e] := by
    match x, hx with
    | [a, b, c, d, e], _ => exact ⟨a, b, c, d, e, rfl⟩
  obtain ⟨y0, y1, y2, y3, y4, rfl⟩ : ∃ a b c d e, y = [a, b, c, d, e] := by
    match y, hy with
    | [a, b, c, d, e], _ => exact ⟨a, b, c, d, e, rfl⟩
  have h1 := key_call (hxb x0 (by simp)) (hxb x1 (by simp)) (hxb x2 (by simp)) (hxb x3 (by simp)) (hxb x4 (by simp))
  have h2 := key_call (hyb y0 (by simp)) (hyb y1 (by simp)) (hyb y2 (by simp)) (hyb y3 (by simp)) (hyb y4 (by simp))
  obtain ⟨r, hr, hiff⟩ := run_equalIn_deep (P := Tryd.prog) 9997 3 53 (by kernel_rfl) w 3 3 (cval [x0, x1, x2, x3, x4]) (cval [y0, y1, y2, y3, y4]) _ _ (by simp [cval, Value.formed, Tryd.underlying53]; exact (by kernel_rfl : 5 = Tryd.prog.cellsOf 53)) (by simp [cval, Value.formed, Tryd.underlying53]; exact (by kernel_rfl : 5 = Tryd.prog.cellsOf 53)) h1 h2
  rw [hr]
  congr 1
  rw [Bool.eq_iff_iff, hiff]
  simp
  omega
theorem key_pair {x0 x1 : Int} (h0 : -9223372036854775808 ≤ x0 ∧ x0 ≤ 9223372036854775807) (h1 : -9223372036854775808 ≤ x1 ∧ x1 ≤ 9223372036854775807) : Tryd.prog.keyLits 2 26 [.int .i64 x0, .int .i64 x1] = some [.int .i64 x0, .int .i64 x1] := by
  have hc1 : Tryd.prog.cellsOf 3 = 1 := by kernel_rfl
  have hc4 : Tryd.prog.cellsOf 26 = 2 := by kernel_rfl
  simp [Program.keyLits, Tryd.underlying26, Tryd.underlying3, hc1, hc4, List.range_succ, wf_i64 h0, wf_i64 h1]
theorem pair_eq (x0 x1 y0 y1 : Int) (h0 : -9223372036854775808 ≤ x0 ∧ x0 ≤ 9223372036854775807) (h1 : -9223372036854775808 ≤ x1 ∧ x1 ≤ 9223372036854775807) (h2 : -9223372036854775808 ≤ y0 ∧ y0 ≤ 9223372036854775807) (h3 : -9223372036854775808 ≤ y1 ∧ y1 ≤ 9223372036854775807) (w : World) : (Op.equalIn 10000 26 (.agg #[.int .i64 x0, .int .i64 x1]) (.agg #[.int .i64 y0, .int .i64 y1])).run Tryd.prog w = .ok (decide (x0 = y0 ∧ x1 = y1)) w := by
  obtain ⟨r, hr, hiff⟩ := run_equalIn_deep (P := Tryd.prog) 9998 2 26 (by kernel_rfl) w 2 2 (.agg #[.int .i64 x0, .int .i64 x1]) (.agg #[.int .i64 y0, .int .i64 y1]) _ _ (by simp [Value.formed, Tryd.underlying26]; exact (by kernel_rfl : 2 = Tryd.prog.cellsOf 26)) (by simp [Value.formed, Tryd.underlying26]; exact (by kernel_rfl : 2 = Tryd.prog.cellsOf 26)) (key_pair h0 h1) (key_pair h2 h3)
  rw [hr]
  congr 1
  rw [Bool.eq_iff_iff, hiff]
  simp
end Go.Proofs.YtpehnahmdfoobaaDoor
