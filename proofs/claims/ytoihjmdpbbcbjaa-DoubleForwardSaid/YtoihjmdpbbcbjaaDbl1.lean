/- Lists linked both ways: word, need, holds, takes. -/
import Derived.Test.YtoihjmdpbbcbjaaMemRefStep
import Derived.Test.YtoihjmdpbbcbjaaMapsJ
import Derived.Test.YtoihjmdpbbcbjaaRange3
namespace Go.Proofs.Ytoihjmdpbbcbjaa
open Go.RowKit
open Go.Proofs
set_option linter.unusedVariables false

/-- Where a word of a place is. -/
def posN (p k : Nat) : Nat := min p 4097 + k
theorem word_any (p k : Nat) (V : World) (hp : p < 18446744073709551616) (hk : k ≤ 1000) : Calls Try.prog 40 #[.int .u64 ((p : Nat) : Int), .int .i64 ((k : Nat) : Int)] V (fun e W => e = .returned (.int .i64 ((posN p k : Nat) : Int)) ∧ W = V) := by
  obtain ⟨m, hm⟩ : ∃ m, min p 4097 = m := ⟨_, rfl⟩
  have hmi : min ((p : Nat) : Int) 4097 = ((m : Nat) : Int) := by omega
  have hm2 : m ≤ 4097 := by omega
  have HP : Hid (posN p k = m + k) := hid (by unfold posN; rw [hm])
  clear hm
  go_enter Try.func40, Try.ntmps40
  go_wp2
  go_ret
  exact ⟨reti (by rw [HP.out]; go_num), rfl⟩
abbrev brkV : Value := .iface 100 (.agg #[])
abbrev brk : List PanicEntry := [{ v := brkV, recovered := false }]
theorem need_yes (V : World) : Calls Try.prog 66 #[.bool true] V (fun e W => e = .returned (.tuple #[]) ∧ W = V) := by
  go_enter Try.func66, Try.ntmps66
  go_wp2
  go_end0
  exact ⟨rfl, rfl⟩
theorem need_no (V : World) : Calls Try.prog 66 #[.bool false] V (fun e W => e = .panicked brk ∧ W = V) := by
  go_enter Try.func66, Try.ntmps66
  go_wp2
  exact ⟨rfl, rfl, rfl⟩
end Go.Proofs.Ytoihjmdpbbcbjaa
