/- The walks of package path: letters, parts. -/
import Derived.Test.YtbfhppafffhlkaaProg
import Derived.Test.YtbfhppafffhlkaaKit
import Derived.Laws.RangeAny
import Derived.Lib.Strings
namespace Go.Proofs.Ytbfhppafffhlkaa
open Go.RowKit
open Go.Proofs
set_option linter.unusedVariables false

/-- A letter of a part. -/
def letterB (b : Nat) : Bool := decide (97 ≤ b ∧ b ≤ 122 ∨ 48 ≤ b ∧ b ≤ 57)
theorem letter_any (c : Nat) (w : World) (hc : c ≤ 2147483647) : Calls Try.prog 59 #[.int .i32 (c : Nat)] w (fun e w' => e = .returned (.bool (letterB c)) ∧ w' = w) := by
  go_enter Try.func59, Try.ntmps59
  go_wp2
  all_goals go_ret
  all_goals refine ⟨retb ?_, rfl⟩
  all_goals (rw [Bool.eq_iff_iff]; simp [letterB, *]; try omega)

/-- A part of a path. -/
def allL (l : List UInt8) : Bool := l.all fun b => letterB b.toNat
def partB (l : List UInt8) : Bool := allL l && !l.isEmpty
theorem allL_take (s : ByteArray) (k : Nat) (h : k < s.size) (ha : allL (s.data.toList.take k) = true) : allL (s.data.toList.take (k + 1)) = letterB (s[k]'h).toNat := by
  have e : s.data.toList.take (k + 1) = s.data.toList.take k ++ [s[k]'h] := by rw [List.take_succ_eq_append_getElem (by simpa using h)]; rfl
  unfold allL at *
  rw [e, List.all_append, ha]; simp
theorem allL_no (l : List UInt8) (k : Nat) (h : allL (l.take k) = false) : partB l = false := by
  have : allL l = false := by
    cases hl : allL l with
    | false => rfl
    | true =>
      have : allL (l.take k) = true := by
        unfold allL at *
        rw [List.all_eq_true] at *
        intro x hx
        exact hl x (List.mem_of_mem_take hx)
      rw [this] at h; cases h
  unfold partB; rw [this]; rfl
theorem below_iter (w : World) (s : ByteArray) (k : Nat) : Below w.heap.size w (w.iter s k) := (Below.refl _ _).alloc (Nat.le_refl _) _

theorem part_any (s : ByteArray) (w : World) : Calls Try.prog 50 #[.string s] w (Ret (.bool (partB s.data.toList)) w) := by
  obtain ⟨n, hn⟩ : ∃ n, s.size = n := ⟨_, rfl⟩
  have HN := hid hn
  clear hn
  go_enter Try.func50, Try.ntmps50
  go_wp2
  go_loopw [4] (fun c w' => ∃ k : Nat, w' = w.iter s k ∧ k ≤ s.size ∧ Hid (allL (s.data.toList.take k) = true)) (fun _ w' => s.size - w'.iterPos w.heap.size)
  case atStart => exact ⟨0, rfl, Nat.zero_le _, rfl⟩
  case round =>
    obtain ⟨k, rfl, hk, ha⟩ := hrel
    by_cases hp : k < s.size
    · have hnx : ∀ ty, (Instr.next (.pointer (some ⟨w.heap.size, 0, none⟩)) true ty).run Try.prog (w.iter s k) = _ := fun ty => run_next_any w s k ty hp
      have hle := decode_le s k
      by_cases hb : (s[k]'hp).toNat < 128
      · have hd := decode_ascii s k hp hb
        rw [hd] at hnx
        have ht := allL_take s k hp ha.out
        obtain ⟨c, hc⟩ : ∃ c, (s[k]'hp).toNat = c := ⟨_, rfl⟩
        rw [hc] at hnx ht hb
        have HT := hid ht
        dsimp only at hnx
        clear ht hc hd hle
        have hL := letter_any c (w.iter s (k + 1)) (by omega)
        cases hl : letterB c with
        | true =>
          rw [hl] at hL HT
          have HL := hid hL
          clear hL hl
          go_wp2_with (go_at_call 59; refine HL.out.mono ?_; rintro e w1 ⟨rfl, rfl⟩)
          go_roundw
          case rel => exact ⟨k + 1, rfl, by omega, HT⟩
          case measure => simp; omega
        | false =>
          rw [hl] at hL HT
          have HP := hid (allL_no s.data.toList (k + 1) HT.out)
          have HL := hid hL
          clear hL hl HT
          go_wp2_with (go_at_call 59; refine HL.out.mono ?_; rintro e w1 ⟨rfl, rfl⟩)
          go_ret
          exact ⟨retb HP.out.symm, below_iter _ _ _⟩
      · have hh := decode_high s k hp (by omega)
        have ht := allL_take s k hp ha.out
        have hl0 : letterB (s[k]'hp).toNat = false := by unfold letterB; rw [decide_eq_false (by omega)]
        rw [hl0] at ht
        obtain ⟨c, hc⟩ : ∃ c, (Utf8.decode s k).1 = c := ⟨_, rfl⟩
        obtain ⟨d, hd⟩ : ∃ d, (Utf8.decode s k).2 = d := ⟨_, rfl⟩
        rw [hc, hd] at hnx hh
        rw [hc] at hle
        have hl : letterB c = false := by unfold letterB; rw [decide_eq_false (by omega)]
        have hL := letter_any c (w.iter s (k + d)) hle
        rw [hl] at hL
        have HP := hid (allL_no s.data.toList (k + 1) ht)
        have HL := hid hL
        clear hL hl ht hh hc hd hle hl0 hb
        go_wp2_with (go_at_call 59; refine HL.out.mono ?_; rintro e w1 ⟨rfl, rfl⟩)
        go_ret
        exact ⟨retb HP.out.symm, below_iter _ _ _⟩
    · have hnx : ∀ ty, (Instr.next (.pointer (some ⟨w.heap.size, 0, none⟩)) true ty).run Try.prog (w.iter s k) = _ := fun ty => run_next_end w s k ty hp
      obtain rfl : k = s.size := by omega
      have ha' : allL s.data.toList = true := by have := ha.out; rwa [List.take_of_length_le (by rw [Lib.size_eq]; omega)] at this
      have HP : Hid ((!s.toList.isEmpty) = partB s.data.toList) := hid (by unfold partB; rw [ha', Lib.toList_data]; rfl)
      clear ha' ha
      go_wp2
      go_ret
      exact ⟨retb HP.out, below_iter _ _ _⟩
end Go.Proofs.Ytbfhppafffhlkaa
