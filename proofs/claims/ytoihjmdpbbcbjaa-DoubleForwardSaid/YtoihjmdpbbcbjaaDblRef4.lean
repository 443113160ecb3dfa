/- The document's lists linked both ways: what is accessed (printed by gen_dblref4.py). -/
import Derived.Test.YtoihjmdpbbcbjaaDblRef3
namespace Go.Proofs.Ytoihjmdpbbcbjaa
open Go.RowKit
open Go.Proofs
set_option linter.unusedVariables false
attribute [local go_sem] Oper.semAt_some

def accV (st : Bool) (at_ new : Nat) : Value := .agg #[.int .i64 (if st = true then 2 else 1), .int .i64 ((at_ : Nat) : Int), .int .u64 0, .int .u64 ((new : Nat) : Int)]
def fromR (s : Ed) : Nat := if s.prev = 0 then posR s.head 0 else posR s.prev 2
def backR (s : Ed) : Nat := if s.next = 0 then posR s.head 1 else posR s.next 3
theorem rstore_result {W : World} {b : Nat} {v0 v1 v2 v3 : Value} {tmps : Array Value} (h : W.heap[b]? = some (.cells #[v0, v1, v2, v3] 95 (0, 0))) (hp : tmps[4]?.getD undef = .pointer (some ⟨b, 0, none⟩)) :
    (results Try.f56 tmps).run Try.prog W = .ok (.agg #[v0, v1, v2, v3]) W := by
  have h0 := cell_laid (i := 0) (v := v0) h rfl
  have h1 := cell_laid (i := 1) (v := v1) h rfl
  have h2 := cell_laid (i := 2) (v := v2) h rfl
  have h3 := cell_laid (i := 3) (v := v3) h rfl
  simp [results, Try.results56, go_sem, hp, h0, h1, h2, h3]
theorem rload_result {W : World} {b : Nat} {v0 v1 v2 v3 : Value} {tmps : Array Value} (h : W.heap[b]? = some (.cells #[v0, v1, v2, v3] 95 (0, 0))) (hp : tmps[2]?.getD undef = .pointer (some ⟨b, 0, none⟩)) :
    (results Try.f57 tmps).run Try.prog W = .ok (.agg #[v0, v1, v2, v3]) W := by
  have h0 := cell_laid (i := 0) (v := v0) h rfl
  have h1 := cell_laid (i := 1) (v := v1) h rfl
  have h2 := cell_laid (i := 2) (v := v2) h rfl
  have h3 := cell_laid (i := 3) (v := v3) h rfl
  simp [results, Try.results57, go_sem, hp, h0, h1, h2, h3]
theorem raccess_result {W : World} {b : Nat} {v0 v1 v2 v3 : Value} {tmps : Array Value} (h : W.heap[b]? = some (.cells #[v0, v1, v2, v3] 95 (0, 0))) (hp : tmps[2]?.getD undef = .pointer (some ⟨b, 0, none⟩)) :
    (results Try.f45 tmps).run Try.prog W = .ok (.agg #[v0, v1, v2, v3]) W := by
  have h0 := cell_laid (i := 0) (v := v0) h rfl
  have h1 := cell_laid (i := 1) (v := v1) h rfl
  have h2 := cell_laid (i := 2) (v := v2) h rfl
  have h3 := cell_laid (i := 3) (v := v3) h rfl
  simp [results, Try.results45, go_sem, hp, h0, h1, h2, h3]
theorem rstore_any (at_ new : Nat) (V : World) : Calls Try.prog 56 #[.int .i64 ((at_ : Nat) : Int), .int .u64 ((new : Nat) : Int)] V (Ret (accV true at_ new) V) := by
  obtain ⟨V1, hV1, hb1, hs1, hl1⟩ := laid V #[.int .i64 0, .int .i64 0, .int .u64 0, .int .u64 0] 95
  obtain ⟨Z, hZ⟩ : ∃ X, V.heap.size = X := ⟨_, rfl⟩
  rw [hZ] at hl1
  have HZ := hid hl1
  have f0 := free_laid (i := 0) HZ.out
  have c0 := cell_laid (i := 0) HZ.out rfl
  have f1 := free_laid (i := 1) HZ.out
  have c1 := cell_laid (i := 1) HZ.out rfl
  have f2 := free_laid (i := 2) HZ.out
  have c2 := cell_laid (i := 2) HZ.out rfl
  have f3 := free_laid (i := 3) HZ.out
  have c3 := cell_laid (i := 3) HZ.out rfl
  obtain ⟨V3, hV3, hl3, -, hb3⟩ := put4 HZ.out (.int .i64 2) (.int .i64 ((at_ : Nat) : Int)) (.int .u64 0) (.int .u64 ((new : Nat) : Int))
  have HV3 := hid hV3
  have HL3 := hid hl3
  have HB3 := hid (hb3 V.heap.size V (by omega) hb1)
  unfold accV
  clear hl1 hb1 hs1 hV3 hl3 hb3
  go_enter Try.func56, Try.ntmps56
  go_wp2
  rw [← HV3.out]
  refine bodyPost_ret (rstore_result HL3.out rfl) rfl ?_
  exact ⟨rfl, HB3.out⟩
theorem rload_any (at_ : Nat) (V : World) : Calls Try.prog 57 #[.int .i64 ((at_ : Nat) : Int)] V (Ret (accV false at_ 0) V) := by
  obtain ⟨V1, hV1, hb1, hs1, hl1⟩ := laid V #[.int .i64 0, .int .i64 0, .int .u64 0, .int .u64 0] 95
  obtain ⟨Z, hZ⟩ : ∃ X, V.heap.size = X := ⟨_, rfl⟩
  rw [hZ] at hl1
  have HZ := hid hl1
  have f0 := free_laid (i := 0) HZ.out
  have c0 := cell_laid (i := 0) HZ.out rfl
  have f1 := free_laid (i := 1) HZ.out
  have c1 := cell_laid (i := 1) HZ.out rfl
  have f2 := free_laid (i := 2) HZ.out
  have c2 := cell_laid (i := 2) HZ.out rfl
  have f3 := free_laid (i := 3) HZ.out
  have c3 := cell_laid (i := 3) HZ.out rfl
  obtain ⟨V3, hV3, hl3, -, hb3⟩ := put4 HZ.out (.int .i64 1) (.int .i64 ((at_ : Nat) : Int)) (.int .u64 0) (.int .u64 0)
  have HV3 := hid hV3
  have HL3 := hid hl3
  have HB3 := hid (hb3 V.heap.size V (by omega) hb1)
  unfold accV
  clear hl1 hb1 hs1 hV3 hl3 hb3
  go_enter Try.func57, Try.ntmps57
  go_wp2
  rw [← HV3.out]
  refine bodyPost_ret (rload_result HL3.out rfl) rfl ?_
  exact ⟨rfl, HB3.out⟩
theorem rfrom_any (s : Ed) (V : World) (hs : s.Ok) : Calls Try.prog 58 #[edV s] V (Ret (.int .i64 ((fromR s : Nat) : Int)) V) := by
  obtain ⟨ph, cuts, head, pl, key, val, prev, next⟩ := s
  obtain ⟨V1, hV1, hb1, hs1, hl1⟩ := laid V #[.int .i64 ph, .bool cuts, .int .u64 ((head : Nat) : Int), .int .u64 ((pl : Nat) : Int), .int .u64 ((key : Nat) : Int), .int .u64 ((val : Nat) : Int), .int .u64 ((prev : Nat) : Int), .int .u64 ((next : Nat) : Int)] 42
  have c2 := cell_laid (i := 2) hl1 rfl
  have c6 := cell_laid (i := 6) hl1 rfl
  have HB1 := hid hb1
  have HW := hid (fun V => At_any head 0 V hs.head (by decide))
  have HP := hid (fun V => At_any prev 2 V hs.prev (by decide))
  unfold fromR edV
  dsimp only
  clear hs hl1 hs1 hb1
  by_cases h0 : prev = 0
  · subst h0
    rw [if_pos rfl]
    go_enter Try.func58, Try.ntmps58
    go_wp2_with fail
    refine (HW.out _).mono ?_
    rintro e W ⟨rfl, rfl⟩
    go_wp2
    go_ret
    exact ⟨rfl, by rw [← hV1] at HB1; exact HB1.out⟩
  · rw [if_neg h0]
    have t0 : ((((prev : Nat) : Int)) == 0) = false := by simp; omega
    clear h0
    go_enter Try.func58, Try.ntmps58
    go_wp2_with fail
    refine (HP.out _).mono ?_
    rintro e W ⟨rfl, rfl⟩
    go_wp2
    go_ret
    exact ⟨rfl, HB1.out⟩
theorem rback_any (s : Ed) (V : World) (hs : s.Ok) : Calls Try.prog 59 #[edV s] V (Ret (.int .i64 ((backR s : Nat) : Int)) V) := by
  obtain ⟨ph, cuts, head, pl, key, val, prev, next⟩ := s
  obtain ⟨V1, hV1, hb1, hs1, hl1⟩ := laid V #[.int .i64 ph, .bool cuts, .int .u64 ((head : Nat) : Int), .int .u64 ((pl : Nat) : Int), .int .u64 ((key : Nat) : Int), .int .u64 ((val : Nat) : Int), .int .u64 ((prev : Nat) : Int), .int .u64 ((next : Nat) : Int)] 42
  have c2 := cell_laid (i := 2) hl1 rfl
  have c6 := cell_laid (i := 7) hl1 rfl
  have HB1 := hid hb1
  have HW := hid (fun V => At_any head 1 V hs.head (by decide))
  have HP := hid (fun V => At_any next 3 V hs.next (by decide))
  unfold backR edV
  dsimp only
  clear hs hl1 hs1 hb1
  by_cases h0 : next = 0
  · subst h0
    rw [if_pos rfl]
    go_enter Try.func59, Try.ntmps59
    go_wp2_with fail
    refine (HW.out _).mono ?_
    rintro e W ⟨rfl, rfl⟩
    go_wp2
    go_ret
    exact ⟨rfl, by rw [← hV1] at HB1; exact HB1.out⟩
  · rw [if_neg h0]
    have t0 : ((((next : Nat) : Int)) == 0) = false := by simp; omega
    clear h0
    go_enter Try.func59, Try.ntmps59
    go_wp2_with fail
    refine (HP.out _).mono ?_
    rintro e W ⟨rfl, rfl⟩
    go_wp2
    go_ret
    exact ⟨rfl, HB1.out⟩

def accArr (a0 a1 a2 a3 a4 a5 a6 a7 a8 n0 n1 n3 n4 n7 n8 : Nat) : Value := .agg #[.int .i64 2, .int .i64 ((a0 : Nat) : Int), .int .u64 0, .int .u64 ((n0 : Nat) : Int), .int .i64 2, .int .i64 ((a1 : Nat) : Int), .int .u64 0, .int .u64 ((n1 : Nat) : Int), .int .i64 1, .int .i64 ((a2 : Nat) : Int), .int .u64 0, .int .u64 0, .int .i64 2, .int .i64 ((a3 : Nat) : Int), .int .u64 0, .int .u64 ((n3 : Nat) : Int), .int .i64 2, .int .i64 ((a4 : Nat) : Int), .int .u64 0, .int .u64 ((n4 : Nat) : Int), .int .i64 1, .int .i64 ((a5 : Nat) : Int), .int .u64 0, .int .u64 0, .int .i64 1, .int .i64 ((a6 : Nat) : Int), .int .u64 0, .int .u64 0, .int .i64 2, .int .i64 ((a7 : Nat) : Int), .int .u64 0, .int .u64 ((n7 : Nat) : Int), .int .i64 2, .int .i64 ((a8 : Nat) : Int), .int .u64 0, .int .u64 ((n8 : Nat) : Int)]
theorem accArr_at0 (a0 a1 a2 a3 a4 a5 a6 a7 a8 n0 n1 n3 n4 n7 n8 : Nat) (W : World) : (Instr.index 120 (accArr a0 a1 a2 a3 a4 a5 a6 a7 a8 n0 n1 n3 n4 n7 n8) (.int .i64 0)).run Try.prog W = .ok (.agg #[.int .i64 2, .int .i64 ((a0 : Nat) : Int), .int .u64 0, .int .u64 ((n0 : Nat) : Int)]) W := by kernel_rfl
theorem accArr_at1 (a0 a1 a2 a3 a4 a5 a6 a7 a8 n0 n1 n3 n4 n7 n8 : Nat) (W : World) : (Instr.index 120 (accArr a0 a1 a2 a3 a4 a5 a6 a7 a8 n0 n1 n3 n4 n7 n8) (.int .i64 1)).run Try.prog W = .ok (.agg #[.int .i64 2, .int .i64 ((a1 : Nat) : Int), .int .u64 0, .int .u64 ((n1 : Nat) : Int)]) W := by kernel_rfl
theorem accArr_at2 (a0 a1 a2 a3 a4 a5 a6 a7 a8 n0 n1 n3 n4 n7 n8 : Nat) (W : World) : (Instr.index 120 (accArr a0 a1 a2 a3 a4 a5 a6 a7 a8 n0 n1 n3 n4 n7 n8) (.int .i64 2)).run Try.prog W = .ok (.agg #[.int .i64 1, .int .i64 ((a2 : Nat) : Int), .int .u64 0, .int .u64 0]) W := by kernel_rfl
theorem accArr_at3 (a0 a1 a2 a3 a4 a5 a6 a7 a8 n0 n1 n3 n4 n7 n8 : Nat) (W : World) : (Instr.index 120 (accArr a0 a1 a2 a3 a4 a5 a6 a7 a8 n0 n1 n3 n4 n7 n8) (.int .i64 3)).run Try.prog W = .ok (.agg #[.int .i64 2, .int .i64 ((a3 : Nat) : Int), .int .u64 0, .int .u64 ((n3 : Nat) : Int)]) W := by kernel_rfl
theorem accArr_at4 (a0 a1 a2 a3 a4 a5 a6 a7 a8 n0 n1 n3 n4 n7 n8 : Nat) (W : World) : (Instr.index 120 (accArr a0 a1 a2 a3 a4 a5 a6 a7 a8 n0 n1 n3 n4 n7 n8) (.int .i64 4)).run Try.prog W = .ok (.agg #[.int .i64 2, .int .i64 ((a4 : Nat) : Int), .int .u64 0, .int .u64 ((n4 : Nat) : Int)]) W := by kernel_rfl
theorem accArr_at5 (a0 a1 a2 a3 a4 a5 a6 a7 a8 n0 n1 n3 n4 n7 n8 : Nat) (W : World) : (Instr.index 120 (accArr a0 a1 a2 a3 a4 a5 a6 a7 a8 n0 n1 n3 n4 n7 n8) (.int .i64 5)).run Try.prog W = .ok (.agg #[.int .i64 1, .int .i64 ((a5 : Nat) : Int), .int .u64 0, .int .u64 0]) W := by kernel_rfl
theorem accArr_at6 (a0 a1 a2 a3 a4 a5 a6 a7 a8 n0 n1 n3 n4 n7 n8 : Nat) (W : World) : (Instr.index 120 (accArr a0 a1 a2 a3 a4 a5 a6 a7 a8 n0 n1 n3 n4 n7 n8) (.int .i64 6)).run Try.prog W = .ok (.agg #[.int .i64 1, .int .i64 ((a6 : Nat) : Int), .int .u64 0, .int .u64 0]) W := by kernel_rfl
theorem accArr_at7 (a0 a1 a2 a3 a4 a5 a6 a7 a8 n0 n1 n3 n4 n7 n8 : Nat) (W : World) : (Instr.index 120 (accArr a0 a1 a2 a3 a4 a5 a6 a7 a8 n0 n1 n3 n4 n7 n8) (.int .i64 7)).run Try.prog W = .ok (.agg #[.int .i64 2, .int .i64 ((a7 : Nat) : Int), .int .u64 0, .int .u64 ((n7 : Nat) : Int)]) W := by kernel_rfl
theorem accArr_at8 (a0 a1 a2 a3 a4 a5 a6 a7 a8 n0 n1 n3 n4 n7 n8 : Nat) (W : World) : (Instr.index 120 (accArr a0 a1 a2 a3 a4 a5 a6 a7 a8 n0 n1 n3 n4 n7 n8) (.int .i64 8)).run Try.prog W = .ok (.agg #[.int .i64 2, .int .i64 ((a8 : Nat) : Int), .int .u64 0, .int .u64 ((n8 : Nat) : Int)]) W := by kernel_rfl
def accRS (k : Nat) : Bool := !(k == 2 || (k == 5 || k == 6))
def accRA (s : Ed) : Nat → Nat
  | 0 => posR s.pl 0
  | 1 => posR s.pl 1
  | 2 => fromR s
  | 3 => posR s.pl 2
  | 4 => posR s.pl 3
  | 5 => posR s.pl 2
  | 6 => posR s.pl 3
  | 7 => fromR s
  | _ => backR s
def accArrS (s : Ed) : Value := accArr (posR s.pl 0) (posR s.pl 1) (fromR s) (posR s.pl 2) (posR s.pl 3) (posR s.pl 2) (posR s.pl 3) (fromR s) (backR s) s.key s.val s.next s.prev (if s.cuts = true then s.next else s.pl) (if s.cuts = true then s.prev else s.pl)
theorem accArrS_at (s : Ed) (k : Nat) (hk : k < 9) (W : World) : (Instr.index 120 (accArrS s) (.int .i64 ((k : Nat) : Int))).run Try.prog W = .ok (accV (accS k) (accRA s k) (accW s k)) W := by
  match k, hk with
  | 0, _ => exact accArr_at0 _ _ _ _ _ _ _ _ _ _ _ _ _ _ _ W
  | 1, _ => exact accArr_at1 _ _ _ _ _ _ _ _ _ _ _ _ _ _ _ W
  | 2, _ => exact accArr_at2 _ _ _ _ _ _ _ _ _ _ _ _ _ _ _ W
  | 3, _ => exact accArr_at3 _ _ _ _ _ _ _ _ _ _ _ _ _ _ _ W
  | 4, _ => exact accArr_at4 _ _ _ _ _ _ _ _ _ _ _ _ _ _ _ W
  | 5, _ => exact accArr_at5 _ _ _ _ _ _ _ _ _ _ _ _ _ _ _ W
  | 6, _ => exact accArr_at6 _ _ _ _ _ _ _ _ _ _ _ _ _ _ _ W
  | 7, _ => exact accArr_at7 _ _ _ _ _ _ _ _ _ _ _ _ _ _ _ W
  | 8, _ => exact accArr_at8 _ _ _ _ _ _ _ _ _ _ _ _ _ _ _ W
end Go.Proofs.Ytoihjmdpbbcbjaa
