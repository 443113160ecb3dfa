/- The functions of package path: Check, Of, Parts, Join, Up. -/
import Derived.Test.YtbfhppafffhlkaaPath5
import Derived.Test.YtbfhppafffhlkaaLawDefs
namespace Go.Proofs.Ytbfhppafffhlkaa
open Go.RowKit Go.Shelf
open Go.Proofs
set_option linter.unusedVariables false

theorem elemWords : Elem Try.prog 43 23 1 8 := Elem.mk' (z := .int .u64 0) Try.underlying43 (by kernel_rfl) rfl (by decide) (by decide)

theorem rd_some {x : Nat} {ps : List (List UInt8)} (h : rd x = some ps) : Pl.textN (backL x) = x ∧ backL x ≠ [] ∧ ps = psOf (backL x) ∧ okL ps = true ∧ numL ps = x ∧ Pth.tot ps ≤ 8 ∧ ps.length ≤ 4 := by
  unfold rd at h
  split at h
  · rename_i hc
    obtain ⟨h1, h2, h3, h4⟩ := hc
    cases h
    refine ⟨h1, h2, rfl, h3, h4, ?_, ?_⟩
    · unfold psOf
      split
      · exact Nat.zero_le _
      · have := Pth.segs_tot (backL x); have := backGo_len 8 x; unfold backL at *; omega
    · unfold okL at h3; simp at h3; exact h3.1.2
  · cases h

theorem read_none (x : Nat) (w : World) (hx : x < 18446744073709551616) (h : rd x = none) : Calls Try.prog 39 #[.int .u64 (x : Nat)] w (Ret noPath w) :=
  (read_any x w hx).mono fun e w' hr => by unfold ReadP at hr; rw [h] at hr; exact ⟨hr.2, hr.1⟩
/-- A path came out of it. -/
structure Path (x : Nat) (ps : List (List UInt8)) (w : World) (e : Ending) (w' : World) (v : Value) (xs : List ByteArray) : Prop where
  e : e = .returned (.tuple #[.agg #[v, .int .u64 (x : Nat)], .bool true])
  d : dl xs = ps
  o : w'.ownsRow w.heap.size 9 1 v xs.length (tcells xs)
  b : Below w.heap.size w w'
theorem read_some (x : Nat) (ps : List (List UInt8)) (w : World) (hx : x < 18446744073709551616) (h : rd x = some ps) : Calls Try.prog 39 #[.int .u64 (x : Nat)] w (fun e w' => ∃ v xs, Path x ps w e w' v xs) :=
  (read_any x w hx).mono fun e w' hr => by
    unfold ReadP at hr
    rw [h] at hr
    obtain ⟨hb, v, xs, h1, h2, h3⟩ := hr
    exact ⟨v, xs, h1, h2, h3, hb⟩

def pathE (x : Nat) : Int := if (rd x).isSome then 0 else 310
theorem Check_any (x : Nat) (w : World) (hx : x < 18446744073709551616) : Calls Try.prog 41 #[.int .u64 (x : Nat)] w (Ret (.int .i64 (pathE x)) w) := by
  cases h : rd x with
  | none =>
    have e : pathE x = 310 := by unfold pathE; rw [h]; rfl
    rw [e]
    have HR := hid fun W => read_none x W hx h
    clear h e
    go_enter Try.func41, Try.ntmps41
    go_wp2_with (go_at_call 39; refine (HR.out _).mono ?_; unfold noPath; rintro e w1 ⟨rfl, hb1⟩)
    go_ret
    exact ⟨rfl, hb1.alloc hb1.size _⟩
  | some ps =>
    have e : pathE x = 0 := by unfold pathE; rw [h]; rfl
    rw [e]
    have HR := hid fun W => read_some x ps W hx h
    clear h e
    go_enter Try.func41, Try.ntmps41
    go_wp2_with fail
    refine (HR.out _).mono ?_
    rintro e w1 ⟨v, xs, rfl, hd, ho, hb1⟩
    obtain ⟨a, c, rfl, -⟩ := Leads.of_own ho
    clear hd ho
    go_wp2
    go_ret
    exact ⟨rfl, hb1.alloc hb1.size _⟩

/-- Of. -/
def ofV (l : List UInt8) : Value := if l.length ≤ 8 ∧ l.contains 0 = false ∧ (rd (Pl.textN l)).isSome = true then .tuple #[.int .u64 ((Pl.textN l : Nat) : Int), .int .i64 0] else .tuple #[.int .u64 0, .int .i64 310]
theorem textN_u64 (l : List UInt8) (h : l.length ≤ 8) : Pl.textN l < 18446744073709551616 :=
  Nat.lt_of_lt_of_le (Pl.textN_lt l) (Nat.pow_le_pow_right (n := 256) (by decide) h)
theorem Of_any (s : ByteArray) (w : World) (hs : s.size ≤ 1000) : Calls Try.prog 42 #[.string s] w (Ret (ofV s.data.toList) w) := by
  obtain ⟨l, hl⟩ : ∃ l, s.data.toList = l := ⟨_, rfl⟩
  have hT := fun W => Text_any s W hs
  rw [hl] at hT ⊢
  unfold textV at hT
  by_cases h8 : l.length ≤ 8
  · rw [if_neg (by omega)] at hT
    cases h0 : l.contains 0 with
    | true =>
      rw [if_pos h0] at hT
      have e : ofV l = .tuple #[.int .u64 0, .int .i64 310] := by unfold ofV; rw [if_neg (by rw [h0]; simp)]
      rw [e]
      have HT := hid hT
      clear hT e h0 hl
      go_enter Try.func42, Try.ntmps42
      go_wp2_with (go_at_call 51; refine (HT.out _).mono ?_; rintro e w1 ⟨rfl, hb1⟩)
      go_ret2
      exact ⟨rfl, hb1⟩
    | false =>
      rw [if_neg (by rw [h0]; simp)] at hT
      have hN := textN_u64 l h8
      have hC := fun W => Check_any (Pl.textN l) W hN
      have HT := hid hT
      cases hr : (rd (Pl.textN l)).isSome with
      | true =>
        have e : ofV l = .tuple #[.int .u64 ((Pl.textN l : Nat) : Int), .int .i64 0] := by unfold ofV; rw [if_pos ⟨h8, h0, hr⟩]
        rw [e]
        have hp : pathE (Pl.textN l) = 0 := by unfold pathE; rw [hr]; rfl
        rw [hp] at hC
        have HC := hid hC
        clear hT e h0 hl hp hC hr
        go_enter Try.func42, Try.ntmps42
        go_wp2_with (first | (go_at_call 51; refine (HT.out _).mono ?_; rintro e w1 ⟨rfl, hb1⟩) | (go_at_call 41; refine (HC.out _).mono ?_; rintro e w2 ⟨rfl, hb2⟩))
        go_ret2
        exact ⟨rfl, step hb1 hb2⟩
      | false =>
        have e : ofV l = .tuple #[.int .u64 0, .int .i64 310] := by unfold ofV; rw [if_neg (by rw [hr]; simp)]
        rw [e]
        have hp : pathE (Pl.textN l) = 310 := by unfold pathE; rw [hr]; rfl
        rw [hp] at hC
        have HC := hid hC
        clear hT e h0 hl hp hC hr
        go_enter Try.func42, Try.ntmps42
        go_wp2_with (first | (go_at_call 51; refine (HT.out _).mono ?_; rintro e w1 ⟨rfl, hb1⟩) | (go_at_call 41; refine (HC.out _).mono ?_; rintro e w2 ⟨rfl, hb2⟩))
        go_ret2
        exact ⟨rfl, step hb1 hb2⟩
  · rw [if_pos (by omega)] at hT
    have e : ofV l = .tuple #[.int .u64 0, .int .i64 310] := by unfold ofV; rw [if_neg (by rintro ⟨h, _⟩; exact h8 h)]
    rw [e]
    have HT := hid hT
    clear hT e hl
    go_enter Try.func42, Try.ntmps42
    go_wp2_with (go_at_call 51; refine (HT.out _).mono ?_; rintro e w1 ⟨rfl, hb1⟩)
    go_ret2
    exact ⟨rfl, hb1⟩

/-- Rows of texts that are the call's own. -/
structure Texts (ps : List (List UInt8)) (c : Value → Value) (w : World) (e : Ending) (w' : World) (v : Value) (xs : List ByteArray) : Prop where
  e : e = .returned (c v)
  d : dl xs = ps
  o : w'.ownsRow w.heap.size 9 1 v xs.length (tcells xs)
  b : Below w.heap.size w w'
/-- Join. -/
def joinV (ls : List (List UInt8)) : Value := if okL ls then .tuple #[.int .u64 ((numL ls : Nat) : Int), .int .i64 0] else .tuple #[.int .u64 0, .int .i64 310]
end Go.Proofs.Ytbfhppafffhlkaa
