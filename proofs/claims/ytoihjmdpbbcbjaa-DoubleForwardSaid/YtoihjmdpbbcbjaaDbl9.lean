/- Lists linked both ways: what is done in each phase. -/
import Derived.Test.YtoihjmdpbbcbjaaDbl8
namespace Go.Proofs.Ytoihjmdpbbcbjaa
open Go.RowKit
open Go.Proofs
set_option linter.unusedVariables false
attribute [local go_sem] Oper.semAt_some

/-- What a phase gives. -/
def GivesD (B : Nat) (E : Nat) (V : World) (s : Ed) (lost : Bool) (M : Mem) (e : Ending) (W : World) : Prop := e = .returned (.tuple #[]) ∧ EdL B true E s lost M W ∧ V.grownBy W (some E)
/-- A world in which it lies so. -/
structure RSd (E : Nat) (s : Ed) where
  w : World
  c0 : w.cell? ⟨E, 0, none⟩ = some (.int .i64 s.ph)
  c1 : w.cell? ⟨E, 1, none⟩ = some (.bool s.cuts)
  c2 : w.cell? ⟨E, 2, none⟩ = some (.int .u64 ((s.head : Nat) : Int))
  c3 : w.cell? ⟨E, 3, none⟩ = some (.int .u64 ((s.pl : Nat) : Int))
  c4 : w.cell? ⟨E, 4, none⟩ = some (.int .u64 ((s.key : Nat) : Int))
  c5 : w.cell? ⟨E, 5, none⟩ = some (.int .u64 ((s.val : Nat) : Int))
  c6 : w.cell? ⟨E, 6, none⟩ = some (.int .u64 ((s.prev : Nat) : Int))
  c7 : w.cell? ⟨E, 7, none⟩ = some (.int .u64 ((s.next : Nat) : Int))
theorem EdL.cls {B : Nat} {fr : Bool} {E : Nat} {s : Ed} {lost : Bool} {M : Mem} {V : World} (h : EdL B fr E s lost M V) : ∃ z : RSd E s, V = z.w := by
  obtain ⟨wa, wc, la, lc, h⟩ := h
  exact ⟨⟨V, cell_laid h.blk rfl, cell_laid h.blk rfl, cell_laid h.blk rfl, cell_laid h.blk rfl, cell_laid h.blk rfl, cell_laid h.blk rfl, cell_laid h.blk rfl, cell_laid h.blk rfl⟩, rfl⟩
theorem EdL.lt {B : Nat} {fr : Bool} {E : Nat} {s : Ed} {lost : Bool} {M : Mem} {V : World} (h : EdL B fr E s lost M V) : E < V.heap.size := by
  obtain ⟨wa, wc, la, lc, h⟩ := h
  exact lt_laid h.blk
theorem EdL.free {B : Nat} {fr : Bool} {E i : Nat} {s : Ed} {lost : Bool} {M : Mem} {V : World} (h : EdL B fr E s lost M V) : V.frozen? ⟨E, i, none⟩ = false := by
  obtain ⟨wa, wc, la, lc, h⟩ := h
  exact free_laid h.blk
theorem EdL.c11 {B : Nat} {fr : Bool} {E : Nat} {s : Ed} {lost : Bool} {M : Mem} {V : World} (h : EdL B fr E s lost M V) : V.cell? ⟨E, 11, none⟩ = some (.bool lost) := by
  obtain ⟨wa, wc, la, lc, h⟩ := h
  exact cell_laid h.blk rfl
theorem EdC.set {B : Nat} {fr : Bool} {E i : Nat} {wa la : Option Addr} {wc lc : Nat} {s s' : Ed} {lost : Bool} {M : Mem} {V : World} {v : Value} (h : EdC B fr E wa wc la lc s lost M V) (hs : (edCells s lost wa M.W.length wc la M.L.length lc M.F).setIfInBounds i v = edCells s' lost wa M.W.length wc la M.L.length lc M.F) :
    EdC B fr E wa wc la lc s' lost M (V.setCell ⟨E, i, none⟩ v) := by
  refine ⟨?_, ⟨h.mem.w.grownNe h.nw (grownBy_put v), h.mem.l.grownNe h.nl (grownBy_put v)⟩, h.nw, h.nl, fun e => (h.ow e).keep h.blk (by decide) (by decide) (fun k o hk ho => other_laid ho hk _), h.lo⟩
  have := set_laid (i := i) h.blk v
  rw [hs] at this
  exact this
theorem EdL.put7 {B : Nat} {fr : Bool} {E : Nat} {s : Ed} {lost : Bool} {M : Mem} {V : World} (h : EdL B fr E s lost M V) (x : Nat) : EdL B fr E { s with next := x } lost M (V.setCell ⟨E, 7, none⟩ (.int .u64 ((x : Nat) : Int))) :=
  let ⟨wa, wc, la, lc, k⟩ := h; ⟨wa, wc, la, lc, k.set rfl⟩
theorem EdL.put6 {B : Nat} {fr : Bool} {E : Nat} {s : Ed} {lost : Bool} {M : Mem} {V : World} (h : EdL B fr E s lost M V) (x : Nat) : EdL B fr E { s with prev := x } lost M (V.setCell ⟨E, 6, none⟩ (.int .u64 ((x : Nat) : Int))) :=
  let ⟨wa, wc, la, lc, k⟩ := h; ⟨wa, wc, la, lc, k.set rfl⟩
theorem EdL.put0 {B : Nat} {fr : Bool} {E : Nat} {s : Ed} {lost : Bool} {M : Mem} {V : World} (h : EdL B fr E s lost M V) (x : Int) : EdL B fr E { s with ph := x } lost M (V.setCell ⟨E, 0, none⟩ (.int .i64 x)) :=
  let ⟨wa, wc, la, lc, k⟩ := h; ⟨wa, wc, la, lc, k.set rfl⟩
theorem posN_int {p k : Nat} (hk : k ≤ 1000) : -9223372036854775808 ≤ ((posN p k : Nat) : Int) ∧ ((posN p k : Nat) : Int) ≤ 9223372036854775807 := by unfold posN; omega

theorem estore_any {B : Nat} {fr : Bool} (E : Nat) (s : Ed) (lost : Bool) (M : Mem) (k new : Nat) (V : World) (h : EdL B fr E s lost M V) (hB : B ≤ V.heap.size) (hok : okM M = true) (hp : s.pl < 18446744073709551616) (hk : k ≤ 1000) :
    Calls Try.prog 78 #[.pointer (some ⟨E, 0, none⟩), .int .i64 ((k : Nat) : Int), .int .u64 ((new : Nat) : Int)] V
      (GivesD B E V s (!(stepM M true ((posN s.pl k : Nat) : Int) new).2.2) (stepM M true ((posN s.pl k : Nat) : Int) new).1) := by
  obtain ⟨z, hz⟩ := h.cls
  have c3 := z.c3
  rw [← hz] at c3
  have HD := hid (edoes_any E s lost M true 2 ((posN s.pl k : Nat) : Int) new V h hB hok (posN_int hk) rfl)
  have HW := hid (word_any s.pl k V hp hk)
  clear h hok hz z
  go_enter Try.func78, Try.ntmps78
  go_wp2_with fail
  refine HW.out.mono ?_
  rintro e W ⟨rfl, hw⟩
  subst hw
  go_wp2_with fail
  refine HD.out.mono ?_
  rintro e W ⟨rfl, h1, h2⟩
  go_wp2
  go_end0
  exact ⟨rfl, h1, h2⟩

theorem eload_any {B : Nat} {fr : Bool} (E : Nat) (s : Ed) (lost : Bool) (M : Mem) (at_ was : Nat) (V : World) (h : EdL B fr E s lost M V) (hB : B ≤ V.heap.size) (hok : okM M = true) (hat : at_ ≤ 1000000) :
    Calls Try.prog 79 #[.pointer (some ⟨E, 0, none⟩), .int .i64 ((at_ : Nat) : Int), .int .u64 ((was : Nat) : Int)] V (fun e W =>
      e = .returned (.int .u64 ((if (stepM M false ((at_ : Nat) : Int) 0).2.2 = true then (stepM M false ((at_ : Nat) : Int) 0).2.1 else was : Nat) : Int)) ∧
      EdL B true E s (!(stepM M false ((at_ : Nat) : Int) 0).2.2) (stepM M false ((at_ : Nat) : Int) 0).1 W ∧ V.grownBy W (some E)) := by
  have HD := hid (edoes_any E s lost M false 1 ((at_ : Nat) : Int) 0 V h hB hok (by omega) rfl)
  obtain ⟨⟨M', x, d⟩, hR⟩ : ∃ R, stepM M false ((at_ : Nat) : Int) 0 = R := ⟨_, rfl⟩
  rw [hR] at HD ⊢
  dsimp only at HD ⊢
  clear h hok hR
  cases d
  all_goals
    go_enter Try.func79, Try.ntmps79
    go_wp2_with fail
    refine HD.out.mono ?_
    rintro e W ⟨rfl, h1, h2⟩
    have c11 := h1.c11
    have H1 := hid h1
    have H2 := hid h2
    clear h1 h2
    go_wp2
    go_ret
    exact ⟨rfl, H1.out, H2.out⟩

def fromN (s : Ed) : Nat := if s.prev = 0 then posN s.head 0 else posN s.prev 2
def backN (s : Ed) : Nat := if s.next = 0 then posN s.head 1 else posN s.next 3
theorem fromN_le (s : Ed) : fromN s ≤ 5000 := by unfold fromN posN; split <;> omega
theorem backN_le (s : Ed) : backN s ≤ 5000 := by unfold backN posN; split <;> omega
theorem eahead_any (E : Nat) (s : Ed) (V : World) (h : ∃ z : RSd E s, V = z.w) (hs : s.Ok) : Calls Try.prog 80 #[.pointer (some ⟨E, 0, none⟩)] V (fun e W => e = .returned (.int .i64 ((fromN s : Nat) : Int)) ∧ W = V) := by
  obtain ⟨z, hz⟩ := h
  have c2 := z.c2
  have c6 := z.c6
  rw [← hz] at c2 c6
  have HW := hid (fun V => word_any s.head 0 V hs.head (by decide))
  have HP := hid (fun V => word_any s.prev 2 V hs.prev (by decide))
  unfold fromN
  obtain ⟨p, hp⟩ : ∃ p, s.prev = p := ⟨_, rfl⟩
  rw [hp] at c6 HP ⊢
  clear hz z hs hp
  by_cases h0 : p = 0
  · subst h0
    rw [if_pos rfl]
    go_enter Try.func80, Try.ntmps80
    go_wp2_with fail
    refine (HW.out _).mono ?_
    rintro e W ⟨rfl, rfl⟩
    go_wp2
    go_ret
    exact ⟨rfl, rfl⟩
  · rw [if_neg h0]
    have t0 : (((p : Nat) : Int) == 0) = false := by simp; omega
    clear h0
    go_enter Try.func80, Try.ntmps80
    go_wp2_with fail
    refine (HP.out _).mono ?_
    rintro e W ⟨rfl, rfl⟩
    go_wp2
    go_ret
    exact ⟨rfl, rfl⟩
theorem ebehind_any (E : Nat) (s : Ed) (V : World) (h : ∃ z : RSd E s, V = z.w) (hs : s.Ok) : Calls Try.prog 82 #[.pointer (some ⟨E, 0, none⟩)] V (fun e W => e = .returned (.int .i64 ((backN s : Nat) : Int)) ∧ W = V) := by
  obtain ⟨z, hz⟩ := h
  have c2 := z.c2
  have c7 := z.c7
  rw [← hz] at c2 c7
  have HW := hid (fun V => word_any s.head 1 V hs.head (by decide))
  have HP := hid (fun V => word_any s.next 3 V hs.next (by decide))
  unfold backN
  obtain ⟨p, hp⟩ : ∃ p, s.next = p := ⟨_, rfl⟩
  rw [hp] at c7 HP ⊢
  clear hz z hs hp
  by_cases h0 : p = 0
  · subst h0
    rw [if_pos rfl]
    go_enter Try.func82, Try.ntmps82
    go_wp2_with fail
    refine (HW.out _).mono ?_
    rintro e W ⟨rfl, rfl⟩
    go_wp2
    go_ret
    exact ⟨rfl, rfl⟩
  · rw [if_neg h0]
    have t0 : (((p : Nat) : Int) == 0) = false := by simp; omega
    clear h0
    go_enter Try.func82, Try.ntmps82
    go_wp2_with fail
    refine (HP.out _).mono ?_
    rintro e W ⟨rfl, rfl⟩
    go_wp2
    go_ret
    exact ⟨rfl, rfl⟩
end Go.Proofs.Ytoihjmdpbbcbjaa
