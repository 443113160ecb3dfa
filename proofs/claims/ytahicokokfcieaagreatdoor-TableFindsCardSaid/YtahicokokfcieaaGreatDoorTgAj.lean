/- Several texts in one. -/
import Derived.Test.YtahicokokfcieaaGreatDoorTgAh
namespace Go.Proofs.YtahicokokfcieaaGreatDoor
open Go.RowKit
open Go.Proofs
set_option linter.unusedVariables false
attribute [local go_sem] Oper.semAt_some
/-- Only these blocks are written; new ones may come. -/
structure Tch (P : Nat → Prop) (V W : World) : Prop where
  os : W.os = V.os
  tape : W.tape = V.tape
  output : W.output = V.output
  size : V.heap.size ≤ W.heap.size
  block : ∀ k, k < V.heap.size → ¬ P k → W.heap[k]? = V.heap[k]?
theorem Tch.keep {P : Nat → Prop} {V W : World} (h : Tch P V W) {k : Nat} {o : Obj} (ho : V.heap[k]? = some o) (hk : ¬ P k) : W.heap[k]? = some o := (h.block k (lt_laid ho) hk).trans ho
theorem Tch.below {P : Nat → Prop} {V W : World} {B : Nat} (h : Tch P V W) (hP : ∀ k, P k → B ≤ k) (hB : B ≤ V.heap.size) : Below B V W :=
  ⟨h.os, h.tape, h.output, h.size, fun k hk => h.block k (Nat.lt_of_lt_of_le hk hB) (fun hp => absurd (hP k hp) (by omega))⟩
theorem Tch.of_below {P : Nat → Prop} {V W : World} (h : Below V.heap.size V W) : Tch P V W := ⟨h.os, h.tape, h.output, h.size, fun k hk _ => h.block k hk⟩
theorem Tch.trans {P : Nat → Prop} {A B C : World} (h : Tch P A B) (k : Tch P B C) : Tch P A C :=
  ⟨k.os.trans h.os, k.tape.trans h.tape, k.output.trans h.output, Nat.le_trans h.size k.size, fun b hb hp => (k.block b (Nat.lt_of_lt_of_le hb h.size) hp).trans (h.block b hb hp)⟩
theorem Tch.mono {P Q : Nat → Prop} {V W : World} (h : Tch P V W) (hq : ∀ k, P k → Q k) : Tch Q V W := ⟨h.os, h.tape, h.output, h.size, fun k hk hn => h.block k hk (fun hp => hn (hq k hp))⟩
theorem Tch.set {P : Nat → Prop} {V : World} {b i : Nat} (hP : P b) (v : Value) : Tch P V (V.setCell ⟨b, i, none⟩ v) :=
  ⟨rfl, rfl, rfl, by simp [World.setCell], fun k hk hn => Below.heap_setCell V ⟨b, i, none⟩ v k (fun e => hn (by subst e; exact hP))⟩
theorem Tch.refl (P : Nat → Prop) (V : World) : Tch P V V := ⟨rfl, rfl, rfl, Nat.le_refl _, fun _ _ _ => rfl⟩
/-- Who seeks. -/
structure Sk where
  ph : Int
  hash : Nat
  key : Nat
  link : Nat
  node : Nat
  val : Nat
  found : Bool
structure Sk.Ok (s : Sk) : Prop where
  ph : -9223372036854775808 ≤ s.ph ∧ s.ph ≤ 9223372036854775807
  hash : s.hash < 18446744073709551616
  key : s.key < 18446744073709551616
  link : s.link < 18446744073709551616
  node : s.node < 18446744073709551616
  val : s.val < 18446744073709551616
abbrev sk7 (s : Sk) : Array Value := #[.int .i64 s.ph, .int .u64 ((s.hash : Nat) : Int), .int .u64 ((s.key : Nat) : Int), .int .u64 ((s.link : Nat) : Int), .int .u64 ((s.node : Nat) : Int), .int .u64 ((s.val : Nat) : Int), .bool s.found]
def skV (s : Sk) : Value := .agg #[.int .i64 s.ph, .int .u64 ((s.hash : Nat) : Int), .int .u64 ((s.key : Nat) : Int), .int .u64 ((s.link : Nat) : Int), .int .u64 ((s.node : Nat) : Int), .int .u64 ((s.val : Nat) : Int), .bool s.found]
def needS (s : Sk) : Nat → Nat
  | 0 => posL s.link 0
  | 1 => posL s.node 3
  | 2 => posL s.node 0
  | _ => posL s.node 1
def cmpS (s : Sk) (n want : Nat) (ph : Int) : Sk := if n < want then { s with ph := 0, link := (s.node + 2) % 18446744073709551616 } else if want < n then { s with ph := 4 } else { s with ph := ph }
def thenS (s : Sk) (n : Nat) : Nat → Sk
  | 0 => { s with node := n, ph := if n = 0 then 4 else 1 }
  | 1 => cmpS s n s.hash 2
  | 2 => cmpS s n s.key 3
  | _ => { s with val := n, found := true, ph := 4 }
set_option maxRecDepth 100000 in
theorem need0_any (s : Sk) (V : World) (hs : s.Ok) : Calls Tryz.prog 122 #[skV s] V (Ret (.int .i64 ((posL s.link 0 : Nat) : Int)) V) := by
  obtain ⟨V1, hV1, hb1, hs1, hl1⟩ := laid V #[.int .i64 s.ph, .int .u64 ((s.hash : Nat) : Int), .int .u64 ((s.key : Nat) : Int), .int .u64 ((s.link : Nat) : Int), .int .u64 ((s.node : Nat) : Int), .int .u64 ((s.val : Nat) : Int), .bool s.found] 41
  have c : V1.cell? ⟨V.heap.size, 3, none⟩ = some (.int .u64 ((s.link : Nat) : Int)) := cell_laid hl1 rfl
  have HA := hid (at_any s.link 0 V1 hs.link (by decide))
  have HB1 := hid hb1
  unfold skV
  clear hb1 hs1 hl1
  go_enter Tryz.func122, Tryz.ntmps122
  go_wp2_with fail
  refine HA.out.mono ?_
  rintro e w ⟨rfl, hw⟩
  subst hw
  go_wp2
  go_ret
  exact ⟨rfl, HB1.out⟩
set_option maxRecDepth 100000 in
theorem need1_any (s : Sk) (V : World) (hs : s.Ok) : Calls Tryz.prog 124 #[skV s] V (Ret (.int .i64 ((posL s.node 3 : Nat) : Int)) V) := by
  obtain ⟨V1, hV1, hb1, hs1, hl1⟩ := laid V #[.int .i64 s.ph, .int .u64 ((s.hash : Nat) : Int), .int .u64 ((s.key : Nat) : Int), .int .u64 ((s.link : Nat) : Int), .int .u64 ((s.node : Nat) : Int), .int .u64 ((s.val : Nat) : Int), .bool s.found] 41
  have c : V1.cell? ⟨V.heap.size, 4, none⟩ = some (.int .u64 ((s.node : Nat) : Int)) := cell_laid hl1 rfl
  have HA := hid (at_any s.node 3 V1 hs.node (by decide))
  have HB1 := hid hb1
  unfold skV
  clear hb1 hs1 hl1
  go_enter Tryz.func124, Tryz.ntmps124
  go_wp2_with fail
  refine HA.out.mono ?_
  rintro e w ⟨rfl, hw⟩
  subst hw
  go_wp2
  go_ret
  exact ⟨rfl, HB1.out⟩
set_option maxRecDepth 100000 in
theorem need2_any (s : Sk) (V : World) (hs : s.Ok) : Calls Tryz.prog 127 #[skV s] V (Ret (.int .i64 ((posL s.node 0 : Nat) : Int)) V) := by
  obtain ⟨V1, hV1, hb1, hs1, hl1⟩ := laid V #[.int .i64 s.ph, .int .u64 ((s.hash : Nat) : Int), .int .u64 ((s.key : Nat) : Int), .int .u64 ((s.link : Nat) : Int), .int .u64 ((s.node : Nat) : Int), .int .u64 ((s.val : Nat) : Int), .bool s.found] 41
  have c : V1.cell? ⟨V.heap.size, 4, none⟩ = some (.int .u64 ((s.node : Nat) : Int)) := cell_laid hl1 rfl
  have HA := hid (at_any s.node 0 V1 hs.node (by decide))
  have HB1 := hid hb1
  unfold skV
  clear hb1 hs1 hl1
  go_enter Tryz.func127, Tryz.ntmps127
  go_wp2_with fail
  refine HA.out.mono ?_
  rintro e w ⟨rfl, hw⟩
  subst hw
  go_wp2
  go_ret
  exact ⟨rfl, HB1.out⟩
set_option maxRecDepth 100000 in
theorem need3_any (s : Sk) (V : World) (hs : s.Ok) : Calls Tryz.prog 129 #[skV s] V (Ret (.int .i64 ((posL s.node 1 : Nat) : Int)) V) := by
  obtain ⟨V1, hV1, hb1, hs1, hl1⟩ := laid V #[.int .i64 s.ph, .int .u64 ((s.hash : Nat) : Int), .int .u64 ((s.key : Nat) : Int), .int .u64 ((s.link : Nat) : Int), .int .u64 ((s.node : Nat) : Int), .int .u64 ((s.val : Nat) : Int), .bool s.found] 41
  have c : V1.cell? ⟨V.heap.size, 4, none⟩ = some (.int .u64 ((s.node : Nat) : Int)) := cell_laid hl1 rfl
  have HA := hid (at_any s.node 1 V1 hs.node (by decide))
  have HB1 := hid hb1
  unfold skV
  clear hb1 hs1 hl1
  go_enter Tryz.func129, Tryz.ntmps129
  go_wp2_with fail
  refine HA.out.mono ?_
  rintro e w ⟨rfl, hw⟩
  subst hw
  go_wp2
  go_ret
  exact ⟨rfl, HB1.out⟩
/-- What a phase leaves of who seeks. -/
def GivesT (S : Nat) (s : Sk) (V : World) (e : Ending) (W : World) : Prop := e = .returned (.tuple #[]) ∧ Tch (fun k => k = S) V W ∧ W.heap[S]? = some (.cells (sk7 s) 41 (0, 0))
set_option maxRecDepth 100000 in
theorem cmp_any (s : Sk) (S n want : Nat) (p : Int) (V : World) (h : V.heap[S]? = some (.cells (sk7 s) 41 (0, 0))) (hs : s.Ok) :
    Calls Tryz.prog 126 #[.pointer (some ⟨S, 0, none⟩), .int .u64 ((n : Nat) : Int), .int .u64 ((want : Nat) : Int), .int .i64 p] V (GivesT S (cmpS s n want p) V) := by
  have k0 : V.cell? ⟨S, 0, none⟩ = some (.int .i64 s.ph) := cell_laid h rfl
  have kf0 := free_laid (i := 0) h
  have k1 : V.cell? ⟨S, 1, none⟩ = some (.int .u64 ((s.hash : Nat) : Int)) := cell_laid h rfl
  have kf1 := free_laid (i := 1) h
  have k2 : V.cell? ⟨S, 2, none⟩ = some (.int .u64 ((s.key : Nat) : Int)) := cell_laid h rfl
  have kf2 := free_laid (i := 2) h
  have k3 : V.cell? ⟨S, 3, none⟩ = some (.int .u64 ((s.link : Nat) : Int)) := cell_laid h rfl
  have kf3 := free_laid (i := 3) h
  have k4 : V.cell? ⟨S, 4, none⟩ = some (.int .u64 ((s.node : Nat) : Int)) := cell_laid h rfl
  have kf4 := free_laid (i := 4) h
  have k5 : V.cell? ⟨S, 5, none⟩ = some (.int .u64 ((s.val : Nat) : Int)) := cell_laid h rfl
  have kf5 := free_laid (i := 5) h
  have k6 : V.cell? ⟨S, 6, none⟩ = some (.bool s.found) := cell_laid h rfl
  have kf6 := free_laid (i := 6) h
  have H := hid h
  have hnd := hs.node
  have hadd : IntKind.u64.wrap (((s.node : Nat) : Int) + 2) = (((s.node + 2) % 18446744073709551616 : Nat) : Int) := by rw [IntKind.wrap_u64]; omega
  clear h
  go_enter Tryz.func126, Tryz.ntmps126
  by_cases c1 : n < want
  · have t1 : decide (n < want) = true := decide_eq_true c1
    have HE : Hid (cmpS s n want p = { s with ph := 0, link := (s.node + 2) % 18446744073709551616 }) := hid (by unfold cmpS; rw [if_pos c1])
    clear c1
    go_wp2
    go_end0
    rw [HE.out]
    refine ⟨rfl, (Tch.set (P := fun k => k = S) rfl _).trans (Tch.set (P := fun k => k = S) rfl _), ?_⟩
    have := set_laid (i := 3) (set_laid (i := 0) H.out (.int .i64 0)) (.int .u64 (((s.node + 2) % 18446744073709551616 : Nat) : Int))
    first | exact this | (rw [hadd]; exact this) | (simpa [hadd] using this)
  · have t1 : decide (n < want) = false := decide_eq_false c1
    by_cases c2 : want < n
    · have t2 : decide (want < n) = true := decide_eq_true c2
      have HE : Hid (cmpS s n want p = { s with ph := 4 }) := hid (by unfold cmpS; rw [if_neg c1, if_pos c2])
      clear c1 c2
      go_wp2
      go_end0
      rw [HE.out]
      exact ⟨rfl, Tch.set (P := fun k => k = S) rfl _, set_laid (i := 0) H.out (.int .i64 4)⟩
    · have t2 : decide (want < n) = false := decide_eq_false c2
      have HE : Hid (cmpS s n want p = { s with ph := p }) := hid (by unfold cmpS; rw [if_neg c1, if_neg c2])
      clear c1 c2
      go_wp2
      go_end0
      rw [HE.out]
      exact ⟨rfl, Tch.set (P := fun k => k = S) rfl _, set_laid (i := 0) H.out (.int .i64 p)⟩
set_option maxRecDepth 100000 in
theorem then1_any (s : Sk) (S n : Nat) (V : World) (h : V.heap[S]? = some (.cells (sk7 s) 41 (0, 0))) (hs : s.Ok) :
    Calls Tryz.prog 125 #[.pointer (some ⟨S, 0, none⟩), .int .u64 ((n : Nat) : Int)] V (GivesT S (thenS s n 1) V) := by
  have c : V.cell? ⟨S, 1, none⟩ = some (.int .u64 ((s.hash : Nat) : Int)) := cell_laid h rfl
  have HC := hid (cmp_any s S n s.hash 2 V h hs)
  clear h
  go_enter Tryz.func125, Tryz.ntmps125
  go_wp2_with fail
  refine HC.out.mono ?_
  rintro e W ⟨rfl, h1, h2⟩
  have H1 := hid h1
  have H2 := hid h2
  clear h1 h2
  go_wp2
  go_end0
  exact ⟨rfl, H1.out, H2.out⟩
set_option maxRecDepth 100000 in
theorem then2_any (s : Sk) (S n : Nat) (V : World) (h : V.heap[S]? = some (.cells (sk7 s) 41 (0, 0))) (hs : s.Ok) :
    Calls Tryz.prog 128 #[.pointer (some ⟨S, 0, none⟩), .int .u64 ((n : Nat) : Int)] V (GivesT S (thenS s n 2) V) := by
  have c : V.cell? ⟨S, 2, none⟩ = some (.int .u64 ((s.key : Nat) : Int)) := cell_laid h rfl
  have HC := hid (cmp_any s S n s.key 3 V h hs)
  clear h
  go_enter Tryz.func128, Tryz.ntmps128
  go_wp2_with fail
  refine HC.out.mono ?_
  rintro e W ⟨rfl, h1, h2⟩
  have H1 := hid h1
  have H2 := hid h2
  clear h1 h2
  go_wp2
  go_end0
  exact ⟨rfl, H1.out, H2.out⟩
set_option maxRecDepth 100000 in
theorem then0_any (s : Sk) (S n : Nat) (V : World) (h : V.heap[S]? = some (.cells (sk7 s) 41 (0, 0))) (hs : s.Ok) :
    Calls Tryz.prog 123 #[.pointer (some ⟨S, 0, none⟩), .int .u64 ((n : Nat) : Int)] V (GivesT S (thenS s n 0) V) := by
  have k0 : V.cell? ⟨S, 0, none⟩ = some (.int .i64 s.ph) := cell_laid h rfl
  have kf0 := free_laid (i := 0) h
  have k1 : V.cell? ⟨S, 1, none⟩ = some (.int .u64 ((s.hash : Nat) : Int)) := cell_laid h rfl
  have kf1 := free_laid (i := 1) h
  have k2 : V.cell? ⟨S, 2, none⟩ = some (.int .u64 ((s.key : Nat) : Int)) := cell_laid h rfl
  have kf2 := free_laid (i := 2) h
  have k3 : V.cell? ⟨S, 3, none⟩ = some (.int .u64 ((s.link : Nat) : Int)) := cell_laid h rfl
  have kf3 := free_laid (i := 3) h
  have k4 : V.cell? ⟨S, 4, none⟩ = some (.int .u64 ((s.node : Nat) : Int)) := cell_laid h rfl
  have kf4 := free_laid (i := 4) h
  have k5 : V.cell? ⟨S, 5, none⟩ = some (.int .u64 ((s.val : Nat) : Int)) := cell_laid h rfl
  have kf5 := free_laid (i := 5) h
  have k6 : V.cell? ⟨S, 6, none⟩ = some (.bool s.found) := cell_laid h rfl
  have kf6 := free_laid (i := 6) h
  have H := hid h
  clear h
  go_enter Tryz.func123, Tryz.ntmps123
  by_cases h0 : n = 0
  · have t0 : (((n : Nat) : Int) == 0) = true := by simp; omega
    have HE : Hid (thenS s n 0 = { s with node := n, ph := 4 }) := hid (by show ({ s with node := n, ph := if n = 0 then 4 else 1 } : Sk) = _; rw [if_pos h0])
    clear h0
    go_wp2
    go_end0
    rw [HE.out]
    exact ⟨rfl, ((Tch.set (P := fun k => k = S) rfl _).trans (Tch.set (P := fun k => k = S) rfl _)).trans (Tch.set (P := fun k => k = S) rfl _), set_laid (i := 0) (set_laid (i := 0) (set_laid (i := 4) H.out _) _) _⟩
  · have t0 : (((n : Nat) : Int) == 0) = false := by simp; omega
    have HE : Hid (thenS s n 0 = { s with node := n, ph := 1 }) := hid (by show ({ s with node := n, ph := if n = 0 then 4 else 1 } : Sk) = _; rw [if_neg h0])
    clear h0
    go_wp2
    go_end0
    rw [HE.out]
    exact ⟨rfl, (Tch.set (P := fun k => k = S) rfl _).trans (Tch.set (P := fun k => k = S) rfl _), set_laid (i := 0) (set_laid (i := 4) H.out _) _⟩
set_option maxRecDepth 100000 in
theorem then3_any (s : Sk) (S n : Nat) (V : World) (h : V.heap[S]? = some (.cells (sk7 s) 41 (0, 0))) (hs : s.Ok) :
    Calls Tryz.prog 130 #[.pointer (some ⟨S, 0, none⟩), .int .u64 ((n : Nat) : Int)] V (GivesT S (thenS s n 3) V) := by
  have k0 : V.cell? ⟨S, 0, none⟩ = some (.int .i64 s.ph) := cell_laid h rfl
  have kf0 := free_laid (i := 0) h
  have k1 : V.cell? ⟨S, 1, none⟩ = some (.int .u64 ((s.hash : Nat) : Int)) := cell_laid h rfl
  have kf1 := free_laid (i := 1) h
  have k2 : V.cell? ⟨S, 2, none⟩ = some (.int .u64 ((s.key : Nat) : Int)) := cell_laid h rfl
  have kf2 := free_laid (i := 2) h
  have k3 : V.cell? ⟨S, 3, none⟩ = some (.int .u64 ((s.link : Nat) : Int)) := cell_laid h rfl
  have kf3 := free_laid (i := 3) h
  have k4 : V.cell? ⟨S, 4, none⟩ = some (.int .u64 ((s.node : Nat) : Int)) := cell_laid h rfl
  have kf4 := free_laid (i := 4) h
  have k5 : V.cell? ⟨S, 5, none⟩ = some (.int .u64 ((s.val : Nat) : Int)) := cell_laid h rfl
  have kf5 := free_laid (i := 5) h
  have k6 : V.cell? ⟨S, 6, none⟩ = some (.bool s.found) := cell_laid h rfl
  have kf6 := free_laid (i := 6) h
  have H := hid h
  clear h
  go_enter Tryz.func130, Tryz.ntmps130
  go_wp2
  go_end0
  exact ⟨rfl, ((Tch.set (P := fun k => k = S) rfl _).trans (Tch.set (P := fun k => k = S) rfl _)).trans (Tch.set (P := fun k => k = S) rfl _), set_laid (i := 0) (set_laid (i := 6) (set_laid (i := 5) H.out _) _) _⟩
end Go.Proofs.YtahicokokfcieaaGreatDoor
namespace Go.Proofs.YtahicokokfcieaaGreatDoor
open Go.RowKit
open Go.Proofs
set_option linter.unusedVariables false
attribute [local go_sem] Oper.semAt_some
/-- A memory that machines step in, and how many steps they made. -/
def RunC (B R : Nat) (M : Mem) (n : Nat) (V : World) : Prop := ∃ wa wc la lc, V.heap[R]? = some (.cells #[.slice wa M.W.length wc, .slice la M.L.length lc, .bool M.F, .int .i64 ((n : Nat) : Int)] 174 (0, 0)) ∧ MemO B wa wc la lc M V
theorem RunC.grow {B R : Nat} {M : Mem} {n : Nat} {V W : World} (h : RunC B R M n V) (hb : Below V.heap.size V W) : RunC B R M n W := let ⟨wa, wc, la, lc, k, o⟩ := h; ⟨wa, wc, la, lc, keep_laid k hb, o.grow hb⟩
/-- Other blocks, of other kinds, are written. -/
theorem RunC.tch {B R S : Nat} {M : Mem} {n : Nat} {V W : World} {cs : Array Value} {e : TypeId} (h : RunC B R M n V) (ht : Tch (fun k => k = S) V W) (hS : V.heap[S]? = some (.cells cs e (0, 0))) (h1 : 26 ≠ e) (h2 : 4 ≠ e) (h3 : 174 ≠ e) : RunC B R M n W := by
  obtain ⟨wa, wc, la, lc, k, o⟩ := h
  have hRS : R ≠ S := type_ne k hS h3
  refine ⟨wa, wc, la, lc, ht.keep k hRS, own_keep o.w fun j ob hj ho => ht.keep ho ?_, own_keep o.l fun j ob hj ho => ht.keep ho ?_⟩
  · rintro rfl
    obtain ⟨c, hc⟩ := own_type o.w j hj
    exact type_ne hc hS h1 rfl
  · rintro rfl
    obtain ⟨c, hc⟩ := own_type o.l j hj
    exact type_ne hc hS h2 rfl
theorem put_got {V : World} {Y : Nat} {z0 z1 : Value} {T : TypeId} (h : V.heap[Y]? = some (.cells #[z0, z1] T (0, 0))) (h1 : 26 ≠ T) (h2 : 4 ≠ T) (v0 v1 : Value) :
    ∃ V', V' = (V.setCell ⟨Y, 0, none⟩ v0).setCell ⟨Y, 1, none⟩ v1 ∧ V'.heap[Y]? = some (.cells #[v0, v1] T (0, 0)) ∧ (∀ (k : Nat) (o : Obj), k ≠ Y → V.heap[k]? = some o → V'.heap[k]? = some o) ∧ (∀ (B : Nat) (w : World), B ≤ Y → Below B w V → Below B w V') ∧
      ∀ (base : Nat) (wa : Option Addr) (wc : Nat) (la : Option Addr) (lc : Nat) (M : Mem), MemO base wa wc la lc M V → MemO base wa wc la lc M V' := by
  have k0 := set_laid (i := 0) h v0
  exact ⟨_, rfl, set_laid (i := 1) k0 v1, fun k o hk ho => other_laid (other_laid ho hk _) hk _, fun B w hB hb => (hb.setCell hB _).setCell hB _, fun base wa wc la lc M hm => (hm.set h h1 h2 v0).set k0 h1 h2 v1⟩
def GivesAc (B R : Nat) (n : Nat) (X : Mem × Nat × Bool) (V : World) (e : Ending) (W : World) : Prop := e = .returned (.tuple #[.int .u64 ((X.2.1 : Nat) : Int), .bool X.2.2]) ∧ RunC B R X.1 (n + 1) W ∧ Tch (fun k => k = R) V W
set_option maxRecDepth 100000 in
set_option maxHeartbeats 8000000 in
theorem access_any (B R : Nat) (M : Mem) (n : Nat) (st : Bool) (K at_ : Int) (new : Nat) (V : World) (h : RunC B R M n V) (hB : B ≤ V.heap.size) (hok : okM M = true) (hat : -9223372036854775808 ≤ at_ ∧ at_ ≤ 9223372036854775807) (hK : K = if st = true then 2 else 1) (hn : n ≤ 1000000) :
    Calls Tryz.prog 113 #[.pointer (some ⟨R, 0, none⟩), .agg #[.int .i64 K, .int .i64 at_, .int .u64 0, .int .u64 ((new : Nat) : Int)]] V (GivesAc B R n (stepM M st at_ new) V) := by
  obtain ⟨wa, wc, la, lc, hR, hO⟩ := h
  obtain ⟨⟨M', x, d⟩, hX⟩ : ∃ X, stepM M st at_ new = X := ⟨_, rfl⟩
  rw [hX]
  obtain ⟨V1, hV1, hb1, hs1, hl1⟩ := laid V #[.int .i64 K, .int .i64 at_, .int .u64 0, .int .u64 ((new : Nat) : Int)] 115
  obtain ⟨A, hA⟩ : ∃ X, V.heap.size = X := ⟨_, rfl⟩
  rw [hA] at hl1
  have HR := hid (keep_laid hR hb1)
  have HA := hid hl1
  have HO := hid (hO.grow hb1)
  have HT1 := hid (Tch.of_below (P := fun k => k = R) hb1)
  have hRA : R < A := by have := lt_laid hR; omega
  have hwl := hO.memL.w.len
  have hll := hO.memL.l.len
  have hBA : B ≤ A := by omega
  have hA1 : A < V1.heap.size := lt_laid hl1
  have HST : Hid (∀ W, Below V1.heap.size V1 W → Calls Tryz.prog 77 #[.agg #[.slice wa M.W.length wc, .slice la M.L.length lc, .bool M.F], .agg #[.int .i64 K, .int .i64 at_, .int .u64 0, .int .u64 ((new : Nat) : Int)]] W (GivesG M' x d W)) := hid (fun W hb => by
    have := Step_any M wa la wc lc st K at_ 0 new W (hO.memL.grow (step hb1 hb)) hok hat hK
    rw [hX] at this
    exact this)
  have r0 : ∀ z : Ext V1, z.v.cell? ⟨R, 0, none⟩ = some (.slice wa M.W.length wc) := fun z => cell_laid (keep_laid HR.out z.b) rfl
  have r1 : ∀ z : Ext V1, z.v.cell? ⟨R, 1, none⟩ = some (.slice la M.L.length lc) := fun z => cell_laid (keep_laid HR.out z.b) rfl
  have r2 : ∀ z : Ext V1, z.v.cell? ⟨R, 2, none⟩ = some (.bool M.F) := fun z => cell_laid (keep_laid HR.out z.b) rfl
  have a0 : ∀ z : Ext V1, z.v.cell? ⟨A, 0, none⟩ = some (.int .i64 K) := fun z => cell_laid (keep_laid HA.out z.b) rfl
  have a1 : ∀ z : Ext V1, z.v.cell? ⟨A, 1, none⟩ = some (.int .i64 at_) := fun z => cell_laid (keep_laid HA.out z.b) rfl
  have a2 : ∀ z : Ext V1, z.v.cell? ⟨A, 2, none⟩ = some (.int .u64 0) := fun z => cell_laid (keep_laid HA.out z.b) rfl
  have a3 : ∀ z : Ext V1, z.v.cell? ⟨A, 3, none⟩ = some (.int .u64 ((new : Nat) : Int)) := fun z => cell_laid (keep_laid HA.out z.b) rfl
  clear hR hO hb1 hs1 hl1 hX hok hK
  go_enter Tryz.func113, Tryz.ntmps113
  go_upto_region 1 with (fail)
  go_cut [6, 7] (fun t6 t7 W => ∃ (Z G : Nat) (wa' : Option Addr) (wc' : Nat) (la' : Option Addr) (lc' : Nat), t6 = .pointer (some ⟨Z, 0, none⟩) ∧ t7 = .pointer (some ⟨G, 0, none⟩) ∧ Hid (W.heap[Z]? = some (.cells #[.slice wa' M'.W.length wc', .slice la' M'.L.length lc', .bool M'.F] 25 (0, 0)) ∧ W.heap[G]? = some (.cells #[.int .u64 ((x : Nat) : Int), .bool d] 111 (0, 0)) ∧ MemO B wa' wc' la' lc' M' W ∧ Below V1.heap.size V1 W))
  case first =>
    obtain ⟨D, hD⟩ : ∃ DX, V1.drew = DX := ⟨_, rfl⟩
    have hbD : Below V1.heap.size V1 D := by rw [← hD]; exact (Below.refl _ _).drew
    have HD := hid hD
    have HBW := hid hbD
    clear hD hbD
    refine wp_region_mix3 (fun W => ∃ z : Ext V1, W = z.v) 15 (.q 0 (.q 1 (.q 2 (.q 3 (.q 4 (.h3 5 (.q 6 (.q 7 (.q 8 (.q 9 (.h2 10 (.h 11 (.h 12 (.h 13 (.q 14 .done)))) 11 (.h 10 (.h 12 (.h 13 (.q 14 .done))))))))) 10 (.h2 5 (.q 6 (.q 7 (.q 8 (.q 9 (.h 11 (.h 12 (.h 13 (.q 14 .done)))))))) 11 (.h 5 (.q 6 (.q 7 (.q 8 (.q 9 (.h 12 (.h 13 (.q 14 .done))))))))) 11 (.h2 5 (.q 6 (.q 7 (.q 8 (.q 9 (.h 10 (.h 12 (.h 13 (.q 14 .done)))))))) 10 (.h 5 (.q 6 (.q 7 (.q 8 (.q 9 (.h 12 (.h 13 (.q 14 .done))))))))))))))) (by kernel_rfl) (by kernel_rfl) (by rw [HD.out]; exact ⟨⟨D, HBW.out⟩, rfl⟩) ?_
    rw [HD.out]
    repeat (refine wpMix3_q rfl rfl ?_; go_big_quiet_step (fail); refine wpQuiet_nil ?_)
    refine wpMix3_h3 ?_ ?_ ?_
    · skip
      refine wpMix3_h rfl fun R' hR' hO => ?_
      go_wp2_with fail
      refine (HST.out D HBW.out).mono ?_
      rintro e w05x ⟨wa', wc', la', lc', rfl, hoo, hbn⟩
      have hsz := HBW.out.size
      have HBW_1 := hid (HBW.out.trans (hbn.mono HBW.out.size))
      clear HBW hbn
      have HN_2 : Hid (MemO B wa' wc' la' lc' M' w05x) := hid (hoo.base (by omega))
      clear hoo hsz
      unfold memV
      go_wp2
      refine hR' _ _ ⟨⟨w05x, HBW_1.out⟩, rfl⟩ ?_
      clear hR' hO R'
      repeat (refine wpMix3_q rfl rfl ?_; go_big_quiet_step (fail); refine wpQuiet_nil ?_)
      refine wpMix3_h2 ?_ ?_
      · skip
        refine wpMix3_h rfl fun R' hR' hO => ?_
        obtain ⟨w110x, hww110x, hbn, hsn, hln⟩ := laid w05x #[.slice none 0 0, .slice none 0 0, .bool false] 25
        obtain ⟨Z, hB⟩ : ∃ X, w05x.heap.size = X := ⟨_, rfl⟩
        rw [hB] at hln
        have LZ := hid (show V1.heap.size ≤ Z from by have := (HBW_1.out).size; omega)
        have HBW_3 := hid (HBW_1.out.trans (hbn.mono HBW_1.out.size))
        have HN_4 := hid (HN_2.out.grow hbn)
        clear HBW_1 HN_2 hbn hsn
        have HZ_5 := hid (hln)
        clear hln
        go_wp2
        refine hR' _ _ ⟨⟨w110x, HBW_3.out⟩, rfl⟩ ?_
        clear hR' hO R'
        repeat (refine wpMix3_q rfl rfl ?_; go_big_quiet_step (fail); refine wpQuiet_nil ?_)
        refine wpMix3_h rfl fun R' hR' hO => ?_
        obtain ⟨w211x, hww211x, hbn, hsn, hln⟩ := laid w110x #[.int .u64 0, .bool false] 111
        obtain ⟨G, hB⟩ : ∃ X, w110x.heap.size = X := ⟨_, rfl⟩
        rw [hB] at hln
        have LG := hid (show V1.heap.size ≤ G from by have := (HBW_3.out).size; omega)
        have HNE := hid (show Z ≠ G from by have := lt_laid HZ_5.out; omega)
        have HBW_6 := hid (HBW_3.out.trans (hbn.mono HBW_3.out.size))
        have HN_7 := hid (HN_4.out.grow hbn)
        have HZ_8 := hid (keep_laid HZ_5.out hbn)
        clear HBW_3 HN_4 HZ_5 hbn hsn
        have HG_9 := hid (hln)
        clear hln
        go_wp2
        refine hR' _ _ ⟨⟨w211x, HBW_6.out⟩, rfl⟩ ?_
        clear hR' hO R'
        repeat (refine wpMix3_q rfl rfl ?_; go_big_quiet_step (fail); refine wpQuiet_nil ?_)
        obtain ⟨u1, hu1, b1, b2, b3, b4⟩ := put_mem HZ_8.out (.slice wa' M'.W.length wc') (.slice la' M'.L.length lc') (.bool M'.F)
        have z0 := cell_laid (i := 0) HZ_8.out rfl
        have zf0 := free_laid (i := 0) HZ_8.out
        have z1 := cell_laid (i := 1) HZ_8.out rfl
        have zf1 := free_laid (i := 1) HZ_8.out
        have z2 := cell_laid (i := 2) HZ_8.out rfl
        have zf2 := free_laid (i := 2) HZ_8.out
        have HU1 := hid hu1
        have HZ1 := hid b1
        have HG1 := hid (b2 _ _ (by have := HNE.out; omega) HG_9.out)
        have HB1 := hid (b3 _ _ LZ.out HBW_6.out)
        have HO1 := hid (b4 _ _ _ _ _ _ HN_7.out)
        clear hu1 b1 b2 b3 b4
        refine wpMix3_h rfl fun R' hR' hO => ?_
        go_wp2
        rw [← HU1.out]
        refine hR' _ _ ⟨⟨u1, HB1.out⟩, rfl⟩ ?_
        clear hR' hO R' z0 z1 z2 zf0 zf1 zf2
        obtain ⟨u2, hu2, b1, b2, b3, b4⟩ := put_got HG1.out (by decide) (by decide) (.int .u64 ((x : Nat) : Int)) (.bool d)
        have z0 := cell_laid (i := 0) HG1.out rfl
        have zf0 := free_laid (i := 0) HG1.out
        have z1 := cell_laid (i := 1) HG1.out rfl
        have zf1 := free_laid (i := 1) HG1.out
        have HU2 := hid hu2
        have RR : Hid (u2.heap[Z]? = some (.cells #[.slice wa' M'.W.length wc', .slice la' M'.L.length lc', .bool M'.F] 25 (0, 0)) ∧ u2.heap[G]? = some (.cells #[.int .u64 ((x : Nat) : Int), .bool d] 111 (0, 0)) ∧ MemO B wa' wc' la' lc' M' u2 ∧ Below V1.heap.size V1 u2) := hid ⟨b2 _ _ (by have := HNE.out; omega) HZ1.out, b1, b4 _ _ _ _ _ _ HO1.out, b3 _ _ LG.out HB1.out⟩
        clear hu2 b1 b2 b3 b4
        refine wpMix3_h rfl fun R' hR' hO => ?_
        go_wp2
        rw [← HU2.out]
        refine hR' _ _ ⟨⟨u2, RR.out.2.2.2⟩, rfl⟩ ?_
        clear hR' hO R' z0 z1 zf0 zf1
        repeat (refine wpMix3_q rfl rfl ?_; go_big_quiet_step (fail); refine wpQuiet_nil ?_)
        refine wpMix3_done ?_
        simp only [List.drop_succ_cons, List.drop_nil]
        go_wp2
        go_meet
        exact ⟨Z, G, wa', wc', la', lc', rfl, rfl, RR⟩
      · skip
        refine wpMix3_h rfl fun R' hR' hO => ?_
        obtain ⟨w111x, hww111x, hbn, hsn, hln⟩ := laid w05x #[.int .u64 0, .bool false] 111
        obtain ⟨G, hB⟩ : ∃ X, w05x.heap.size = X := ⟨_, rfl⟩
        rw [hB] at hln
        have LG := hid (show V1.heap.size ≤ G from by have := (HBW_1.out).size; omega)
        have HBW_3 := hid (HBW_1.out.trans (hbn.mono HBW_1.out.size))
        have HN_4 := hid (HN_2.out.grow hbn)
        clear HBW_1 HN_2 hbn hsn
        have HG_5 := hid (hln)
        clear hln
        go_wp2
        refine hR' _ _ ⟨⟨w111x, HBW_3.out⟩, rfl⟩ ?_
        clear hR' hO R'
        repeat (refine wpMix3_q rfl rfl ?_; go_big_quiet_step (fail); refine wpQuiet_nil ?_)
        refine wpMix3_h rfl fun R' hR' hO => ?_
        obtain ⟨w210x, hww210x, hbn, hsn, hln⟩ := laid w111x #[.slice none 0 0, .slice none 0 0, .bool false] 25
        obtain ⟨Z, hB⟩ : ∃ X, w111x.heap.size = X := ⟨_, rfl⟩
        rw [hB] at hln
        have LZ := hid (show V1.heap.size ≤ Z from by have := (HBW_3.out).size; omega)
        have HNE := hid (show Z ≠ G from by have := lt_laid HG_5.out; omega)
        have HBW_6 := hid (HBW_3.out.trans (hbn.mono HBW_3.out.size))
        have HN_7 := hid (HN_4.out.grow hbn)
        have HG_8 := hid (keep_laid HG_5.out hbn)
        clear HBW_3 HN_4 HG_5 hbn hsn
        have HZ_9 := hid (hln)
        clear hln
        go_wp2
        refine hR' _ _ ⟨⟨w210x, HBW_6.out⟩, rfl⟩ ?_
        clear hR' hO R'
        repeat (refine wpMix3_q rfl rfl ?_; go_big_quiet_step (fail); refine wpQuiet_nil ?_)
        obtain ⟨u1, hu1, b1, b2, b3, b4⟩ := put_mem HZ_9.out (.slice wa' M'.W.length wc') (.slice la' M'.L.length lc') (.bool M'.F)
        have z0 := cell_laid (i := 0) HZ_9.out rfl
        have zf0 := free_laid (i := 0) HZ_9.out
        have z1 := cell_laid (i := 1) HZ_9.out rfl
        have zf1 := free_laid (i := 1) HZ_9.out
        have z2 := cell_laid (i := 2) HZ_9.out rfl
        have zf2 := free_laid (i := 2) HZ_9.out
        have HU1 := hid hu1
        have HZ1 := hid b1
        have HG1 := hid (b2 _ _ (by have := HNE.out; omega) HG_8.out)
        have HB1 := hid (b3 _ _ LZ.out HBW_6.out)
        have HO1 := hid (b4 _ _ _ _ _ _ HN_7.out)
        clear hu1 b1 b2 b3 b4
        refine wpMix3_h rfl fun R' hR' hO => ?_
        go_wp2
        rw [← HU1.out]
        refine hR' _ _ ⟨⟨u1, HB1.out⟩, rfl⟩ ?_
        clear hR' hO R' z0 z1 z2 zf0 zf1 zf2
        obtain ⟨u2, hu2, b1, b2, b3, b4⟩ := put_got HG1.out (by decide) (by decide) (.int .u64 ((x : Nat) : Int)) (.bool d)
        have z0 := cell_laid (i := 0) HG1.out rfl
        have zf0 := free_laid (i := 0) HG1.out
        have z1 := cell_laid (i := 1) HG1.out rfl
        have zf1 := free_laid (i := 1) HG1.out
        have HU2 := hid hu2
        have RR : Hid (u2.heap[Z]? = some (.cells #[.slice wa' M'.W.length wc', .slice la' M'.L.length lc', .bool M'.F] 25 (0, 0)) ∧ u2.heap[G]? = some (.cells #[.int .u64 ((x : Nat) : Int), .bool d] 111 (0, 0)) ∧ MemO B wa' wc' la' lc' M' u2 ∧ Below V1.heap.size V1 u2) := hid ⟨b2 _ _ (by have := HNE.out; omega) HZ1.out, b1, b4 _ _ _ _ _ _ HO1.out, b3 _ _ LG.out HB1.out⟩
        clear hu2 b1 b2 b3 b4
        refine wpMix3_h rfl fun R' hR' hO => ?_
        go_wp2
        rw [← HU2.out]
        refine hR' _ _ ⟨⟨u2, RR.out.2.2.2⟩, rfl⟩ ?_
        clear hR' hO R' z0 z1 zf0 zf1
        repeat (refine wpMix3_q rfl rfl ?_; go_big_quiet_step (fail); refine wpQuiet_nil ?_)
        refine wpMix3_done ?_
        simp only [List.drop_succ_cons, List.drop_nil]
        go_wp2
        go_meet
        exact ⟨Z, G, wa', wc', la', lc', rfl, rfl, RR⟩
    · skip
      refine wpMix3_h rfl fun R' hR' hO => ?_
      obtain ⟨w010x, hww010x, hbn, hsn, hln⟩ := laid D #[.slice none 0 0, .slice none 0 0, .bool false] 25
      obtain ⟨Z, hB⟩ : ∃ X, D.heap.size = X := ⟨_, rfl⟩
      rw [hB] at hln
      have LZ := hid (show V1.heap.size ≤ Z from by have := (HBW.out).size; omega)
      have HBW_1 := hid (HBW.out.trans (hbn.mono HBW.out.size))
      clear HBW hbn hsn
      have HZ_2 := hid (hln)
      clear hln
      go_wp2
      refine hR' _ _ ⟨⟨w010x, HBW_1.out⟩, rfl⟩ ?_
      clear hR' hO R'
      repeat (refine wpMix3_q rfl rfl ?_; go_big_quiet_step (fail); refine wpQuiet_nil ?_)
      refine wpMix3_h2 ?_ ?_
      · skip
        refine wpMix3_h rfl fun R' hR' hO => ?_
        go_wp2_with fail
        refine (HST.out w010x HBW_1.out).mono ?_
        rintro e w15x ⟨wa', wc', la', lc', rfl, hoo, hbn⟩
        have hsz := HBW_1.out.size
        have HBW_3 := hid (HBW_1.out.trans (hbn.mono HBW_1.out.size))
        have HZ_4 := hid (keep_laid HZ_2.out hbn)
        clear HBW_1 HZ_2 hbn
        have HN_5 : Hid (MemO B wa' wc' la' lc' M' w15x) := hid (hoo.base (by omega))
        clear hoo hsz
        unfold memV
        go_wp2
        refine hR' _ _ ⟨⟨w15x, HBW_3.out⟩, rfl⟩ ?_
        clear hR' hO R'
        repeat (refine wpMix3_q rfl rfl ?_; go_big_quiet_step (fail); refine wpQuiet_nil ?_)
        refine wpMix3_h rfl fun R' hR' hO => ?_
        obtain ⟨w211x, hww211x, hbn, hsn, hln⟩ := laid w15x #[.int .u64 0, .bool false] 111
        obtain ⟨G, hB⟩ : ∃ X, w15x.heap.size = X := ⟨_, rfl⟩
        rw [hB] at hln
        have LG := hid (show V1.heap.size ≤ G from by have := (HBW_3.out).size; omega)
        have HNE := hid (show Z ≠ G from by have := lt_laid HZ_4.out; omega)
        have HBW_6 := hid (HBW_3.out.trans (hbn.mono HBW_3.out.size))
        have HZ_7 := hid (keep_laid HZ_4.out hbn)
        have HN_8 := hid (HN_5.out.grow hbn)
        clear HBW_3 HZ_4 HN_5 hbn hsn
        have HG_9 := hid (hln)
        clear hln
        go_wp2
        refine hR' _ _ ⟨⟨w211x, HBW_6.out⟩, rfl⟩ ?_
        clear hR' hO R'
        repeat (refine wpMix3_q rfl rfl ?_; go_big_quiet_step (fail); refine wpQuiet_nil ?_)
        obtain ⟨u1, hu1, b1, b2, b3, b4⟩ := put_mem HZ_7.out (.slice wa' M'.W.length wc') (.slice la' M'.L.length lc') (.bool M'.F)
        have z0 := cell_laid (i := 0) HZ_7.out rfl
        have zf0 := free_laid (i := 0) HZ_7.out
        have z1 := cell_laid (i := 1) HZ_7.out rfl
        have zf1 := free_laid (i := 1) HZ_7.out
        have z2 := cell_laid (i := 2) HZ_7.out rfl
        have zf2 := free_laid (i := 2) HZ_7.out
        have HU1 := hid hu1
        have HZ1 := hid b1
        have HG1 := hid (b2 _ _ (by have := HNE.out; omega) HG_9.out)
        have HB1 := hid (b3 _ _ LZ.out HBW_6.out)
        have HO1 := hid (b4 _ _ _ _ _ _ HN_8.out)
        clear hu1 b1 b2 b3 b4
        refine wpMix3_h rfl fun R' hR' hO => ?_
        go_wp2
        rw [← HU1.out]
        refine hR' _ _ ⟨⟨u1, HB1.out⟩, rfl⟩ ?_
        clear hR' hO R' z0 z1 z2 zf0 zf1 zf2
        obtain ⟨u2, hu2, b1, b2, b3, b4⟩ := put_got HG1.out (by decide) (by decide) (.int .u64 ((x : Nat) : Int)) (.bool d)
        have z0 := cell_laid (i := 0) HG1.out rfl
        have zf0 := free_laid (i := 0) HG1.out
        have z1 := cell_laid (i := 1) HG1.out rfl
        have zf1 := free_laid (i := 1) HG1.out
        have HU2 := hid hu2
        have RR : Hid (u2.heap[Z]? = some (.cells #[.slice wa' M'.W.length wc', .slice la' M'.L.length lc', .bool M'.F] 25 (0, 0)) ∧ u2.heap[G]? = some (.cells #[.int .u64 ((x : Nat) : Int), .bool d] 111 (0, 0)) ∧ MemO B wa' wc' la' lc' M' u2 ∧ Below V1.heap.size V1 u2) := hid ⟨b2 _ _ (by have := HNE.out; omega) HZ1.out, b1, b4 _ _ _ _ _ _ HO1.out, b3 _ _ LG.out HB1.out⟩
        clear hu2 b1 b2 b3 b4
        refine wpMix3_h rfl fun R' hR' hO => ?_
        go_wp2
        rw [← HU2.out]
        refine hR' _ _ ⟨⟨u2, RR.out.2.2.2⟩, rfl⟩ ?_
        clear hR' hO R' z0 z1 zf0 zf1
        repeat (refine wpMix3_q rfl rfl ?_; go_big_quiet_step (fail); refine wpQuiet_nil ?_)
        refine wpMix3_done ?_
        simp only [List.drop_succ_cons, List.drop_nil]
        go_wp2
        go_meet
        exact ⟨Z, G, wa', wc', la', lc', rfl, rfl, RR⟩
      · skip
        refine wpMix3_h rfl fun R' hR' hO => ?_
        obtain ⟨w111x, hww111x, hbn, hsn, hln⟩ := laid w010x #[.int .u64 0, .bool false] 111
        obtain ⟨G, hB⟩ : ∃ X, w010x.heap.size = X := ⟨_, rfl⟩
        rw [hB] at hln
        have LG := hid (show V1.heap.size ≤ G from by have := (HBW_1.out).size; omega)
        have HNE := hid (show Z ≠ G from by have := lt_laid HZ_2.out; omega)
        have HBW_3 := hid (HBW_1.out.trans (hbn.mono HBW_1.out.size))
        have HZ_4 := hid (keep_laid HZ_2.out hbn)
        clear HBW_1 HZ_2 hbn hsn
        have HG_5 := hid (hln)
        clear hln
        go_wp2
        refine hR' _ _ ⟨⟨w111x, HBW_3.out⟩, rfl⟩ ?_
        clear hR' hO R'
        repeat (refine wpMix3_q rfl rfl ?_; go_big_quiet_step (fail); refine wpQuiet_nil ?_)
        refine wpMix3_h rfl fun R' hR' hO => ?_
        go_wp2_with fail
        refine (HST.out w111x HBW_3.out).mono ?_
        rintro e w25x ⟨wa', wc', la', lc', rfl, hoo, hbn⟩
        have hsz := HBW_3.out.size
        have HBW_6 := hid (HBW_3.out.trans (hbn.mono HBW_3.out.size))
        have HZ_7 := hid (keep_laid HZ_4.out hbn)
        have HG_8 := hid (keep_laid HG_5.out hbn)
        clear HBW_3 HZ_4 HG_5 hbn
        have HN_9 : Hid (MemO B wa' wc' la' lc' M' w25x) := hid (hoo.base (by omega))
        clear hoo hsz
        unfold memV
        go_wp2
        refine hR' _ _ ⟨⟨w25x, HBW_6.out⟩, rfl⟩ ?_
        clear hR' hO R'
        repeat (refine wpMix3_q rfl rfl ?_; go_big_quiet_step (fail); refine wpQuiet_nil ?_)
        obtain ⟨u1, hu1, b1, b2, b3, b4⟩ := put_mem HZ_7.out (.slice wa' M'.W.length wc') (.slice la' M'.L.length lc') (.bool M'.F)
        have z0 := cell_laid (i := 0) HZ_7.out rfl
        have zf0 := free_laid (i := 0) HZ_7.out
        have z1 := cell_laid (i := 1) HZ_7.out rfl
        have zf1 := free_laid (i := 1) HZ_7.out
        have z2 := cell_laid (i := 2) HZ_7.out rfl
        have zf2 := free_laid (i := 2) HZ_7.out
        have HU1 := hid hu1
        have HZ1 := hid b1
        have HG1 := hid (b2 _ _ (by have := HNE.out; omega) HG_8.out)
        have HB1 := hid (b3 _ _ LZ.out HBW_6.out)
        have HO1 := hid (b4 _ _ _ _ _ _ HN_9.out)
        clear hu1 b1 b2 b3 b4
        refine wpMix3_h rfl fun R' hR' hO => ?_
        go_wp2
        rw [← HU1.out]
        refine hR' _ _ ⟨⟨u1, HB1.out⟩, rfl⟩ ?_
        clear hR' hO R' z0 z1 z2 zf0 zf1 zf2
        obtain ⟨u2, hu2, b1, b2, b3, b4⟩ := put_got HG1.out (by decide) (by decide) (.int .u64 ((x : Nat) : Int)) (.bool d)
        have z0 := cell_laid (i := 0) HG1.out rfl
        have zf0 := free_laid (i := 0) HG1.out
        have z1 := cell_laid (i := 1) HG1.out rfl
        have zf1 := free_laid (i := 1) HG1.out
        have HU2 := hid hu2
        have RR : Hid (u2.heap[Z]? = some (.cells #[.slice wa' M'.W.length wc', .slice la' M'.L.length lc', .bool M'.F] 25 (0, 0)) ∧ u2.heap[G]? = some (.cells #[.int .u64 ((x : Nat) : Int), .bool d] 111 (0, 0)) ∧ MemO B wa' wc' la' lc' M' u2 ∧ Below V1.heap.size V1 u2) := hid ⟨b2 _ _ (by have := HNE.out; omega) HZ1.out, b1, b4 _ _ _ _ _ _ HO1.out, b3 _ _ LG.out HB1.out⟩
        clear hu2 b1 b2 b3 b4
        refine wpMix3_h rfl fun R' hR' hO => ?_
        go_wp2
        rw [← HU2.out]
        refine hR' _ _ ⟨⟨u2, RR.out.2.2.2⟩, rfl⟩ ?_
        clear hR' hO R' z0 z1 zf0 zf1
        repeat (refine wpMix3_q rfl rfl ?_; go_big_quiet_step (fail); refine wpQuiet_nil ?_)
        refine wpMix3_done ?_
        simp only [List.drop_succ_cons, List.drop_nil]
        go_wp2
        go_meet
        exact ⟨Z, G, wa', wc', la', lc', rfl, rfl, RR⟩
    · skip
      refine wpMix3_h rfl fun R' hR' hO => ?_
      obtain ⟨w011x, hww011x, hbn, hsn, hln⟩ := laid D #[.int .u64 0, .bool false] 111
      obtain ⟨G, hB⟩ : ∃ X, D.heap.size = X := ⟨_, rfl⟩
      rw [hB] at hln
      have LG := hid (show V1.heap.size ≤ G from by have := (HBW.out).size; omega)
      have HBW_1 := hid (HBW.out.trans (hbn.mono HBW.out.size))
      clear HBW hbn hsn
      have HG_2 := hid (hln)
      clear hln
      go_wp2
      refine hR' _ _ ⟨⟨w011x, HBW_1.out⟩, rfl⟩ ?_
      clear hR' hO R'
      repeat (refine wpMix3_q rfl rfl ?_; go_big_quiet_step (fail); refine wpQuiet_nil ?_)
      refine wpMix3_h2 ?_ ?_
      · skip
        refine wpMix3_h rfl fun R' hR' hO => ?_
        go_wp2_with fail
        refine (HST.out w011x HBW_1.out).mono ?_
        rintro e w15x ⟨wa', wc', la', lc', rfl, hoo, hbn⟩
        have hsz := HBW_1.out.size
        have HBW_3 := hid (HBW_1.out.trans (hbn.mono HBW_1.out.size))
        have HG_4 := hid (keep_laid HG_2.out hbn)
        clear HBW_1 HG_2 hbn
        have HN_5 : Hid (MemO B wa' wc' la' lc' M' w15x) := hid (hoo.base (by omega))
        clear hoo hsz
        unfold memV
        go_wp2
        refine hR' _ _ ⟨⟨w15x, HBW_3.out⟩, rfl⟩ ?_
        clear hR' hO R'
        repeat (refine wpMix3_q rfl rfl ?_; go_big_quiet_step (fail); refine wpQuiet_nil ?_)
        refine wpMix3_h rfl fun R' hR' hO => ?_
        obtain ⟨w210x, hww210x, hbn, hsn, hln⟩ := laid w15x #[.slice none 0 0, .slice none 0 0, .bool false] 25
        obtain ⟨Z, hB⟩ : ∃ X, w15x.heap.size = X := ⟨_, rfl⟩
        rw [hB] at hln
        have LZ := hid (show V1.heap.size ≤ Z from by have := (HBW_3.out).size; omega)
        have HNE := hid (show Z ≠ G from by have := lt_laid HG_4.out; omega)
        have HBW_6 := hid (HBW_3.out.trans (hbn.mono HBW_3.out.size))
        have HG_7 := hid (keep_laid HG_4.out hbn)
        have HN_8 := hid (HN_5.out.grow hbn)
        clear HBW_3 HG_4 HN_5 hbn hsn
        have HZ_9 := hid (hln)
        clear hln
        go_wp2
        refine hR' _ _ ⟨⟨w210x, HBW_6.out⟩, rfl⟩ ?_
        clear hR' hO R'
        repeat (refine wpMix3_q rfl rfl ?_; go_big_quiet_step (fail); refine wpQuiet_nil ?_)
        obtain ⟨u1, hu1, b1, b2, b3, b4⟩ := put_mem HZ_9.out (.slice wa' M'.W.length wc') (.slice la' M'.L.length lc') (.bool M'.F)
        have z0 := cell_laid (i := 0) HZ_9.out rfl
        have zf0 := free_laid (i := 0) HZ_9.out
        have z1 := cell_laid (i := 1) HZ_9.out rfl
        have zf1 := free_laid (i := 1) HZ_9.out
        have z2 := cell_laid (i := 2) HZ_9.out rfl
        have zf2 := free_laid (i := 2) HZ_9.out
        have HU1 := hid hu1
        have HZ1 := hid b1
        have HG1 := hid (b2 _ _ (by have := HNE.out; omega) HG_7.out)
        have HB1 := hid (b3 _ _ LZ.out HBW_6.out)
        have HO1 := hid (b4 _ _ _ _ _ _ HN_8.out)
        clear hu1 b1 b2 b3 b4
        refine wpMix3_h rfl fun R' hR' hO => ?_
        go_wp2
        rw [← HU1.out]
        refine hR' _ _ ⟨⟨u1, HB1.out⟩, rfl⟩ ?_
        clear hR' hO R' z0 z1 z2 zf0 zf1 zf2
        obtain ⟨u2, hu2, b1, b2, b3, b4⟩ := put_got HG1.out (by decide) (by decide) (.int .u64 ((x : Nat) : Int)) (.bool d)
        have z0 := cell_laid (i := 0) HG1.out rfl
        have zf0 := free_laid (i := 0) HG1.out
        have z1 := cell_laid (i := 1) HG1.out rfl
        have zf1 := free_laid (i := 1) HG1.out
        have HU2 := hid hu2
        have RR : Hid (u2.heap[Z]? = some (.cells #[.slice wa' M'.W.length wc', .slice la' M'.L.length lc', .bool M'.F] 25 (0, 0)) ∧ u2.heap[G]? = some (.cells #[.int .u64 ((x : Nat) : Int), .bool d] 111 (0, 0)) ∧ MemO B wa' wc' la' lc' M' u2 ∧ Below V1.heap.size V1 u2) := hid ⟨b2 _ _ (by have := HNE.out; omega) HZ1.out, b1, b4 _ _ _ _ _ _ HO1.out, b3 _ _ LG.out HB1.out⟩
        clear hu2 b1 b2 b3 b4
        refine wpMix3_h rfl fun R' hR' hO => ?_
        go_wp2
        rw [← HU2.out]
        refine hR' _ _ ⟨⟨u2, RR.out.2.2.2⟩, rfl⟩ ?_
        clear hR' hO R' z0 z1 zf0 zf1
        repeat (refine wpMix3_q rfl rfl ?_; go_big_quiet_step (fail); refine wpQuiet_nil ?_)
        refine wpMix3_done ?_
        simp only [List.drop_succ_cons, List.drop_nil]
        go_wp2
        go_meet
        exact ⟨Z, G, wa', wc', la', lc', rfl, rfl, RR⟩
      · skip
        refine wpMix3_h rfl fun R' hR' hO => ?_
        obtain ⟨w110x, hww110x, hbn, hsn, hln⟩ := laid w011x #[.slice none 0 0, .slice none 0 0, .bool false] 25
        obtain ⟨Z, hB⟩ : ∃ X, w011x.heap.size = X := ⟨_, rfl⟩
        rw [hB] at hln
        have LZ := hid (show V1.heap.size ≤ Z from by have := (HBW_1.out).size; omega)
        have HNE := hid (show Z ≠ G from by have := lt_laid HG_2.out; omega)
        have HBW_3 := hid (HBW_1.out.trans (hbn.mono HBW_1.out.size))
        have HG_4 := hid (keep_laid HG_2.out hbn)
        clear HBW_1 HG_2 hbn hsn
        have HZ_5 := hid (hln)
        clear hln
        go_wp2
        refine hR' _ _ ⟨⟨w110x, HBW_3.out⟩, rfl⟩ ?_
        clear hR' hO R'
        repeat (refine wpMix3_q rfl rfl ?_; go_big_quiet_step (fail); refine wpQuiet_nil ?_)
        refine wpMix3_h rfl fun R' hR' hO => ?_
        go_wp2_with fail
        refine (HST.out w110x HBW_3.out).mono ?_
        rintro e w25x ⟨wa', wc', la', lc', rfl, hoo, hbn⟩
        have hsz := HBW_3.out.size
        have HBW_6 := hid (HBW_3.out.trans (hbn.mono HBW_3.out.size))
        have HG_7 := hid (keep_laid HG_4.out hbn)
        have HZ_8 := hid (keep_laid HZ_5.out hbn)
        clear HBW_3 HG_4 HZ_5 hbn
        have HN_9 : Hid (MemO B wa' wc' la' lc' M' w25x) := hid (hoo.base (by omega))
        clear hoo hsz
        unfold memV
        go_wp2
        refine hR' _ _ ⟨⟨w25x, HBW_6.out⟩, rfl⟩ ?_
        clear hR' hO R'
        repeat (refine wpMix3_q rfl rfl ?_; go_big_quiet_step (fail); refine wpQuiet_nil ?_)
        obtain ⟨u1, hu1, b1, b2, b3, b4⟩ := put_mem HZ_8.out (.slice wa' M'.W.length wc') (.slice la' M'.L.length lc') (.bool M'.F)
        have z0 := cell_laid (i := 0) HZ_8.out rfl
        have zf0 := free_laid (i := 0) HZ_8.out
        have z1 := cell_laid (i := 1) HZ_8.out rfl
        have zf1 := free_laid (i := 1) HZ_8.out
        have z2 := cell_laid (i := 2) HZ_8.out rfl
        have zf2 := free_laid (i := 2) HZ_8.out
        have HU1 := hid hu1
        have HZ1 := hid b1
        have HG1 := hid (b2 _ _ (by have := HNE.out; omega) HG_7.out)
        have HB1 := hid (b3 _ _ LZ.out HBW_6.out)
        have HO1 := hid (b4 _ _ _ _ _ _ HN_9.out)
        clear hu1 b1 b2 b3 b4
        refine wpMix3_h rfl fun R' hR' hO => ?_
        go_wp2
        rw [← HU1.out]
        refine hR' _ _ ⟨⟨u1, HB1.out⟩, rfl⟩ ?_
        clear hR' hO R' z0 z1 z2 zf0 zf1 zf2
        obtain ⟨u2, hu2, b1, b2, b3, b4⟩ := put_got HG1.out (by decide) (by decide) (.int .u64 ((x : Nat) : Int)) (.bool d)
        have z0 := cell_laid (i := 0) HG1.out rfl
        have zf0 := free_laid (i := 0) HG1.out
        have z1 := cell_laid (i := 1) HG1.out rfl
        have zf1 := free_laid (i := 1) HG1.out
        have HU2 := hid hu2
        have RR : Hid (u2.heap[Z]? = some (.cells #[.slice wa' M'.W.length wc', .slice la' M'.L.length lc', .bool M'.F] 25 (0, 0)) ∧ u2.heap[G]? = some (.cells #[.int .u64 ((x : Nat) : Int), .bool d] 111 (0, 0)) ∧ MemO B wa' wc' la' lc' M' u2 ∧ Below V1.heap.size V1 u2) := hid ⟨b2 _ _ (by have := HNE.out; omega) HZ1.out, b1, b4 _ _ _ _ _ _ HO1.out, b3 _ _ LG.out HB1.out⟩
        clear hu2 b1 b2 b3 b4
        refine wpMix3_h rfl fun R' hR' hO => ?_
        go_wp2
        rw [← HU2.out]
        refine hR' _ _ ⟨⟨u2, RR.out.2.2.2⟩, rfl⟩ ?_
        clear hR' hO R' z0 z1 zf0 zf1
        repeat (refine wpMix3_q rfl rfl ?_; go_big_quiet_step (fail); refine wpQuiet_nil ?_)
        refine wpMix3_done ?_
        simp only [List.drop_succ_cons, List.drop_nil]
        go_wp2
        go_meet
        exact ⟨Z, G, wa', wc', la', lc', rfl, rfl, RR⟩
  case rest =>
    obtain ⟨Z, G, wa', wc', la', lc', rfl, rfl, hcc⟩ := hcut
    obtain ⟨w1, hw1⟩ : ∃ W, W = wc := ⟨_, rfl⟩
    subst hw1
    have HZ := hid hcc.out.1
    have HG := hid hcc.out.2.1
    have HN := hid hcc.out.2.2.1
    have HB := hid hcc.out.2.2.2
    have HRR := hid (keep_laid HR.out HB.out)
    clear hcc
    have hZA : A < Z ∨ Z = A ∨ Z < A := by omega
    have nRZ : R ≠ Z := type_ne HRR.out HZ.out (by decide)
    have nZR : Z ≠ R := Ne.symm nRZ
    have nRG : R ≠ G := type_ne HRR.out HG.out (by decide)
    have nGR : G ≠ R := Ne.symm nRG
    clear hZA
    obtain ⟨z0, z1, z2⟩ := cells3 HZ.out
    have q0 := cell_laid (i := 0) HRR.out rfl
    have qf0 := free_laid (i := 0) HRR.out
    have q1 := cell_laid (i := 1) HRR.out rfl
    have qf1 := free_laid (i := 1) HRR.out
    have q2 := cell_laid (i := 2) HRR.out rfl
    have qf2 := free_laid (i := 2) HRR.out
    have q3 := cell_laid (i := 3) HRR.out rfl
    have qf3 := free_laid (i := 3) HRR.out
    have k0 := set_laid (i := 0) HRR.out (.slice wa' M'.W.length wc')
    have k1 := set_laid (i := 1) k0 (.slice la' M'.L.length lc')
    have k2 := set_laid (i := 2) k1 (.bool M'.F)
    have k3 := set_laid (i := 3) k2 (.int .i64 ((n + 1 : Nat) : Int))
    have HM3 := hid ((((HN.out.set HRR.out (by decide) (by decide) _).set k0 (by decide) (by decide) _).set k1 (by decide) (by decide) _).set (i := 3) k2 (by decide) (by decide) (.int .i64 ((n + 1 : Nat) : Int)))
    have HG3 := hid (other_laid (i := 3) (other_laid (i := 2) (other_laid (i := 1) (other_laid (i := 0) HG.out nGR (.slice wa' M'.W.length wc')) nGR (.slice la' M'.L.length lc')) nGR (.bool M'.F)) nGR (.int .i64 ((n + 1 : Nat) : Int)))
    have HT3 : Hid (Tch (fun k => k = R) V ((((w1.setCell ⟨R, 0, none⟩ (.slice wa' M'.W.length wc')).setCell ⟨R, 1, none⟩ (.slice la' M'.L.length lc')).setCell ⟨R, 2, none⟩ (.bool M'.F)).setCell ⟨R, 3, none⟩ (.int .i64 ((n + 1 : Nat) : Int)))) := hid ((HT1.out.trans (Tch.of_below HB.out)).trans ((((Tch.set (P := fun k => k = R) rfl _).trans (Tch.set (P := fun k => k = R) rfl _)).trans (Tch.set (P := fun k => k = R) rfl _)).trans (Tch.set (P := fun k => k = R) rfl _)))
    obtain ⟨w2, hw2⟩ : ∃ W, (((w1.setCell ⟨R, 0, none⟩ (.slice wa' M'.W.length wc')).setCell ⟨R, 1, none⟩ (.slice la' M'.L.length lc')).setCell ⟨R, 2, none⟩ (.bool M'.F)).setCell ⟨R, 3, none⟩ (.int .i64 ((n + 1 : Nat) : Int)) = W := ⟨_, rfl⟩
    rw [hw2] at k3 HM3 HG3 HT3
    have K3 := hid k3
    have HW2 := hid hw2
    clear k0 k1 k2 k3 hw2
    go_upto_region 4 with (fail)
    rw [show (((n : Nat) : Int) + 1) = ((n + 1 : Nat) : Int) from rfl, HW2.out]
    obtain ⟨D, hD⟩ : ∃ DX, w2.drew = DX := ⟨_, rfl⟩
    have hbD : Below w2.heap.size w2 D := by rw [← hD]; exact (Below.refl _ _).drew
    have HD := hid hD
    have HKD := hid (keep_laid K3.out hbD)
    have HGD := hid (keep_laid HG3.out hbD)
    have HMD := hid (HM3.out.grow hbD)
    have HTD := hid (HT3.out.trans (Tch.of_below hbD))
    have s0 : ∀ z : Ext D, z.v.cell? ⟨G, 0, none⟩ = some (.int .u64 ((x : Nat) : Int)) := fun z => cell_laid (keep_laid HGD.out z.b) rfl
    have s1 : ∀ z : Ext D, z.v.cell? ⟨G, 1, none⟩ = some (.bool d) := fun z => cell_laid (keep_laid HGD.out z.b) rfl
    clear hD hbD
    refine wp_region_mix2 (fun W => ∃ z : Ext D, W = z.v) 6 (.q 0 (.q 1 (.q 2 (.q 3 (.q 4 (.q 5 .done)))))) (by kernel_rfl) (by kernel_rfl) (by rw [HD.out]; exact ⟨⟨D, Below.refl _ _⟩, rfl⟩) ?_
    rw [HD.out]
    repeat (refine wpMix2_q rfl rfl ?_; go_big_quiet_step (fail); refine wpQuiet_nil ?_)
    refine wpMix2_done ?_
    simp only [List.drop_succ_cons, List.drop_nil]
    go_wp2
    go_ret2
    exact ⟨rfl, ⟨wa', wc', la', lc', HKD.out, HMD.out⟩, HTD.out⟩
end Go.Proofs.YtahicokokfcieaaGreatDoor
