/- Lists (printed by gen_ls6.py): who seeks. -/
import Derived.Test.YtipohagcppfgiaaGreatLs5
namespace Go.Proofs.YtipohagcppfgiaaGreat
open Go.RowKit
open Go.Proofs
set_option linter.unusedVariables false
attribute [local go_sem] Oper.semAt_some
/-- Only these blocks are written; new ones may come. -/
structure Tch (P : Nat → Prop) (V W : World) : Prop where
 os : W.os = V.os
 tape : W.tape = V.tape
 output : W.output = V.output
 size : V.heap.size ≤ W.heap.size
 block : ∀ k, k < V.heap.size → ¬ P k → W.heap[k]? = V.heap[k]?
theorem Tch.keep {P : Nat → Prop} {V W : World} (h : Tch P V W) {k : Nat} {o : Obj} (ho : V.heap[k]? = some o) (hk : ¬ P k) : W.heap[k]? = some o := (h.block k (llD ho) hk).trans ho
theorem Tch.below {P : Nat → Prop} {V W : World} {B : Nat} (h : Tch P V W) (hP : ∀ k, P k → B ≤ k) (hB : B ≤ V.heap.size) : Below B V W :=
 ⟨h.os, h.tape, h.output, h.size, fun k hk => h.block k (Nat.lt_of_lt_of_le hk hB) (fun hp => absurd (hP k hp) (by omega))⟩
theorem Tch.of_below {P : Nat → Prop} {V W : World} (h : Below V.heap.size V W) : Tch P V W := ⟨h.os, h.tape, h.output, h.size, fun k hk _ => h.block k hk⟩
theorem Tch.trans {P : Nat → Prop} {A B C : World} (h : Tch P A B) (k : Tch P B C) : Tch P A C :=
 ⟨k.os.trans h.os, k.tape.trans h.tape, k.output.trans h.output, Nat.le_trans h.size k.size, fun b hb hp => (k.block b (Nat.lt_of_lt_of_le hb h.size) hp).trans (h.block b hb hp)⟩
theorem Tch.mono {P Q : Nat → Prop} {V W : World} (h : Tch P V W) (hq : ∀ k, P k → Q k) : Tch Q V W := ⟨h.os, h.tape, h.output, h.size, fun k hk hn => h.block k hk (fun hp => hn (hq k hp))⟩
theorem Tch.set {P : Nat → Prop} {V : World} {b i : Nat} (hP : P b) (v : Value) : Tch P V (V.setCell ⟨b, i, none⟩ v) :=
 ⟨rfl, rfl, rfl, by simp [World.setCell], fun k hk hn => Below.heap_setCell V ⟨b, i, none⟩ v k (fun e => hn (by subst e; exact hP))⟩
theorem Tch.refl (P : Nat → Prop) (V : World) : Tch P V V := ⟨rfl, rfl, rfl, Nat.le_refl _, fun _ _ _ => rfl⟩
/-- Who seeks. -/
structure Sk where
 ph : Int
 hash : Nat
 key : Nat
 link : Nat
 node : Nat
 val : Nat
 found : Bool
structure Sk.Ok (s : Sk) : Prop where
 ph : -9223372036854775808 ≤ s.ph ∧ s.ph ≤ 9223372036854775807
 hash : s.hash < 18446744073709551616
 key : s.key < 18446744073709551616
 link : s.link < 18446744073709551616
 node : s.node < 18446744073709551616
 val : s.val < 18446744073709551616
abbrev sk7 (s : Sk) : Array Value := #[.int .i64 s.ph, .int .u64 s.hash, .int .u64 s.key, .int .u64 s.link, .int .u64 s.node, .int .u64 s.val, .bool s.found]
def skV (s : Sk) : Value := .agg #[.int .i64 s.ph, .int .u64 s.hash, .int .u64 s.key, .int .u64 s.link, .int .u64 s.node, .int .u64 s.val, .bool s.found]
def needS (s : Sk) : Nat → Nat
 | 0 => posL s.link 0
 | 1 => posL s.node 3
 | 2 => posL s.node 0
 | _ => posL s.node 1
def cmpS (s : Sk) (n want : Nat) (ph : Int) : Sk := if n < want then { s with ph := 0, link := (s.node + 2) % 18446744073709551616 } else if want < n then { s with ph := 4 } else { s with ph := ph }
def thenS (s : Sk) (n : Nat) : Nat → Sk
 | 0 => { s with node := n, ph := if n = 0 then 4 else 1 }
 | 1 => cmpS s n s.hash 2
 | 2 => cmpS s n s.key 3
 | _ => { s with val := n, found := true, ph := 4 }
set_option maxRecDepth 100000 in
theorem need0_any (s : Sk) (V : World) (hs : s.Ok) : Calls Tryz.prog 85 #[skV s] V (Ret (.int .i64 ((posL s.link 0 : Nat) : Int)) V) := by
 obtain ⟨V1, hV1, hb1, hs1, hl1⟩ := laid V #[.int .i64 s.ph, .int .u64 s.hash, .int .u64 s.key, .int .u64 s.link, .int .u64 s.node, .int .u64 s.val, .bool s.found] 46
 have c : V1.cell? ⟨V.heap.size, 3, none⟩ = some (.int .u64 s.link) := clD hl1 rfl
 have HA := hid (at_any s.link 0 V1 hs.link (by decide))
 have HB1 := hid hb1
 unfold skV
 clear hb1 hs1 hl1
 go_enter Tryz.func85, Tryz.ntmps85
 go_wp2_with fail
 refine HA.out.mono ?_
 rintro e w ⟨rfl, hw⟩
 subst hw
 go_wp2
 go_ret
 exact ⟨rfl, HB1.out⟩
set_option maxRecDepth 100000 in
theorem need1_any (s : Sk) (V : World) (hs : s.Ok) : Calls Tryz.prog 88 #[skV s] V (Ret (.int .i64 ((posL s.node 3 : Nat) : Int)) V) := by
 obtain ⟨V1, hV1, hb1, hs1, hl1⟩ := laid V #[.int .i64 s.ph, .int .u64 s.hash, .int .u64 s.key, .int .u64 s.link, .int .u64 s.node, .int .u64 s.val, .bool s.found] 46
 have c : V1.cell? ⟨V.heap.size, 4, none⟩ = some (.int .u64 s.node) := clD hl1 rfl
 have HA := hid (at_any s.node 3 V1 hs.node (by decide))
 have HB1 := hid hb1
 unfold skV
 clear hb1 hs1 hl1
 go_enter Tryz.func88, Tryz.ntmps88
 go_wp2_with fail
 refine HA.out.mono ?_
 rintro e w ⟨rfl, hw⟩
 subst hw
 go_wp2
 go_ret
 exact ⟨rfl, HB1.out⟩
set_option maxRecDepth 100000 in
theorem need2_any (s : Sk) (V : World) (hs : s.Ok) : Calls Tryz.prog 91 #[skV s] V (Ret (.int .i64 ((posL s.node 0 : Nat) : Int)) V) := by
 obtain ⟨V1, hV1, hb1, hs1, hl1⟩ := laid V #[.int .i64 s.ph, .int .u64 s.hash, .int .u64 s.key, .int .u64 s.link, .int .u64 s.node, .int .u64 s.val, .bool s.found] 46
 have c : V1.cell? ⟨V.heap.size, 4, none⟩ = some (.int .u64 s.node) := clD hl1 rfl
 have HA := hid (at_any s.node 0 V1 hs.node (by decide))
 have HB1 := hid hb1
 unfold skV
 clear hb1 hs1 hl1
 go_enter Tryz.func91, Tryz.ntmps91
 go_wp2_with fail
 refine HA.out.mono ?_
 rintro e w ⟨rfl, hw⟩
 subst hw
 go_wp2
 go_ret
 exact ⟨rfl, HB1.out⟩
set_option maxRecDepth 100000 in
theorem need3_any (s : Sk) (V : World) (hs : s.Ok) : Calls Tryz.prog 93 #[skV s] V (Ret (.int .i64 ((posL s.node 1 : Nat) : Int)) V) := by
 obtain ⟨V1, hV1, hb1, hs1, hl1⟩ := laid V #[.int .i64 s.ph, .int .u64 s.hash, .int .u64 s.key, .int .u64 s.link, .int .u64 s.node, .int .u64 s.val, .bool s.found] 46
 have c : V1.cell? ⟨V.heap.size, 4, none⟩ = some (.int .u64 s.node) := clD hl1 rfl
 have HA := hid (at_any s.node 1 V1 hs.node (by decide))
 have HB1 := hid hb1
 unfold skV
 clear hb1 hs1 hl1
 go_enter Tryz.func93, Tryz.ntmps93
 go_wp2_with fail
 refine HA.out.mono ?_
 rintro e w ⟨rfl, hw⟩
 subst hw
 go_wp2
 go_ret
 exact ⟨rfl, HB1.out⟩
/-- What a phase leaves of who seeks. -/
def GivesT (S : Nat) (s : Sk) (V : World) (e : Ending) (W : World) : Prop := e = .returned (.tuple #[]) ∧ Tch (fun k => k = S) V W ∧ W.heap[S]? = some (.cells (sk7 s) 46 (0, 0))
set_option maxRecDepth 100000 in
theorem cmp_any (s : Sk) (S n want : Nat) (p : Int) (V : World) (h : V.heap[S]? = some (.cells (sk7 s) 46 (0, 0))) (hs : s.Ok) :
  Calls Tryz.prog 90 #[.pointer (some ⟨S, 0, none⟩), .int .u64 n, .int .u64 want, .int .i64 p] V (GivesT S (cmpS s n want p) V) := by
 have k0 : V.cell? ⟨S, 0, none⟩ = some (.int .i64 s.ph) := clD h rfl
 have kf0 := flD (i := 0) h
 have k1 : V.cell? ⟨S, 1, none⟩ = some (.int .u64 s.hash) := clD h rfl
 have kf1 := flD (i := 1) h
 have k2 : V.cell? ⟨S, 2, none⟩ = some (.int .u64 s.key) := clD h rfl
 have kf2 := flD (i := 2) h
 have k3 : V.cell? ⟨S, 3, none⟩ = some (.int .u64 s.link) := clD h rfl
 have kf3 := flD (i := 3) h
 have k4 : V.cell? ⟨S, 4, none⟩ = some (.int .u64 s.node) := clD h rfl
 have kf4 := flD (i := 4) h
 have k5 : V.cell? ⟨S, 5, none⟩ = some (.int .u64 s.val) := clD h rfl
 have kf5 := flD (i := 5) h
 have k6 : V.cell? ⟨S, 6, none⟩ = some (.bool s.found) := clD h rfl
 have kf6 := flD (i := 6) h
 have H := hid h
 have hnd := hs.node
 have hadd : IntKind.u64.wrap (((s.node : Nat) : Int) + 2) = (((s.node + 2) % 18446744073709551616 : Nat) : Int) := by rw [IntKind.wrap_u64]; omega
 clear h
 go_enter Tryz.func90, Tryz.ntmps90
 by_cases c1 : n < want
 ·have t1 : decide (n < want) = true := decide_eq_true c1
  have HE : Hid (cmpS s n want p = { s with ph := 0, link := (s.node + 2) % 18446744073709551616 }) := hid (by unfold cmpS; rw [if_pos c1])
  clear c1
  go_wp2
  go_end0
  rw [HE.out]
  refine ⟨rfl, (Tch.set (P := fun k => k = S) rfl _).trans (Tch.set (P := fun k => k = S) rfl _), ?_⟩
  have := slD (i := 3) (slD (i := 0) H.out (.int .i64 0)) (.int .u64 (((s.node + 2) % 18446744073709551616 : Nat) : Int))
  first | exact this | (rw [hadd]; exact this) | (simpa [hadd] using this)
 ·have t1 : decide (n < want) = false := decide_eq_false c1
  by_cases c2 : want < n
  ·have t2 : decide (want < n) = true := decide_eq_true c2
   have HE : Hid (cmpS s n want p = { s with ph := 4 }) := hid (by unfold cmpS; rw [if_neg c1, if_pos c2])
   clear c1 c2
   go_wp2
   go_end0
   rw [HE.out]
   exact ⟨rfl, Tch.set (P := fun k => k = S) rfl _, slD (i := 0) H.out (.int .i64 4)⟩
  ·have t2 : decide (want < n) = false := decide_eq_false c2
   have HE : Hid (cmpS s n want p = { s with ph := p }) := hid (by unfold cmpS; rw [if_neg c1, if_neg c2])
   clear c1 c2
   go_wp2
   go_end0
   rw [HE.out]
   exact ⟨rfl, Tch.set (P := fun k => k = S) rfl _, slD (i := 0) H.out (.int .i64 p)⟩
set_option maxRecDepth 100000 in
theorem then1_any (s : Sk) (S n : Nat) (V : World) (h : V.heap[S]? = some (.cells (sk7 s) 46 (0, 0))) (hs : s.Ok) :
  Calls Tryz.prog 89 #[.pointer (some ⟨S, 0, none⟩), .int .u64 n] V (GivesT S (thenS s n 1) V) := by
 have c : V.cell? ⟨S, 1, none⟩ = some (.int .u64 s.hash) := clD h rfl
 have HC := hid (cmp_any s S n s.hash 2 V h hs)
 clear h
 go_enter Tryz.func89, Tryz.ntmps89
 go_wp2_with fail
 refine HC.out.mono ?_
 rintro e W ⟨rfl, h1, h2⟩
 have H1 := hid h1
 have H2 := hid h2
 clear h1 h2
 go_wp2
 go_end0
 exact ⟨rfl, H1.out, H2.out⟩
set_option maxRecDepth 100000 in
theorem then2_any (s : Sk) (S n : Nat) (V : World) (h : V.heap[S]? = some (.cells (sk7 s) 46 (0, 0))) (hs : s.Ok) :
  Calls Tryz.prog 92 #[.pointer (some ⟨S, 0, none⟩), .int .u64 n] V (GivesT S (thenS s n 2) V) := by
 have c : V.cell? ⟨S, 2, none⟩ = some (.int .u64 s.key) := clD h rfl
 have HC := hid (cmp_any s S n s.key 3 V h hs)
 clear h
 go_enter Tryz.func92, Tryz.ntmps92
 go_wp2_with fail
 refine HC.out.mono ?_
 rintro e W ⟨rfl, h1, h2⟩
 have H1 := hid h1
 have H2 := hid h2
 clear h1 h2
 go_wp2
 go_end0
 exact ⟨rfl, H1.out, H2.out⟩
set_option maxRecDepth 100000 in
theorem then0_any (s : Sk) (S n : Nat) (V : World) (h : V.heap[S]? = some (.cells (sk7 s) 46 (0, 0))) (hs : s.Ok) :
  Calls Tryz.prog 87 #[.pointer (some ⟨S, 0, none⟩), .int .u64 n] V (GivesT S (thenS s n 0) V) := by
 have k0 : V.cell? ⟨S, 0, none⟩ = some (.int .i64 s.ph) := clD h rfl
 have kf0 := flD (i := 0) h
 have k1 : V.cell? ⟨S, 1, none⟩ = some (.int .u64 s.hash) := clD h rfl
 have kf1 := flD (i := 1) h
 have k2 : V.cell? ⟨S, 2, none⟩ = some (.int .u64 s.key) := clD h rfl
 have kf2 := flD (i := 2) h
 have k3 : V.cell? ⟨S, 3, none⟩ = some (.int .u64 s.link) := clD h rfl
 have kf3 := flD (i := 3) h
 have k4 : V.cell? ⟨S, 4, none⟩ = some (.int .u64 s.node) := clD h rfl
 have kf4 := flD (i := 4) h
 have k5 : V.cell? ⟨S, 5, none⟩ = some (.int .u64 s.val) := clD h rfl
 have kf5 := flD (i := 5) h
 have k6 : V.cell? ⟨S, 6, none⟩ = some (.bool s.found) := clD h rfl
 have kf6 := flD (i := 6) h
 have H := hid h
 clear h
 go_enter Tryz.func87, Tryz.ntmps87
 by_cases h0 : n = 0
 ·have t0 : (((n : Nat) : Int) == 0) = true := by simp; omega
  have HE : Hid (thenS s n 0 = { s with node := n, ph := 4 }) := hid (by show ({ s with node := n, ph := if n = 0 then 4 else 1 } : Sk) = _; rw [if_pos h0])
  clear h0
  go_wp2
  go_end0
  rw [HE.out]
  exact ⟨rfl, ((Tch.set (P := fun k => k = S) rfl _).trans (Tch.set (P := fun k => k = S) rfl _)).trans (Tch.set (P := fun k => k = S) rfl _), slD (i := 0) (slD (i := 0) (slD (i := 4) H.out _) _) _⟩
 ·have t0 : (((n : Nat) : Int) == 0) = false := by simp; omega
  have HE : Hid (thenS s n 0 = { s with node := n, ph := 1 }) := hid (by show ({ s with node := n, ph := if n = 0 then 4 else 1 } : Sk) = _; rw [if_neg h0])
  clear h0
  go_wp2
  go_end0
  rw [HE.out]
  exact ⟨rfl, (Tch.set (P := fun k => k = S) rfl _).trans (Tch.set (P := fun k => k = S) rfl _), slD (i := 0) (slD (i := 4) H.out _) _⟩
set_option maxRecDepth 100000 in
theorem then3_any (s : Sk) (S n : Nat) (V : World) (h : V.heap[S]? = some (.cells (sk7 s) 46 (0, 0))) (hs : s.Ok) :
  Calls Tryz.prog 94 #[.pointer (some ⟨S, 0, none⟩), .int .u64 n] V (GivesT S (thenS s n 3) V) := by
 have k0 : V.cell? ⟨S, 0, none⟩ = some (.int .i64 s.ph) := clD h rfl
 have kf0 := flD (i := 0) h
 have k1 : V.cell? ⟨S, 1, none⟩ = some (.int .u64 s.hash) := clD h rfl
 have kf1 := flD (i := 1) h
 have k2 : V.cell? ⟨S, 2, none⟩ = some (.int .u64 s.key) := clD h rfl
 have kf2 := flD (i := 2) h
 have k3 : V.cell? ⟨S, 3, none⟩ = some (.int .u64 s.link) := clD h rfl
 have kf3 := flD (i := 3) h
 have k4 : V.cell? ⟨S, 4, none⟩ = some (.int .u64 s.node) := clD h rfl
 have kf4 := flD (i := 4) h
 have k5 : V.cell? ⟨S, 5, none⟩ = some (.int .u64 s.val) := clD h rfl
 have kf5 := flD (i := 5) h
 have k6 : V.cell? ⟨S, 6, none⟩ = some (.bool s.found) := clD h rfl
 have kf6 := flD (i := 6) h
 have H := hid h
 clear h
 go_enter Tryz.func94, Tryz.ntmps94
 go_wp2
 go_end0
 exact ⟨rfl, ((Tch.set (P := fun k => k = S) rfl _).trans (Tch.set (P := fun k => k = S) rfl _)).trans (Tch.set (P := fun k => k = S) rfl _), slD (i := 0) (slD (i := 6) (slD (i := 5) H.out _) _) _⟩
end Go.Proofs.YtipohagcppfgiaaGreat
