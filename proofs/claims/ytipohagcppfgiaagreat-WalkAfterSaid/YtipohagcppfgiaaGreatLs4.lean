/- Lists (printed by gen_ls4.py): what recovers; order. -/
import Derived.Test.YtipohagcppfgiaaGreatLs3
import Derived.Test.YtipohagcppfgiaaGreatRegion4
import Derived.Test.YtipohagcppfgiaaGreatRegion3
import Derived.RecoverIn
namespace Go.Proofs.YtipohagcppfgiaaGreat
open Go.RowKit
open Go.Proofs
set_option linter.unusedVariables false
theorem as_brk (v : Value) (w : World) : (Instr.typeAssert (.iface 146 v) 20 146 true).run Tryz.prog w = .ok (.tuple #[v, .bool true]) w := by kernel_rfl
attribute [local go_sem] as_brk
theorem nod1_idle (Z4 Z5 : Nat) (w : World) :
  CallsDIn Fence.wide 4 Tryz.prog 77 #[.pointer (some ⟨Z4, 0, none⟩), .pointer (some ⟨Z5, 0, none⟩)] .returning w (fun e u' w' => e = .returned (.tuple #[]) ∧ u' = .returning ∧ w' = w) := by
 refine callsDIn_of_wpSIn Tryz.func77 rfl trivial fun c₀ cs hu => ?_
 apply wpSIn_seq
 apply wpSIn_region
 simp [wpOpsSIn, go_sem, recoverD, hu, Tryz.ntmps77, Exit.thenS]
 refine wpSIn_of_wpIn rfl ?_
 refine wpIn_wide.2 ?_
 simp only [Array.replicate_succ, Array.replicate_zero, List.push_toArray, List.append_toArray, List.nil_append, List.cons_append, List.setIfInBounds_toArray, List.set_cons_succ, List.set_cons_zero]
 go_wp2
 cases c₀
 simp_all [bodyPostS, results, Tryz.results77]
set_option maxRecDepth 100000 in
set_option maxHeartbeats 2000000 in
theorem nod1_caught (Z4 Z5 : Nat) (v0 v1 : Value) (older : List PanicEntry) (w : World) (b4 : w.heap[Z4]? = some (.cells #[v0] 36 (0, 0))) (b5 : w.heap[Z5]? = some (.cells #[v1] 34 (0, 0))) :
  CallsDIn Fence.wide 4 Tryz.prog 77 #[.pointer (some ⟨Z4, 0, none⟩), .pointer (some ⟨Z5, 0, none⟩)] (.panicking ({ v := brkV, recovered := false } :: older)) w (fun e u' w' => e = .returned (.tuple #[]) ∧ u' = .panicking ({ v := brkV, recovered := true } :: older) ∧
   w'.heap[Z4]? = some (.cells #[.slice none 0 0] 36 (0, 0)) ∧ w'.heap[Z5]? = some (.cells #[.int .i64 250] 34 (0, 0)) ∧ ∀ (B : Nat) (w0 : World), B ≤ Z4 → B ≤ Z5 → Below B w0 w → Below B w0 w') := by
 obtain ⟨w1, hw1, hb1, hs1, -⟩ := laid w #[] 146
 have k4 := klD b4 hb1
 have k5 := klD b5 hb1
 have n45 := tyN k4 k5 (by decide)
 have n54 := Ne.symm n45
 have f0 := flD (i := 0) k4
 have f1 := flD (i := 0) k5
 have h0 := clD (i := 0) k4 rfl
 have h1 := clD (i := 0) k5 rfl
 have H4 := hid (olD (i := 0) (slD (i := 0) k4 (.slice none 0 0)) n45 (.int .i64 250))
 have H5 := hid (slD (i := 0) (olD (i := 0) k5 n54 (.slice none 0 0)) (.int .i64 250))
 have HB : Hid (∀ (B : Nat) (w0 : World), B ≤ Z4 → B ≤ Z5 → Below B w0 w → Below B w0 ((w1.setCell ⟨Z4, 0, none⟩ (.slice none 0 0)).setCell ⟨Z5, 0, none⟩ (.int .i64 250))) := hid (fun B w0 q1 q2 hb => ((hb.trans (hb1.mono (Nat.le_of_lt (Nat.lt_of_le_of_lt q1 (llD b4))))).setCell q1 _).setCell q2 _)
 clear b4 b5 k4 k5 hb1 hs1
 refine callsDIn_of_wpSIn Tryz.func77 rfl trivial fun c₀ cs hu => ?_
 apply wpSIn_seq
 apply wpSIn_region
 simp [wpOpsSIn, go_sem, recoverD, hu, Tryz.ntmps77, Exit.thenS]
 refine wpSIn_of_wpIn rfl ?_
 refine wpIn_wide.2 ?_
 simp only [Array.replicate_succ, Array.replicate_zero, List.push_toArray, List.append_toArray, List.nil_append, List.cons_append, List.setIfInBounds_toArray, List.set_cons_succ, List.set_cons_zero]
 go_wp2
 exact ⟨rfl, _, rfl, _, results_none rfl _ _ _, rfl, rfl, H4.out, H5.out, HB.out⟩
theorem elemNd : Elem Tryz.prog 36 42 4 32 := Elem.mk' (z := .agg #[.int .u64 0, .int .u64 0, .int .u64 0, .int .u64 0]) Tryz.underlying36 (by kernel_rfl) rfl (by decide) (by decide)
def ndcells (xs : List Nd) : List Value := xs.flatMap nd4
theorem ndcells_snoc (xs : List Nd) (t : Nd) : ndcells (xs ++ [t]) = ndcells xs ++ nd4 t := by simp [ndcells]
theorem ndcells_len (xs : List Nd) : (ndcells xs).length = 4 * xs.length := by
 induction xs with
 | nil => rfl
 | cons x xs ih => show (nd4 x ++ ndcells xs).length = _; rw [List.length_append, ih, List.length_cons]; show 4 + _ = _; omega
/-- Does a node stand ahead of another one? -/
def aheadN (a b : Nd) : Bool := decide (a.2.2.2 < b.2.2.2) || (decide (a.2.2.2 = b.2.2.2) && decide (a.2.1 < b.2.1))
/-- Does each node stand ahead of the next one? -/
def incr : List Nd → Bool
 | [] => true
 | [_] => true
 | x :: y :: r => aheadN x y && incr (y :: r)
theorem nil_or_snoc {α : Type} (l : List α) : l = [] ∨ ∃ L t, l = L ++ [t] := snocRec (p := fun l => l = [] ∨ ∃ L t, l = L ++ [t]) (.inl rfl) (fun L t _ => .inr ⟨L, t, rfl⟩) l
theorem incr_snoc : ∀ (l : List Nd) (n : Nd), incr (l ++ [n]) = (incr l && (match l.getLast? with | none => true | some x => aheadN x n))
 | [], n => rfl
 | [x], n => by simp [incr]
 | x :: y :: r, n => by
  show (aheadN x y && incr ((y :: r) ++ [n])) = _
  rw [incr_snoc (y :: r) n]
  show _ = ((aheadN x y && incr (y :: r)) && _)
  rw [Bool.and_assoc]
  rfl
theorem incr_prefix : ∀ {l m : List Nd}, l <+: m → incr m = true → incr l = true
 | [], m, _, _ => rfl
 | [x], m, _, _ => rfl
 | x :: y :: r, m, h, hm => by
  obtain ⟨t, rfl⟩ := h
  have hm' : (aheadN x y && incr ((y :: r) ++ t)) = true := hm
  rw [Bool.and_eq_true] at hm'
  show (aheadN x y && incr (y :: r)) = true
  rw [hm'.1, incr_prefix (l := y :: r) (m := (y :: r) ++ t) ⟨t, rfl⟩ hm'.2]
  rfl
/-- A list's nodes. -/
def nodesR (M : Mem) (head : Nat) : Option (List Nd) := match nodesW M head with
 | none => none
 | some xs => if incr xs = true then some xs else none
def nodesP (M : Mem) (head : Nat) : List Nd × Nat := if okM M = false then ([], 120) else match nodesR M head with
 | none => ([], 250)
 | some xs => (xs, 0)
theorem ahead_any (a b : Nd) (V : World) : Calls Tryz.prog 79 #[ndV a, ndV b] V (Ret (.bool (aheadN a b)) V) := by
 obtain ⟨a0, a1, a2, a3⟩ := a
 obtain ⟨b0, b1, b2, b3⟩ := b
 obtain ⟨V1, hV1, hb1, hs1, hl1⟩ := laid V #[.int .u64 a0, .int .u64 a1, .int .u64 a2, .int .u64 a3] 42
 obtain ⟨V2, hV2, hb2, hs2, hl2⟩ := laid V1 #[.int .u64 b0, .int .u64 b1, .int .u64 b2, .int .u64 b3] 42
 obtain ⟨X, hX⟩ := nm (V.heap.size)
 obtain ⟨Y, hY⟩ := nm (V1.heap.size)
 rw [hX] at hl1
 rw [hY] at hl2
 have hk1 := klD hl1 hb2
 have x1 := clD (i := 1) hk1 rfl
 have x3 := clD (i := 3) hk1 rfl
 have y1 := clD (i := 1) hl2 rfl
 have y3 := clD (i := 3) hl2 rfl
 have HB := hid (step hb1 hb2)
 obtain ⟨R, hR⟩ := nm (aheadN (a0, a1, a2, a3) (b0, b1, b2, b3))
 rw [hR]
 have HR := hid hR
 unfold ndV
 clear hb1 hs1 hl1 hb2 hs2 hl2 hk1 hR
 go_enter Tryz.func79, Tryz.ntmps79
 by_cases c1 : a3 < b3
 ·have t1 : decide (((a3 : Nat) : Int) < ((b3 : Nat) : Int)) = true := decide_eq_true (by omega)
  have HE : Hid (R = true) := hid (by rw [← HR.out]; unfold aheadN; simp [c1])
  go_wp2
  go_ret
  exact ⟨retb HE.out.symm, HB.out⟩
 ·have t1 : decide (((a3 : Nat) : Int) < ((b3 : Nat) : Int)) = false := decide_eq_false (by omega)
  by_cases c2 : a3 = b3
  ·have t2 : (((a3 : Nat) : Int) == ((b3 : Nat) : Int)) = true := by simp; omega
   by_cases c3 : a1 < b1
   ·have t3 : decide (((a1 : Nat) : Int) < ((b1 : Nat) : Int)) = true := decide_eq_true (by omega)
    have HE : Hid (R = true) := hid (by rw [← HR.out]; unfold aheadN; simp [c2, c3])
    clear c2
    go_wp2
    go_ret
    exact ⟨retb HE.out.symm, HB.out⟩
   ·have t3 : decide (((a1 : Nat) : Int) < ((b1 : Nat) : Int)) = false := decide_eq_false (by omega)
    have HE : Hid (R = false) := hid (by rw [← HR.out]; unfold aheadN; simp [c2, c3])
    clear c2
    go_wp2
    go_ret
    exact ⟨retb HE.out.symm, HB.out⟩
  ·have t2 : (((a3 : Nat) : Int) == ((b3 : Nat) : Int)) = false := by simp; omega
   have HE : Hid (R = false) := hid (by rw [← HR.out]; unfold aheadN; simp [c1, c2])
   go_wp2
   go_ret
   exact ⟨retb HE.out.symm, HB.out⟩
theorem nodes_any (M : Mem) (wa la : Option Addr) (wc lc head : Nat) (V V2 : World) (hV : (V.alloc (.cells #[.slice wa M.W.length wc, .slice la M.L.length lc, .bool M.F] 25)).alloc (.cells #[.int .u64 head] 26) = V2) (hwl : M.W.length ≤ 9223372036854775807) (hll : M.L.length ≤ 9223372036854775807) :
  Calls Tryz.prog 78 #[memV wa wc la lc M, .int .u64 head] V (fun e W => e = .returned (.func (.func 97) #[] #[.pointer (some ⟨V.heap.size, 0, none⟩), .pointer (some ⟨V.heap.size + 1, 0, none⟩)]) ∧ W = V2) := by
 have hmf : ∀ (fn : Fn) (first cap : Array Value) (w : World), (Instr.makeFunc fn first cap).run Tryz.prog w = .ok (.func fn first cap) w := fun _ _ _ _ => rfl
 unfold memV
 have HV := hid hV
 clear hV
 go_enter Tryz.func78, Tryz.ntmps78
 go_wp2
 go_ret
 exact ⟨by simp, HV.out⟩
end Go.Proofs.YtipohagcppfgiaaGreat
