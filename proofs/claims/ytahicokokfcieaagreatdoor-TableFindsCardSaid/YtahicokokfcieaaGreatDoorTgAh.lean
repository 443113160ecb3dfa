/- Several texts in one. -/
import Derived.Test.YtahicokokfcieaaGreatDoorTgAg
import Derived.Test.YtahicokokfcieaaGreatDoorTgAa
import Derived.RecoverIn
import Derived.Test.YtahicokokfcieaaGreatDoorTgAe
namespace Go.Proofs.YtahicokokfcieaaGreatDoor
open Go.RowKit
open Go.Proofs
set_option linter.unusedVariables false
theorem as_brk (v : Value) (w : World) : (Instr.typeAssert (.iface 196 v) 20 196 true).run Tryz.prog w = .ok (.tuple #[v, .bool true]) w := by kernel_rfl
attribute [local go_sem] as_brk
theorem nod1_idle (Z4 Z5 : Nat) (w : World) :
    CallsDIn Fence.wide 4 Tryz.prog 102 #[.pointer (some ⟨Z4, 0, none⟩), .pointer (some ⟨Z5, 0, none⟩)] .returning w (fun e u' w' => e = .returned (.tuple #[]) ∧ u' = .returning ∧ w' = w) := by
  refine callsDIn_of_wpSIn Tryz.func102 rfl trivial fun c₀ cs hu => ?_
  apply wpSIn_seq
  apply wpSIn_region
  simp [wpOpsSIn, go_sem, recoverD, hu, Tryz.ntmps102, Exit.thenS]
  refine wpSIn_of_wpIn rfl ?_
  refine wpIn_wide.2 ?_
  simp only [Array.replicate_succ, Array.replicate_zero, List.push_toArray, List.append_toArray, List.nil_append, List.cons_append, List.setIfInBounds_toArray, List.set_cons_succ, List.set_cons_zero]
  go_wp2
  cases c₀
  simp_all [bodyPostS, results, Tryz.results102]
set_option maxRecDepth 100000 in
set_option maxHeartbeats 2000000 in
theorem nod1_caught (Z4 Z5 : Nat) (v0 v1 : Value) (older : List PanicEntry) (w : World) (b4 : w.heap[Z4]? = some (.cells #[v0] 48 (0, 0))) (b5 : w.heap[Z5]? = some (.cells #[v1] 30 (0, 0))) :
    CallsDIn Fence.wide 4 Tryz.prog 102 #[.pointer (some ⟨Z4, 0, none⟩), .pointer (some ⟨Z5, 0, none⟩)] (.panicking ({ v := brkV, recovered := false } :: older)) w (fun e u' w' => e = .returned (.tuple #[]) ∧ u' = .panicking ({ v := brkV, recovered := true } :: older) ∧
      w'.heap[Z4]? = some (.cells #[.slice none 0 0] 48 (0, 0)) ∧ w'.heap[Z5]? = some (.cells #[.int .i64 250] 30 (0, 0)) ∧ ∀ (B : Nat) (w0 : World), B ≤ Z4 → B ≤ Z5 → Below B w0 w → Below B w0 w') := by
  obtain ⟨w1, hw1, hb1, hs1, -⟩ := laid w #[] 196
  have k4 := keep_laid b4 hb1
  have k5 := keep_laid b5 hb1
  have n45 := type_ne k4 k5 (by decide)
  have n54 := Ne.symm n45
  have f0 := free_laid (i := 0) k4
  have f1 := free_laid (i := 0) k5
  have h0 := cell_laid (i := 0) k4 rfl
  have h1 := cell_laid (i := 0) k5 rfl
  have H4 := hid (other_laid (i := 0) (set_laid (i := 0) k4 (.slice none 0 0)) n45 (.int .i64 250))
  have H5 := hid (set_laid (i := 0) (other_laid (i := 0) k5 n54 (.slice none 0 0)) (.int .i64 250))
  have HB : Hid (∀ (B : Nat) (w0 : World), B ≤ Z4 → B ≤ Z5 → Below B w0 w → Below B w0 ((w1.setCell ⟨Z4, 0, none⟩ (.slice none 0 0)).setCell ⟨Z5, 0, none⟩ (.int .i64 250))) := hid (fun B w0 q1 q2 hb => ((hb.trans (hb1.mono (Nat.le_of_lt (Nat.lt_of_le_of_lt q1 (lt_laid b4))))).setCell q1 _).setCell q2 _)
  clear b4 b5 k4 k5 hb1 hs1
  refine callsDIn_of_wpSIn Tryz.func102 rfl trivial fun c₀ cs hu => ?_
  apply wpSIn_seq
  apply wpSIn_region
  simp [wpOpsSIn, go_sem, recoverD, hu, Tryz.ntmps102, Exit.thenS]
  refine wpSIn_of_wpIn rfl ?_
  refine wpIn_wide.2 ?_
  simp only [Array.replicate_succ, Array.replicate_zero, List.push_toArray, List.append_toArray, List.nil_append, List.cons_append, List.setIfInBounds_toArray, List.set_cons_succ, List.set_cons_zero]
  go_wp2
  exact ⟨rfl, _, rfl, _, results_none rfl _ _ _, rfl, rfl, H4.out, H5.out, HB.out⟩
theorem elemNd : Elem Tryz.prog 48 50 4 32 := Elem.mk' (z := .agg #[.int .u64 0, .int .u64 0, .int .u64 0, .int .u64 0]) Tryz.underlying48 (by kernel_rfl) rfl (by decide) (by decide)
def ndcells (xs : List Nd) : List Value := xs.flatMap nd4
theorem ndcells_snoc (xs : List Nd) (t : Nd) : ndcells (xs ++ [t]) = ndcells xs ++ nd4 t := by simp [ndcells]
theorem ndcells_len (xs : List Nd) : (ndcells xs).length = 4 * xs.length := by
  induction xs with
  | nil => rfl
  | cons x xs ih => show (nd4 x ++ ndcells xs).length = _; rw [List.length_append, ih, List.length_cons]; show 4 + _ = _; omega
/-- Does a node stand ahead of another one? -/
def aheadN (a b : Nd) : Bool := decide (a.2.2.2 < b.2.2.2) || (decide (a.2.2.2 = b.2.2.2) && decide (a.2.1 < b.2.1))
/-- Does each node stand ahead of the next one? -/
def incr : List Nd → Bool
  | [] => true
  | [_] => true
  | x :: y :: r => aheadN x y && incr (y :: r)
theorem nil_or_snoc {α : Type} (l : List α) : l = [] ∨ ∃ L t, l = L ++ [t] := snocRec (p := fun l => l = [] ∨ ∃ L t, l = L ++ [t]) (.inl rfl) (fun L t _ => .inr ⟨L, t, rfl⟩) l
theorem incr_snoc : ∀ (l : List Nd) (n : Nd), incr (l ++ [n]) = (incr l && (match l.getLast? with | none => true | some x => aheadN x n))
  | [], n => rfl
  | [x], n => by simp [incr]
  | x :: y :: r, n => by
    show (aheadN x y && incr ((y :: r) ++ [n])) = _
    rw [incr_snoc (y :: r) n]
    show _ = ((aheadN x y && incr (y :: r)) && _)
    rw [Bool.and_assoc]
    rfl
theorem incr_prefix : ∀ {l m : List Nd}, l <+: m → incr m = true → incr l = true
  | [], m, _, _ => rfl
  | [x], m, _, _ => rfl
  | x :: y :: r, m, h, hm => by
    obtain ⟨t, rfl⟩ := h
    have hm' : (aheadN x y && incr ((y :: r) ++ t)) = true := hm
    rw [Bool.and_eq_true] at hm'
    show (aheadN x y && incr (y :: r)) = true
    rw [hm'.1, incr_prefix (l := y :: r) (m := (y :: r) ++ t) ⟨t, rfl⟩ hm'.2]
    rfl
/-- A list's nodes. -/
def nodesR (M : Mem) (head : Nat) : Option (List Nd) := match nodesW M head with
  | none => none
  | some xs => if incr xs = true then some xs else none
def nodesP (M : Mem) (head : Nat) : List Nd × Nat := if okM M = false then ([], 120) else match nodesR M head with
  | none => ([], 250)
  | some xs => (xs, 0)
theorem ahead_any (a b : Nd) (V : World) : Calls Tryz.prog 104 #[ndV a, ndV b] V (Ret (.bool (aheadN a b)) V) := by
  obtain ⟨a0, a1, a2, a3⟩ := a
  obtain ⟨b0, b1, b2, b3⟩ := b
  obtain ⟨V1, hV1, hb1, hs1, hl1⟩ := laid V #[.int .u64 ((a0 : Nat) : Int), .int .u64 ((a1 : Nat) : Int), .int .u64 ((a2 : Nat) : Int), .int .u64 ((a3 : Nat) : Int)] 50
  obtain ⟨V2, hV2, hb2, hs2, hl2⟩ := laid V1 #[.int .u64 ((b0 : Nat) : Int), .int .u64 ((b1 : Nat) : Int), .int .u64 ((b2 : Nat) : Int), .int .u64 ((b3 : Nat) : Int)] 50
  obtain ⟨X, hX⟩ : ∃ X, V.heap.size = X := ⟨_, rfl⟩
  obtain ⟨Y, hY⟩ : ∃ X, V1.heap.size = X := ⟨_, rfl⟩
  rw [hX] at hl1
  rw [hY] at hl2
  have hk1 := keep_laid hl1 hb2
  have x1 := cell_laid (i := 1) hk1 rfl
  have x3 := cell_laid (i := 3) hk1 rfl
  have y1 := cell_laid (i := 1) hl2 rfl
  have y3 := cell_laid (i := 3) hl2 rfl
  have HB := hid (step hb1 hb2)
  obtain ⟨R, hR⟩ : ∃ R, aheadN (a0, a1, a2, a3) (b0, b1, b2, b3) = R := ⟨_, rfl⟩
  rw [hR]
  have HR := hid hR
  unfold ndV
  clear hb1 hs1 hl1 hb2 hs2 hl2 hk1 hR
  go_enter Tryz.func104, Tryz.ntmps104
  by_cases c1 : a3 < b3
  · have t1 : decide (((a3 : Nat) : Int) < ((b3 : Nat) : Int)) = true := decide_eq_true (by omega)
    have HE : Hid (R = true) := hid (by rw [← HR.out]; unfold aheadN; simp [c1])
    go_wp2
    go_ret
    exact ⟨retb HE.out.symm, HB.out⟩
  · have t1 : decide (((a3 : Nat) : Int) < ((b3 : Nat) : Int)) = false := decide_eq_false (by omega)
    by_cases c2 : a3 = b3
    · have t2 : (((a3 : Nat) : Int) == ((b3 : Nat) : Int)) = true := by simp; omega
      by_cases c3 : a1 < b1
      · have t3 : decide (((a1 : Nat) : Int) < ((b1 : Nat) : Int)) = true := decide_eq_true (by omega)
        have HE : Hid (R = true) := hid (by rw [← HR.out]; unfold aheadN; simp [c2, c3])
        clear c2
        go_wp2
        go_ret
        exact ⟨retb HE.out.symm, HB.out⟩
      · have t3 : decide (((a1 : Nat) : Int) < ((b1 : Nat) : Int)) = false := decide_eq_false (by omega)
        have HE : Hid (R = false) := hid (by rw [← HR.out]; unfold aheadN; simp [c2, c3])
        clear c2
        go_wp2
        go_ret
        exact ⟨retb HE.out.symm, HB.out⟩
    · have t2 : (((a3 : Nat) : Int) == ((b3 : Nat) : Int)) = false := by simp; omega
      have HE : Hid (R = false) := hid (by rw [← HR.out]; unfold aheadN; simp [c1, c2])
      go_wp2
      go_ret
      exact ⟨retb HE.out.symm, HB.out⟩
theorem nodes_any (M : Mem) (wa la : Option Addr) (wc lc head : Nat) (V V2 : World) (hV : (V.alloc (.cells #[.slice wa M.W.length wc, .slice la M.L.length lc, .bool M.F] 25)).alloc (.cells #[.int .u64 ((head : Nat) : Int)] 26) = V2) (hwl : M.W.length ≤ 9223372036854775807) (hll : M.L.length ≤ 9223372036854775807) :
    Calls Tryz.prog 103 #[memV wa wc la lc M, .int .u64 ((head : Nat) : Int)] V (fun e W => e = .returned (.func (.func 131) #[] #[.pointer (some ⟨V.heap.size, 0, none⟩), .pointer (some ⟨V.heap.size + 1, 0, none⟩)]) ∧ W = V2) := by
  have hmf : ∀ (fn : Fn) (first cap : Array Value) (w : World), (Instr.makeFunc fn first cap).run Tryz.prog w = .ok (.func fn first cap) w := fun _ _ _ _ => rfl
  unfold memV
  have HV := hid hV
  clear hV
  go_enter Tryz.func103, Tryz.ntmps103
  go_wp2
  go_ret
  exact ⟨by simp, HV.out⟩
end Go.Proofs.YtahicokokfcieaaGreatDoor
namespace Go.Proofs.YtahicokokfcieaaGreatDoor
open Go.RowKit
open Go.Proofs
set_option linter.unusedVariables false
attribute [local go_sem] Oper.semAt_some
theorem nod_result {W : World} {a b : Nat} {v0 v1 : Value} {tmps : Array Value} (h0 : W.heap[a]? = some (.cells #[v0] 48 (0, 0))) (h1 : W.heap[b]? = some (.cells #[v1] 30 (0, 0)))
    (q0 : tmps[4]?.getD undef = .pointer (some ⟨a, 0, none⟩)) (q1 : tmps[5]?.getD undef = .pointer (some ⟨b, 0, none⟩)) :
    (results Tryz.f87 tmps).run Tryz.prog W = .ok (.tuple #[v0, v1]) W := by
  have c0 := cell_laid (i := 0) (v := v0) h0 rfl
  have c1 := cell_laid (i := 0) (v := v1) h1 rfl
  simp [results, Tryz.results87, go_sem, q0, q1, c0, c1]
/-- What the loop over nodes has made. -/
structure Nk (V : World) (Z4 Z5 Z7 base : Nat) (pre : List Nd) (v : Value) (ok : Bool) (W : World) : Prop where
  b4 : W.heap[Z4]? = some (.cells #[v] 48 (0, 0))
  b5 : W.heap[Z5]? = some (.cells #[.int .i64 0] 30 (0, 0))
  b7 : W.heap[Z7]? = some (.cells #[.bool ok] 4 (0, 0))
  row : W.ownsRow base 50 4 v pre.length (ndcells pre)
  below : Below V.heap.size V W
  sz : base ≤ W.heap.size
theorem Nk.abide {V A B : World} {Z4 Z5 Z7 base Bs : Nat} {pre : List Nd} {v : Value} {ok : Bool} {row : Option Nat} (h : Nk V Z4 Z5 Z7 base pre v ok A) (hg : A.grownBy B row)
    (hr : ∀ r, row = some r → r = Bs ∨ (base ≤ r ∧ ∃ o, A.heap[r]? = some o ∧ o.isCells = false)) (h4 : Z4 ≠ Bs) (h5 : Z5 ≠ Bs) (h6 : Z7 ≠ Bs) (hb : Bs < base) (hw : V.heap.size ≤ Bs) : Nk V Z4 Z5 Z7 base pre v ok B :=
  ⟨cells_abide h.b4 hg hr h4, cells_abide h.b5 hg hr h5, cells_abide h.b7 hg hr h6, own_abide h.row hg hr hb, below_abide h.below hg hr hw (by omega), Nat.le_trans h.sz hg.size⟩
theorem Nk.grow {V A B : World} {Z4 Z5 Z7 base : Nat} {pre : List Nd} {v : Value} {ok : Bool} (h : Nk V Z4 Z5 Z7 base pre v ok A) (hb : Below A.heap.size A B) : Nk V Z4 Z5 Z7 base pre v ok B :=
  ⟨keep_laid h.b4 hb, keep_laid h.b5 hb, keep_laid h.b7 hb, own_grow h.row hb, h.below.trans (hb.mono h.below.size), Nat.le_trans h.sz hb.size⟩
theorem nod1_invoke (Z4 Z5 : Nat) (W : World) : (invoke (Target.fn (Fn.func 102) #[.pointer (some ⟨Z4, 0, none⟩), .pointer (some ⟨Z5, 0, none⟩)]) #[]).run Tryz.prog W = .ok (.enter 102 #[.pointer (some ⟨Z4, 0, none⟩), .pointer (some ⟨Z5, 0, none⟩)]) W := by
  simp [invoke, go_sem]
abbrev nodDefs (D Z4 Z5 : Nat) : List Deferred := [{ target := .collected D, args := #[] }, { target := .fn (.func 102) #[.pointer (some ⟨Z4, 0, none⟩), .pointer (some ⟨Z5, 0, none⟩)], args := #[] }]
theorem leaves_caughtN {V W : World} {Z4 Z5 D : Nat} {v0 v1 : Value} {tmps : Array Value} {R : Ending → World → Prop} (hD : V.heap.size ≤ D) (c4 : W.heap[Z4]? = some (.cells #[v0] 48 (0, 0))) (c5 : W.heap[Z5]? = some (.cells #[v1] 30 (0, 0))) (hbl : Below V.heap.size V W) (hK : W.heap[D]? = some (.deferred (some []))) (h4 : V.heap.size ≤ Z4) (h5 : V.heap.size ≤ Z5)
    (q0 : tmps[4]?.getD undef = .pointer (some ⟨Z4, 0, none⟩)) (q1 : tmps[5]?.getD undef = .pointer (some ⟨Z5, 0, none⟩))
    (hR : ∀ W', Below V.heap.size V W' → ∀ e, e = Ending.returned (.tuple #[.slice none 0 0, .int .i64 250]) → R e W') :
    LeavesInM Fence.wide 5 Tryz.prog Tryz.f87 tmps R (nodDefs D Z4 Z5) (.panicking brk) W := by
  refine ⟨by simp, .inl ⟨D, _, rfl, run_takeDeferred hK, ⟨by simp, .inr ⟨(fun h => by cases h), _, _, _, _, rfl, nod1_invoke _ _ _, fun _ _ => trivial, ?_⟩⟩⟩⟩
  have k : ∀ {b : Nat} {cs : Array Value} {T : TypeId}, W.heap[b]? = some (.cells cs T (0, 0)) → (W.putObj D (.deferred none)).heap[b]? = some (.cells cs T (0, 0)) := by
    intro b cs T hb
    refine (World.putObj_heap_other ?_).trans hb
    rintro rfl
    rw [hb] at hK
    cases hK
  refine (nod1_caught Z4 Z5 v0 v1 [] _ (k c4) (k c5)).mono ?_
  rintro e u W' ⟨rfl, rfl, d4, d5, hB⟩
  exact ⟨_, nod_result d4 d5 q0 q1, hR _ (hB _ _ h4 h5 (below_mark hbl hD hK)) _ rfl⟩
theorem leaves_idleN {V W : World} {Z4 Z5 D : Nat} {v0 v1 : Value} {tmps : Array Value} {R : Ending → World → Prop} (hD : V.heap.size ≤ D) (hK : W.heap[D]? = some (.deferred (some []))) (hbl : Below V.heap.size V W)
    (c4 : W.heap[Z4]? = some (.cells #[v0] 48 (0, 0))) (c5 : W.heap[Z5]? = some (.cells #[v1] 30 (0, 0)))
    (q0 : tmps[4]?.getD undef = .pointer (some ⟨Z4, 0, none⟩)) (q1 : tmps[5]?.getD undef = .pointer (some ⟨Z5, 0, none⟩))
    (hR : Below V.heap.size V (W.putObj D (.deferred none)) → ∀ e, e = Ending.returned (.tuple #[v0, v1]) → R e (W.putObj D (.deferred none))) :
    LeavesInM Fence.wide 5 Tryz.prog Tryz.f87 tmps R (nodDefs D Z4 Z5) .returning W := by
  refine ⟨by simp, .inl ⟨D, _, rfl, run_takeDeferred hK, ⟨by simp, .inr ⟨(fun h => by cases h), _, _, _, _, rfl, nod1_invoke _ _ _, fun _ _ => trivial, ?_⟩⟩⟩⟩
  have k : ∀ {b : Nat} {cs : Array Value} {T : TypeId}, W.heap[b]? = some (.cells cs T (0, 0)) → (W.putObj D (.deferred none)).heap[b]? = some (.cells cs T (0, 0)) := by
    intro b cs T hb
    refine (World.putObj_heap_other ?_).trans hb
    rintro rfl
    rw [hb] at hK
    cases hK
  refine (nod1_idle Z4 Z5 _).mono ?_
  rintro e u W' ⟨rfl, rfl, rfl⟩
  exact ⟨_, nod_result (k c4) (k c5) q0 q1, hR (below_mark hbl hD hK) _ rfl⟩
theorem goW_ok {M : Mem} (hW : ∀ x ∈ M.W, x < 18446744073709551616) : ∀ (f p : Nat) (met : List Nat) (out xs : List Nd), p < 18446744073709551616 → (∀ t ∈ out, t.Ok) → goW M f p met out = some xs → ∀ t ∈ xs, t.Ok
  | 0, p, met, out, xs, hp, ho, h => by unfold goW at h; cases h
  | f + 1, p, met, out, xs, hp, ho, h => by
    by_cases h0 : p = 0
    · subst h0; rw [goW_zero] at h; cases h; exact ho
    · cases ht : takeP M p (List.range 4) met with
      | none => rw [goW_none h0 ht] at h; cases h
      | some m2 =>
        rw [goW_some h0 ht] at h
        refine goW_ok hW f _ _ _ _ (wAt_lt hW _ _) ?_ h
        intro t ht'
        rcases List.mem_append.1 ht' with h1 | h1
        · exact ho t h1
        · rw [List.mem_singleton] at h1
          subst h1
          exact ⟨hp, wAt_lt hW _ _, wAt_lt hW _ _, wAt_lt hW _ _⟩
theorem nodesW_ok {M : Mem} {head : Nat} {xs : List Nd} (hW : ∀ x ∈ M.W, x < 18446744073709551616) (h : nodesW M head = some xs) : ∀ t ∈ xs, t.Ok := by
  cases ht : takeP M head [0] [] with
  | none => rw [nodesW_none ht] at h; cases h
  | some m0 => rw [nodesW_some ht] at h; exact goW_ok hW _ _ _ _ _ (wAt_lt hW _ _) (by simp) h
def GivesNd (R : List Nd × Nat) (V : World) (e : Ending) (W : World) : Prop := ∃ v, e = .returned (.tuple #[v, .int .i64 ((R.2 : Nat) : Int)]) ∧ W.ownsRow V.heap.size 50 4 v R.1.length (ndcells R.1) ∧ Below V.heap.size V W
set_option maxRecDepth 100000 in
set_option maxHeartbeats 8000000 in
theorem Nodes_any (M : Mem) (wa la : Option Addr) (wc lc head : Nat) (V : World) (h : MemL V wa wc la lc M) (hh : head < 18446744073709551616) (hW : ∀ x ∈ M.W, x < 18446744073709551616) :
    Calls Tryz.prog 87 #[memV wa wc la lc M, .int .u64 ((head : Nat) : Int)] V (GivesNd (nodesP M head) V) := by
  obtain ⟨V1, hV1, hb1, hs1, hl1⟩ := laid V #[.slice wa M.W.length wc, .slice la M.L.length lc, .bool M.F] 25
  obtain ⟨V2, hV2, hb2, hs2, hl2⟩ := laid V1 #[.slice none 0 0] 48
  obtain ⟨V3, hV3, hb3, hs3, hl3⟩ := laid V2 #[.int .i64 0] 30
  obtain ⟨X0, hX0⟩ : ∃ X, V.heap.size = X := ⟨_, rfl⟩
  obtain ⟨Z4, hZ4⟩ : ∃ X, V1.heap.size = X := ⟨_, rfl⟩
  obtain ⟨Z5, hZ5⟩ : ∃ X, V2.heap.size = X := ⟨_, rfl⟩
  rw [hX0] at hl1
  rw [hZ4] at hl2
  rw [hZ5] at hl3
  have K0 := hid (keep_laid hl1 (step hb2 hb3))
  have K4 := hid (keep_laid hl2 hb3)
  have K5 := hid hl3
  have HB3 := hid (step (step hb1 hb2) hb3)
  have hX4 : X0 < Z4 := by omega
  have h45 : Z4 < Z5 := by omega
  have HX := hid hX0
  have HM := hid (h.grow HB3.out)
  have HCK := hid (Check_any M wa la wc lc V3 HM.out)
  have HL0 := hid h
  obtain ⟨x0, x1, x2⟩ := cells3 K0.out
  unfold memV at HCK
  have hwl := h.w.len
  have hll := h.l.len
  unfold memV
  have hmf : ∀ (fn : Fn) (first cap : Array Value) (w : World), (Instr.makeFunc fn first cap).run Tryz.prog w = .ok (.func fn first cap) w := fun _ _ _ _ => rfl
  have HW := hid hW
  have h5s : V3.heap.size = Z5 + 1 := by omega
  have HS3 := hid h5s
  clear hb1 hs1 hl1 hb2 hs2 hl2 hb3 hs3 hl3 hW h5s
  cases hok : okM M with
  | false =>
    rw [hok, if_neg (by decide)] at HCK
    have HR : Hid (nodesP M head = ([], 120)) := hid (by unfold nodesP; rw [hok]; rfl)
    clear hok h
    refine calls_of_wp_marks Tryz.func87 rfl ?_
    simp only [Tryz.ntmps87, List.size_toArray, List.length_cons, List.length_nil, Nat.reduceAdd, Nat.reduceSub, Array.replicate_succ, Array.replicate_zero, List.push_toArray, List.append_toArray, List.nil_append, List.cons_append]
    go_wp2
    go_step3
    go_wp2_with fail
    refine HCK.out.mono ?_
    rintro e V5 ⟨rfl, hb5⟩
    have k4 := keep_laid K4.out hb5
    have k5 := keep_laid K5.out hb5
    have f0 := free_laid (i := 0) k4
    have f1 := free_laid (i := 0) k5
    have c0 := cell_laid (i := 0) k4 rfl
    have c1 := cell_laid (i := 0) k5 rfl
    have n45 : Z4 ≠ Z5 := by omega
    have n54 : Z5 ≠ Z4 := by omega
    have H4 := hid (other_laid (i := 0) (set_laid (i := 0) k4 (.slice none 0 0)) n45 (.int .i64 120))
    have H5 := hid (set_laid (i := 0) (other_laid (i := 0) k5 n54 (.slice none 0 0)) (.int .i64 120))
    have HB := hid (((step HB3.out hb5).setCell (p := ⟨Z4, 0, none⟩) (by show V.heap.size ≤ Z4; omega) (.slice none 0 0)).setCell (p := ⟨Z5, 0, none⟩) (by show V.heap.size ≤ Z5; omega) (.int .i64 120))
    clear k4 k5 hb5 x0 x1 x2
    go_wp2
    refine leaves_none (nod_result H4.out H5.out rfl rfl) ?_
    rw [HR.out]
    exact ⟨_, rfl, World.ownsRow_nil _ _ _ _, HB.out⟩
  | true =>
    rw [hok, if_pos rfl] at HCK
    obtain ⟨hn1, hn4, hmn, -⟩ := okM_spec hok
    have HOK := hid hok
    have HN1 := hid hn1
    have HN4 := hid hn4
    have HMN := hid hmn
    clear hok hn1 hn4 hmn h
    refine calls_of_wp_marks Tryz.func87 rfl ?_
    simp only [Tryz.ntmps87, List.size_toArray, List.length_cons, List.length_nil, Nat.reduceAdd, Nat.reduceSub, Array.replicate_succ, Array.replicate_zero, List.push_toArray, List.append_toArray, List.nil_append, List.cons_append]
    go_wp2
    go_step3
    go_wp2_with fail
    refine HCK.out.mono ?_
    rintro e V4 ⟨rfl, hb4⟩
    obtain ⟨V5, hV5, hb5, hs5, hl5⟩ := laid V4 #[.bool true] 4
    obtain ⟨Z7, hZ7⟩ : ∃ X, V4.heap.size = X := ⟨_, rfl⟩
    rw [hZ7] at hl5
    obtain ⟨V6, hV6, hb6, hs6, hl6⟩ := laid V5 #[.slice wa M.W.length wc, .slice la M.L.length lc, .bool M.F] 25
    obtain ⟨V7, hV7, hb7, hs7, hl7⟩ := laid V6 #[.int .u64 ((head : Nat) : Int)] 26
    obtain ⟨X, hX⟩ : ∃ X, V5.heap.size = X := ⟨_, rfl⟩
    rw [hX] at hl6
    have e7 : V6.heap.size = X + 1 := by omega
    rw [e7] at hl7
    obtain ⟨x0', x1', x2'⟩ := cells3 (keep_laid K0.out (step hb4 hb5))
    have h57 : Z5 < Z7 := by have := hb4.size; have := HS3.out; omega
    have h7X : Z7 < X := by omega
    have HSZ : Hid (V7.heap.size = X + 2) := hid (by omega)
    have HB37 := hid (step (step (step hb4 hb5) hb6) hb7)
    have HB7 := hid (step HB3.out HB37.out)
    have HI7 : Hid (Itr X (X + 1) wa wc la lc M.W.length head M V7) := hid ⟨by have := keep_laid hl6 hb7; rw [HMN.out] at this; exact this, hl7, HM.out.grow HB37.out⟩
    have K47 := hid (keep_laid K4.out HB37.out)
    have K57 := hid (keep_laid K5.out HB37.out)
    have K77 := hid (keep_laid hl5 (step hb6 hb7))
    have HNA := hid (nodes_any M wa la wc lc head V5 V7 (by rw [hV6, hV7]) hwl.1 hll.1)
    rw [hX] at HNA
    unfold memV at HNA
    clear hb4 hb5 hb6 hb7 hs5 hs6 hs7 hl5 hl6 hl7 hV6 hV7 hX e7 x0 x1 x2
    go_wp2
    go_step3
    go_wp2_with fail
    refine HNA.out.mono ?_
    rintro e w' ⟨rfl, hw'⟩
    subst hw'
    clear x0' x1' x2'
    go_wp2
    have hkw : ∀ b off, wa = some ⟨b, off, none⟩ → b < X0 := by
      rintro b off rfl
      obtain ⟨_, _, ⟨q, _⟩ | ⟨b', o', q, q2, _⟩⟩ := HL0.out.w
      · have := HN1.out; omega
      · cases q; rw [HX.out] at q2; exact q2
    have hkl : ∀ b off, la = some ⟨b, off, none⟩ → b < X0 := by
      rintro b off rfl
      obtain ⟨_, _, ⟨q, _⟩ | ⟨b', o', q, q2, _⟩⟩ := HL0.out.l
      · have := HN1.out; have := HMN.out; omega
      · cases q; rw [HX.out] at q2; exact q2
    have HKW := hid hkw
    have HKL := hid hkl
    clear hkw hkl
    have hsz : w'.heap.size = X + 2 := HSZ.out
    have HVX : Hid (V.heap.size ≤ X0) := hid (by rw [HX.out]; exact Nat.le_refl _)
    refine wp_rangeQ (Bs := X0) (gf := 131) (lb := #[.pointer (some ⟨X, 0, none⟩), .pointer (some ⟨X + 1, 0, none⟩)]) rfl (enters_of Tryz.func131 (by kernel_rfl) rfl)
      (nodes_seq X (X + 1) X0 (w'.heap.size + 2) head M.W.length wa wc la lc M (fun k => k < w'.heap.size ∧ k ≠ Z4 ∧ k ≠ Z7) rfl HMN.out HN1.out HN4.out hh HW.out ⟨by omega, by omega, by omega⟩ ⟨by omega, by omega, by omega⟩ (fun b off e => by have := HKW.out b off e; exact ⟨by omega, by omega, by omega⟩) (fun b off e => by have := HKL.out b off e; exact ⟨by omega, by omega, by omega⟩))
      (fun k hk => hk.1) (by omega) (fun o o' => ?hR) (fun _ => rfl)
      (fun pre W => (∃ v, Nk V Z4 Z5 Z7 w'.heap.size pre v true W) ∧ incr pre = true)
      (fun c pre W => c = .exit 0 ∧ incr pre = false ∧ ∃ v pre0, Nk V Z4 Z5 Z7 w'.heap.size pre0 v false W) ?hI ?hIx ?h0
      (fun t pre p a' W => ((∃ v, Nk V Z4 Z5 Z7 w'.heap.size pre v true W) ∧ incr pre = true) ∧ ∃ B, a' = { tmps := (t.setIfInBounds 19 (ndV p)).setIfInBounds 8 (.pointer (some ⟨B, 0, none⟩)), defers := [] } ∧ w'.heap.size ≤ B ∧ W.heap[B]? = some (.cells #[.int .u64 ((p.1 : Nat) : Int), .int .u64 ((p.2.1 : Nat) : Int), .int .u64 ((p.2.2.1 : Nat) : Int), .int .u64 ((p.2.2.2 : Nat) : Int)] 50 (0, 0))) ?hAx ?assign ?body ?done ?stop ?panic
    case hR =>
      have g1 := (Below.refl w'.heap.size w').alloc (Nat.le_refl _) o
      have g2 : Below w'.heap.size w' ((w'.alloc o).alloc o') := g1.alloc (Nat.le_of_lt (by simp)) o'
      exact ⟨HI7.out.grow g2, by simp⟩
    case hI => exact fun s A B row ⟨⟨v, hs⟩, h2⟩ hg hr => ⟨⟨v, hs.abide hg hr (by omega) (by omega) (by omega) (by omega) (by have := HVX.out; omega)⟩, h2⟩
    case hIx => exact fun c s A B row ⟨h1, h2, v, p0, hs⟩ hg hr => ⟨h1, h2, v, p0, hs.abide hg hr (by omega) (by omega) (by omega) (by omega) (by have := HVX.out; omega)⟩
    case h0 => exact ⟨⟨_, K47.out, K57.out, K77.out, World.ownsRow_nil _ _ _ _, HB7.out, Nat.le_refl _⟩, rfl⟩
    case hAx =>
      rintro t pre p a' A B row ⟨⟨⟨v, hU⟩, h2⟩, b, e, hb, hc⟩ hg hr
      refine ⟨⟨⟨v, hU.abide (Bs := X0) hg (fun r e => .inr (hr r e)) (by omega) (by omega) (by omega) (by omega) (by have := HVX.out; omega)⟩, h2⟩, b, e, hb, cells_abide (Bs := X0) (B0 := w'.heap.size) hc hg (fun r e => .inr (hr r e)) (by omega)⟩
    case assign =>
      rintro l pre ⟨p1, p2, p3, p4⟩ W K ⟨⟨v, hI⟩, hI2⟩ hlen hK
      obtain ⟨wb, hwb, hbb, hsb, hlb⟩ := laid W #[.int .u64 ((p1 : Nat) : Int), .int .u64 ((p2 : Nat) : Int), .int .u64 ((p3 : Nat) : Int), .int .u64 ((p4 : Nat) : Int)] 50
      have HLB := hid hlb
      have HU := hid (hI.grow hbb)
      have HI := hid hI.sz
      have HI2 := hid hI2
      clear hlb hsb hI hI2
      unfold ndV
      gi_wp2
      refine hK _ _ hbb ⟨⟨⟨_, HU.out⟩, HI2.out⟩, W.heap.size, rfl, HI.out, HLB.out⟩
    case body =>
      rintro l pre ⟨p1, p2, p3, p4⟩ a' W ⟨⟨⟨v, hLk⟩, hinc⟩, B, rfl, hB, hc⟩ hlen
      obtain ⟨m, hm⟩ : ∃ m, pre.length = m := ⟨_, rfl⟩
      obtain ⟨va, vc, hv, hlv⟩ := Leads.of_own hLk.row
      subst hv
      have hvl := hlv.len
      rw [hm] at hlv hvl hlen
      have HLK : Hid (Nk V Z4 Z5 Z7 w'.heap.size pre (.slice va m vc) true W) := hid (by have := hLk; rw [hm] at this; exact this)
      have HC := hid hc
      have HINC := hid hinc
      have c4 := cell_laid (i := 0) HLK.out.b4 rfl
      have hWs : w'.heap.size ≤ W.heap.size := HLK.out.sz
      have HMM := hid hm
      clear hLk hinc hc
      obtain ⟨D, hD⟩ : ∃ DX, W.drew = DX := ⟨_, rfl⟩
      have hbD : Below W.heap.size W D := by rw [← hD]; exact (Below.refl _ _).drew
      have HD := hid hD
      have HBD := hid hbD
      have r4 : ∀ z : Ext D, z.v.cell? ⟨Z4, 0, none⟩ = some (.slice va m vc) := fun z => cell_laid (keep_laid (keep_laid HLK.out.b4 HBD.out) z.b) rfl
      have b0 : ∀ z : Ext D, z.v.cell? ⟨B, 0, none⟩ = some (.int .u64 ((p1 : Nat) : Int)) := fun z => cell_laid (keep_laid (keep_laid HC.out HBD.out) z.b) rfl
      have b1 : ∀ z : Ext D, z.v.cell? ⟨B, 1, none⟩ = some (.int .u64 ((p2 : Nat) : Int)) := fun z => cell_laid (keep_laid (keep_laid HC.out HBD.out) z.b) rfl
      have b2 : ∀ z : Ext D, z.v.cell? ⟨B, 2, none⟩ = some (.int .u64 ((p3 : Nat) : Int)) := fun z => cell_laid (keep_laid (keep_laid HC.out HBD.out) z.b) rfl
      have b3 : ∀ z : Ext D, z.v.cell? ⟨B, 3, none⟩ = some (.int .u64 ((p4 : Nat) : Int)) := fun z => cell_laid (keep_laid (keep_laid HC.out HBD.out) z.b) rfl
      clear hD hbD
      rcases nil_or_snoc pre with rfl | ⟨L, t, rfl⟩
      · obtain rfl : m = 0 := by rw [← hm]; rfl
        have HIN2 : Hid (incr ([] ++ [(p1, p2, p3, p4)]) = true) := hid rfl
        gi_wp2
        refine wpIn_region_mix2 (fun V => ∃ z : Ext D, V = z.v) 11 (.q 0 (.q 1 (.q 2 (.q 3 (.q 4 (.q 5 (.q 6 (.q 7 (.h 8 (.q 9 (.q 10 (.done)))))))))))) (fun hq => hq.elim fun a h => h.elim fun w h => h) (by kernel_rfl) (by kernel_rfl) (by kernel_rfl) (by rw [HD.out]; exact ⟨⟨D, Below.refl _ _⟩, rfl⟩) ?_
        rw [HD.out]
        repeat (refine wpMix2_q rfl rfl ?_; go_big_quiet_step (fail); refine wpQuiet_nil ?_)
        refine wpMix2_h rfl fun R' hR' hO => ?_
        go_wp2
        refine hR' _ _ ⟨⟨D, Below.refl _ _⟩, rfl⟩ ?_
        clear hR' hO R'
        repeat (refine wpMix2_q rfl rfl ?_; go_big_quiet_step (fail); refine wpQuiet_nil ?_)
        refine wpMix2_done ?_
        simp only [List.drop_succ_cons, List.drop_nil]
        have HBW := HBD
        clear r4 b0 b1 b2 b3 c4
        obtain ⟨W3, hW3, hb7, hs7, hl7⟩ := laid D #[.int .u64 ((p1 : Nat) : Int), .int .u64 ((p2 : Nat) : Int), .int .u64 ((p3 : Nat) : Int), .int .u64 ((p4 : Nat) : Int)] 50
        have HLK2 := hid (HLK.out.grow HBW.out)
        have HLK3 := hid (HLK2.out.grow hb7)
        have HB7' := hid (step HBW.out hb7)
        have HL7 := hid hl7
        have c4 := cell_laid (i := 0) HLK2.out.b4 rfl
        have kB := keep_laid HC.out HBW.out
        have q0 := cell_laid (i := 0) kB rfl
        have q1 := cell_laid (i := 1) kB rfl
        have q2 := cell_laid (i := 2) kB rfl
        have q3 := cell_laid (i := 3) kB rfl
        have hW3s : w'.heap.size ≤ W3.heap.size := HLK3.out.sz
        have HRW : Hid (W3.ownsRow w'.heap.size 50 4 (.slice va 0 vc) 0 (ndcells [])) := hid (by have := HLK3.out.row; rw [HMM.out] at this; exact this)
        have hm6 : 0 ≤ 1000000 := by omega
        clear kB hl7 hs7 hb7
        go_wp2
        gi_wp2_with (gi_at_builtin; refine wpIn_append1 elemNd rfl (.tmp 34) (.tmp 36) rfl w'.heap.size (.slice va 0 vc) 0 (ndcells []) rfl HRW.out D.heap.size (nd4 (p1, p2, p3, p4)) rfl rfl ?c1 ?c2 ?c3 ?c4 ?c5)
        case c1 =>
          intro j u hj
          exact cell_laid HL7.out (by simpa [nd4] using hj)
        case c2 => first | (intro u hu; simp [nd4] at hu; rcases hu with rfl | rfl | rfl | rfl <;> rfl) | rfl | exact hm6
        try (case c3 => exact hm6)
        try (case c4 => omega)
        case c5 =>
          intro v' W4 hown' hb8 hg8
          have n4 := (hb8.block Z4 (by omega)).trans HLK3.out.b4
          have hc10 := cell_laid (i := 0) n4 rfl
          have hf10 := free_laid (i := 0) n4
          have N4 := hid n4
          have N5 := hid ((hb8.block Z5 (by omega)).trans HLK3.out.b5)
          have N7 := hid ((hb8.block Z7 (by omega)).trans HLK3.out.b7)
          obtain ⟨a', cap', rfl, -⟩ := Leads.of_own hown'
          have HO' := hid hown'
          clear n4 hown'
          gi_wp2
          have hK4 : KeepsOthers W3 W4 := KeepsOthers.of_grownBy hg8 fun j o hj ho => by
            rcases HRW.out.2 with ⟨e, _⟩ | ⟨g, cap, cur, e, _, hh, _⟩
            · rw [e] at hj; cases hj
            · rw [e] at hj; cases hj; rw [hh] at ho; cases ho; rfl
          have hKO := ((keepsOthers_of_below HB7'.out).trans hK4).trans (KeepsOthers.setCell W4 ⟨Z4, 0, none⟩ (.slice a' (0 + 1) cap'))
          refine ⟨hKO, ⟨?_, fun k o q1 q2 q3 => hKO.same k o q2 q3⟩, ⟨.slice a' (0 + 1) cap', set_laid N4.out _, other_laid N5.out (by omega) _, other_laid N7.out (by omega) _, ?_, ?_, ?_⟩, HIN2.out⟩
          · rintro k ⟨hk, hk4, hk7⟩
            exact (Below.heap_setCell W4 ⟨Z4, 0, none⟩ _ _ (by show k ≠ Z4; omega)).trans ((hb8.block _ (by omega)).trans (HB7'.out.block _ (by omega)))
          · rw [List.length_append, ndcells_snoc, HMM.out, hsz]
            exact ownsRow_setCell_below (a := ⟨Z4, 0, none⟩) HO'.out (by show Z4 < _; omega) _
          · exact (HLK3.out.below.trans (hb8.mono (by have := HVX.out; omega))).setCell (by show V.heap.size ≤ Z4; have := HVX.out; omega) _
          · exact Nat.le_trans hW3s (Nat.le_trans hb8.size (by simp [World.setCell]))
      · obtain ⟨j, hj⟩ : ∃ j, L.length = j := ⟨_, rfl⟩
        obtain rfl : m = j + 1 := by rw [← hm, List.length_append, hj]; rfl
        obtain ⟨t1, t2, t3, t4⟩ := t
        obtain ⟨vb, vo, rfl, hcc⟩ : ∃ b o, va = some ⟨b, o, none⟩ ∧ ∀ i v, (ndcells (L ++ [(t1, t2, t3, t4)]))[i]? = some v → W.cell? ⟨b, o + i, none⟩ = some v := by
          obtain ⟨_, _, ⟨h, _⟩ | ⟨b, off, e, hb, h4⟩⟩ := hlv
          · omega
          · exact ⟨b, off, e, h4⟩
        have hat : ∀ i v, (nd4 (t1, t2, t3, t4))[i]? = some v → (ndcells (L ++ [(t1, t2, t3, t4)]))[j * 4 + i]? = some v := fun i v hv => by
          rw [ndcells_snoc, List.getElem?_append_right (by rw [ndcells_len, hj]; omega), ndcells_len, hj, show j * 4 + i - 4 * j = i by omega]
          exact hv
        have hgl : ∀ (z : Ext D) i v, (nd4 (t1, t2, t3, t4))[i]? = some v → z.v.cell? ⟨vb, vo + (j * 4 + i), none⟩ = some v := fun z i v hv => by
          obtain ⟨a2, c2, e2, hl2⟩ := Leads.of_own (own_grow (own_grow HLK.out.row HBD.out) z.b)
          simp only [Value.slice.injEq] at e2
          obtain ⟨_, _, ⟨h, _⟩ | ⟨b, off, e, hb, h4⟩⟩ := hl2
          · rw [HMM.out] at h; omega
          · rw [← e2.1] at e
            simp only [Option.some.injEq, Addr.mk.injEq, and_true] at e
            obtain ⟨rfl, rfl⟩ := e
            exact h4 _ _ (hat i v hv)
        have g0 : ∀ z : Ext D, z.v.cell? ⟨vb, vo + j * 4, none⟩ = some (.int .u64 ((t1 : Nat) : Int)) := fun z => hgl z 0 _ rfl
        have g1 : ∀ z : Ext D, z.v.cell? ⟨vb, vo + j * 4 + 1, none⟩ = some (.int .u64 ((t2 : Nat) : Int)) := fun z => by rw [Nat.add_assoc]; exact hgl z 1 _ rfl
        have g2 : ∀ z : Ext D, z.v.cell? ⟨vb, vo + j * 4 + 2, none⟩ = some (.int .u64 ((t3 : Nat) : Int)) := fun z => by rw [Nat.add_assoc]; exact hgl z 2 _ rfl
        have g3 : ∀ z : Ext D, z.v.cell? ⟨vb, vo + j * 4 + 3, none⟩ = some (.int .u64 ((t4 : Nat) : Int)) := fun z => by rw [Nat.add_assoc]; exact hgl z 3 _ rfl
        have HAH := hid (fun V => ahead_any (t1, t2, t3, t4) (p1, p2, p3, p4) V)
        obtain ⟨bo, hbo⟩ : ∃ b, aheadN (t1, t2, t3, t4) (p1, p2, p3, p4) = b := ⟨_, rfl⟩
        rw [hbo] at HAH
        have HIN2 : Hid (incr ((L ++ [(t1, t2, t3, t4)]) ++ [(p1, p2, p3, p4)]) = bo) := hid (by rw [incr_snoc, HINC.out]; simp [hbo])
        unfold ndV at HAH
        clear hcc hat hgl hlv hbo
        gi_wp2
        refine wpIn_region_mix2 (fun V => ∃ z : Ext D, V = z.v) 11 (.q 0 (.q 1 (.q 2 (.q 3 (.q 4 (.q 5 (.q 6 (.q 7 (.h 8 (.q 9 (.q 10 (.done)))))))))))) (fun hq => hq.elim fun a h => h.elim fun w h => h) (by kernel_rfl) (by kernel_rfl) (by kernel_rfl) (by rw [HD.out]; exact ⟨⟨D, Below.refl _ _⟩, rfl⟩) ?_
        rw [HD.out]
        repeat (refine wpMix2_q rfl rfl ?_; go_big_quiet_step (fail); refine wpQuiet_nil ?_)
        refine wpMix2_h rfl fun R' hR' hO => ?_
        go_wp2_with fail
        refine (HAH.out D).mono ?_
        rintro e W2 ⟨rfl, hb2⟩
        have HB2 := hid hb2
        have HBW := hid (step HBD.out hb2)
        clear hb2
        go_wp2
        refine hR' _ _ ⟨⟨W2, HB2.out⟩, rfl⟩ ?_
        clear hR' hO R'
        repeat (refine wpMix2_q rfl rfl ?_; go_big_quiet_step (fail); refine wpQuiet_nil ?_)
        refine wpMix2_done ?_
        simp only [List.drop_succ_cons, List.drop_nil]
        clear r4 b0 b1 b2 b3 c4 g0 g1 g2 g3 HAH
        cases bo
        case' true =>
          obtain ⟨W3, hW3, hb7, hs7, hl7⟩ := laid W2 #[.int .u64 ((p1 : Nat) : Int), .int .u64 ((p2 : Nat) : Int), .int .u64 ((p3 : Nat) : Int), .int .u64 ((p4 : Nat) : Int)] 50
          have HLK2 := hid (HLK.out.grow HBW.out)
          have HLK3 := hid (HLK2.out.grow hb7)
          have HB7' := hid (step HBW.out hb7)
          have HL7 := hid hl7
          have c4 := cell_laid (i := 0) HLK2.out.b4 rfl
          have kB := keep_laid HC.out HBW.out
          have q0 := cell_laid (i := 0) kB rfl
          have q1 := cell_laid (i := 1) kB rfl
          have q2 := cell_laid (i := 2) kB rfl
          have q3 := cell_laid (i := 3) kB rfl
          have hW3s : w'.heap.size ≤ W3.heap.size := HLK3.out.sz
          have HRW : Hid (W3.ownsRow w'.heap.size 50 4 (.slice (some ⟨vb, vo, none⟩) (j + 1) vc) (j + 1) (ndcells (L ++ [(t1, t2, t3, t4)]))) := hid (by have := HLK3.out.row; rw [HMM.out] at this; exact this)
          have hm6 : (j + 1) ≤ 1000000 := by omega
          clear kB hl7 hs7 hb7
          go_wp2
          gi_wp2_with (gi_at_builtin; refine wpIn_append1 elemNd rfl (.tmp 34) (.tmp 36) rfl w'.heap.size (.slice (some ⟨vb, vo, none⟩) (j + 1) vc) (j + 1) (ndcells (L ++ [(t1, t2, t3, t4)])) rfl HRW.out W2.heap.size (nd4 (p1, p2, p3, p4)) rfl rfl ?c1 ?c2 ?c3 ?c4 ?c5)
          case c1 =>
            intro j u hj
            exact cell_laid HL7.out (by simpa [nd4] using hj)
          case c2 => first | (intro u hu; simp [nd4] at hu; rcases hu with rfl | rfl | rfl | rfl <;> rfl) | rfl | exact hm6
          try (case c3 => exact hm6)
          try (case c4 => omega)
          case c5 =>
            intro v' W4 hown' hb8 hg8
            have n4 := (hb8.block Z4 (by omega)).trans HLK3.out.b4
            have hc10 := cell_laid (i := 0) n4 rfl
            have hf10 := free_laid (i := 0) n4
            have N4 := hid n4
            have N5 := hid ((hb8.block Z5 (by omega)).trans HLK3.out.b5)
            have N7 := hid ((hb8.block Z7 (by omega)).trans HLK3.out.b7)
            obtain ⟨a', cap', rfl, -⟩ := Leads.of_own hown'
            have HO' := hid hown'
            clear n4 hown'
            gi_wp2
            have hK4 : KeepsOthers W3 W4 := KeepsOthers.of_grownBy hg8 fun j o hj ho => by
              rcases HRW.out.2 with ⟨e, _⟩ | ⟨g, cap, cur, e, _, hh, _⟩
              · rw [e] at hj; cases hj
              · rw [e] at hj; cases hj; rw [hh] at ho; cases ho; rfl
            have hKO := ((keepsOthers_of_below HB7'.out).trans hK4).trans (KeepsOthers.setCell W4 ⟨Z4, 0, none⟩ (.slice a' ((j + 1) + 1) cap'))
            refine ⟨hKO, ⟨?_, fun k o q1 q2 q3 => hKO.same k o q2 q3⟩, ⟨.slice a' ((j + 1) + 1) cap', set_laid N4.out _, other_laid N5.out (by omega) _, other_laid N7.out (by omega) _, ?_, ?_, ?_⟩, HIN2.out⟩
            · rintro k ⟨hk, hk4, hk7⟩
              exact (Below.heap_setCell W4 ⟨Z4, 0, none⟩ _ _ (by show k ≠ Z4; omega)).trans ((hb8.block _ (by omega)).trans (HB7'.out.block _ (by omega)))
            · rw [List.length_append, ndcells_snoc, HMM.out, hsz]
              exact ownsRow_setCell_below (a := ⟨Z4, 0, none⟩) HO'.out (by show Z4 < _; omega) _
            · exact (HLK3.out.below.trans (hb8.mono (by have := HVX.out; omega))).setCell (by show V.heap.size ≤ Z4; have := HVX.out; omega) _
            · exact Nat.le_trans hW3s (Nat.le_trans hb8.size (by simp [World.setCell]))
        case' false =>
          have k7 := keep_laid HLK.out.b7 HBW.out
          have c7 := cell_laid (i := 0) k7 rfl
          have f7 := free_laid (i := 0) k7
          have HLK2 := hid (HLK.out.grow HBW.out)
          have K7 := hid k7
          clear k7
          go_wp2
          gi_wp2
          refine ⟨(keepsOthers_of_below HBW.out).trans (KeepsOthers.setCell _ _ _), rfl, HIN2.out, _, _, other_laid HLK2.out.b4 (by omega) _, other_laid HLK2.out.b5 (by omega) _, set_laid K7.out _, ownsRow_setCell_below (a := ⟨Z7, 0, none⟩) HLK2.out.row (by show Z7 < _; omega) _, HLK2.out.below.setCell (by show V.heap.size ≤ Z7; have := HVX.out; omega) _, Nat.le_trans HLK2.out.sz (by simp [World.setCell])⟩
    case done =>
      rintro D xs W hD hn ⟨⟨v, hLk⟩, hinc⟩ hK
      have HR : Hid (nodesP M head = (xs, 0)) := hid (by unfold nodesP nodesR; rw [HOK.out, if_neg (by decide), hn]; dsimp only; rw [if_pos hinc])
      obtain ⟨va, vc, hv, -⟩ := Leads.of_own hLk.row
      subst hv
      have c4 := cell_laid (i := 0) hLk.b4 rfl
      have c5 := cell_laid (i := 0) hLk.b5 rfl
      have c7 := cell_laid (i := 0) hLk.b7 rfl
      have f4 := free_laid (i := 0) hLk.b4
      have f5 := free_laid (i := 0) hLk.b5
      have n45 : Z4 ≠ Z5 := by omega
      have n54 : Z5 ≠ Z4 := by omega
      have n4D : Z4 ≠ D := by omega
      have n5D : Z5 ≠ D := by omega
      have HK2 := hid (other_laid (i := 0) (other_laid (i := 0) hK n4D.symm (.slice va xs.length vc)) n5D.symm (.int .i64 0))
      have H4 := hid (other_laid (i := 0) (set_laid (i := 0) hLk.b4 (.slice va xs.length vc)) n45 (.int .i64 0))
      have H5 := hid (set_laid (i := 0) (other_laid (i := 0) hLk.b5 n54 (.slice va xs.length vc)) (.int .i64 0))
      have HB := hid ((hLk.below.setCell (p := ⟨Z4, 0, none⟩) (by show V.heap.size ≤ Z4; have := HVX.out; omega) (.slice va xs.length vc)).setCell (p := ⟨Z5, 0, none⟩) (by show V.heap.size ≤ Z5; have := HVX.out; omega) (.int .i64 0))
      have HO := hid (ownsRow_setCell_below (a := ⟨Z5, 0, none⟩) (ownsRow_setCell_below (a := ⟨Z4, 0, none⟩) hLk.row (by show Z4 < _; omega) (.slice va xs.length vc)) (by show Z5 < _; omega) (.int .i64 0))
      have HXX := HVX
      clear hLk hK hn hinc
      go_wp2
      rw [Exit.noGoto_ret]
      refine leaves_idleN (V := V) (by have := HVX.out; omega) HK2.out HB.out H4.out H5.out rfl rfl fun hb e he => ?_
      rw [HR.out]
      refine ⟨_, he, ?_, hb⟩
      refine own_mark (own_base HO.out (by have := HVX.out; omega)) HK2.out _
    case stop =>
      rintro D c pre W hD hn ⟨rfl, hinc, v, pre0, hLk⟩ hK
      have HR : Hid (nodesP M head = ([], 250)) := hid (by
        unfold nodesP nodesR
        rw [HOK.out, if_neg (by decide)]
        cases hq : nodesW M head with
        | none => rfl
        | some xs =>
          dsimp only
          have := hn xs hq
          rw [if_neg (fun h => by rw [incr_prefix this h] at hinc; cases hinc)])
      have c4 := cell_laid (i := 0) hLk.b4 rfl
      have c5 := cell_laid (i := 0) hLk.b5 rfl
      have c7 := cell_laid (i := 0) hLk.b7 rfl
      have f4 := free_laid (i := 0) hLk.b4
      have f5 := free_laid (i := 0) hLk.b5
      have n45 : Z4 ≠ Z5 := by omega
      have n54 : Z5 ≠ Z4 := by omega
      have n4D : Z4 ≠ D := by omega
      have n5D : Z5 ≠ D := by omega
      have HK2 := hid (other_laid (i := 0) (other_laid (i := 0) hK n4D.symm (.slice none 0 0)) n5D.symm (.int .i64 250))
      have H4 := hid (other_laid (i := 0) (set_laid (i := 0) hLk.b4 (.slice none 0 0)) n45 (.int .i64 250))
      have H5 := hid (set_laid (i := 0) (other_laid (i := 0) hLk.b5 n54 (.slice none 0 0)) (.int .i64 250))
      have HB := hid ((hLk.below.setCell (p := ⟨Z4, 0, none⟩) (by show V.heap.size ≤ Z4; have := HVX.out; omega) (.slice none 0 0)).setCell (p := ⟨Z5, 0, none⟩) (by show V.heap.size ≤ Z5; have := HVX.out; omega) (.int .i64 250))
      clear hLk hK hn hinc
      go_wp2
      rw [Exit.noGoto_ret]
      refine leaves_idleN (V := V) (by have := HVX.out; omega) HK2.out HB.out H4.out H5.out rfl rfl fun hb e he => ?_
      rw [HR.out]
      exact ⟨_, he, World.ownsRow_nil _ _ _ _, hb⟩
    case panic =>
      rintro D c pre W hD ⟨hn, rfl⟩ ⟨⟨v, hLk⟩, -⟩ hK
      have HR : Hid (nodesP M head = ([], 250)) := hid (by unfold nodesP nodesR; rw [HOK.out, if_neg (by decide), hn])
      refine leaves_caughtN (V := V) (by have := HVX.out; omega) hLk.b4 hLk.b5 hLk.below hK (by have := HVX.out; omega) (by have := HVX.out; omega) rfl rfl fun W' hb e he => ?_
      rw [HR.out]
      exact ⟨_, he, World.ownsRow_nil _ _ _ _, hb⟩
end Go.Proofs.YtahicokokfcieaaGreatDoor
namespace Go.Proofs.YtahicokokfcieaaGreatDoor
open Go.RowKit
set_option linter.unusedVariables false
/-- What a round keeps: all below s, and all cells that are not of two types. -/
def KeepsR (s : Nat) (T0 T1 : TypeId) (A B : World) : Prop := Below s A B ∧ ∀ (k : Nat) (cs : Array Value) (T' : TypeId) (fr : Nat × Nat), A.heap[k]? = some (.cells cs T' fr) → T' ≠ T0 → T' ≠ T1 → B.heap[k]? = some (.cells cs T' fr)
/-- The word of an iterator that may panic. -/
def SeqR {α : Type} (T : World → World → Prop) (F : Fence) (n : Nat) (P : Program) (g : Nat) (lb : Array Value) (encs : α → Array Value) (Kp : World → World → Prop) (S Sp : List α → Prop) (Sx : List α → List PanicEntry → Prop) (N : Nat) (R : World → Prop) (Ee : List α → World → Prop) : Prop :=
  ∀ (l : Nat) (J Jx : List α → World → Prop) (W : World), R W → (∀ s A B, J s A → T A B → J s B) → (∀ s A B, Jx s A → T A B → Jx s B) →
    (∀ pre x W1, J pre W1 → pre.length < N → YieldAt F (n - 1) P l (encs x) W1 fun e W' =>
      (e = .returned (.bool true) ∧ J (pre ++ [x]) W' ∧ Kp W1 W') ∨ (e = .returned (.bool false) ∧ Jx (pre ++ [x]) W')) →
    J [] W →
    CallsIn F n P g (#[.func (.yield l) #[] #[]] ++ lb) W fun e W' => ((∃ v, e = .returned v) ∧ ((∃ xs, S xs ∧ J xs W' ∧ Ee xs W') ∨ (∃ pre, Sp pre ∧ Jx pre W'))) ∨ (∃ c pre, e = .panicked c ∧ Sx pre c ∧ J pre W')
section
variable {F : Fence} {n : Nat} {P : Program}
/-- As wpIn_range_Q; the code that gives the loop's variables may make memory: Ax says what it leaves. -/
theorem wpIn_range_R {α : Type} {T : World → World → Prop} {g : Operand} {ps : Array Tmp} {assign body : Code} {Q : Exit → Act → World → Prop} {a : Act} {w : World}
    (hro : F.round = none) (h1 : 1 ≤ n) {gf : Nat} {lb : Array Value} (hg : a.eval g = .func (.func gf) #[] lb) (hFg : F.fn gf) (eg : ∀ args w, (callFunc gf args).run P w = .ok (.enter gf args) w)
    {encs : α → Array Value} {Kp : World → World → Prop} {S Sp : List α → Prop} {Sx : List α → List PanicEntry → Prop} {N : Nat} {R : World → Prop} {Ee : List α → World → Prop} (hEe : ∀ xs (W : World) (l : Nat) (o o' : Obj), w.heap.size ≤ l → W.heap[l]? = some o → o.isCells = false → Ee xs W → Ee xs (W.putObj l o')) (hseq : SeqR T F (n - 1) P gf lb encs Kp S Sp Sx N R Ee)
    (hKt : ∀ {A B C : World}, Kp A B → Kp B C → Kp A C) (hKb : ∀ (W : World) (l : Nat) (o o' : Obj), l = w.heap.size + 1 → W.heap[l]? = some o → o.isCells = false → o.isWalk = false → Kp W (W.putObj l o'))
    (hR : ∀ o o' : Obj, R ((w.alloc o).alloc o')) (hps : ∀ x, (encs x).size = ps.size)
    (hT : ∀ A B (b : Nat) (o : Obj), T A B → w.heap.size ≤ b → b < w.heap.size + 2 → A.heap[b]? = some o → B.heap[b]? = some o)
    (I : List α → World → Prop) (Ix : Code → List α → World → Prop) (hI : OwnFrom w.heap.size I) (hIx : ∀ c, OwnFrom w.heap.size (Ix c)) (hIT : ∀ s A B, I s A → T A B → I s B) (hIxT : ∀ c s A B, Ix c s A → T A B → Ix c s B) (h0 : I [] w) (Ax : List α → α → Act → World → Prop) (hAx : ∀ pre x a', OwnFrom w.heap.size (fun (_ : Unit) W => Ax pre x a' W)) (hKa : ∀ (W V : World), w.heap.size ≤ W.heap.size → Below W.heap.size W V → Kp W V)
    (hassign : ∀ (l : Nat) (pre : List α) (x : α) (W : World) (K : Act → World → Prop), I pre W → pre.length < N → (∀ a' W', Below W.heap.size W W' → Ax pre x a' W' → K a' W') →
      assign.wpIn (F.inRound l) (n - 1 - 1) P (Exit.then K (fun _ _ _ => False)) { tmps := (ps.zip (encs x)).foldl (fun t (p, v) => t.setIfInBounds p v) a.tmps, defers := [] } W)
    (hbody : ∀ (l : Nat) (pre : List α) (x : α) (a' : Act) (W : World), Ax pre x a' W → pre.length < N → body.wpIn (F.inRound l) (n - 1 - 1) P (ownPostK Kp I Ix (pre ++ [x]) W) a' W)
    (hdone : ∀ (D : Nat) (xs : List α) (W : World), w.heap.size ≤ D → S xs → I xs W → Ee xs W → W.heap[D]? = some (.deferred (some [])) → Q .normal { a with defers := { target := .collected D, args := #[] } :: a.defers } W)
    (hstop : ∀ (D : Nat) (c : Code) (pre : List α) (W : World), w.heap.size ≤ D → Sp pre → Ix c pre W → W.heap[D]? = some (.deferred (some [])) → c.wpIn F n P Q { a with defers := { target := .collected D, args := #[] } :: a.defers } W)
    (hpanic : ∀ (D : Nat) (c : List PanicEntry) (pre : List α) (W : World), w.heap.size ≤ D → Sx pre c → I pre W → W.heap[D]? = some (.deferred (some [])) → Q (.panic c) { a with defers := { target := .collected D, args := #[] } :: a.defers } W) :
    (Code.rangeFunc g ps assign body).wpIn F n P Q a w := by
  obtain ⟨D, hD⟩ : ∃ D, w.heap.size = D := ⟨_, rfl⟩
  refine wpIn_rangeFunc fun fn hfn => ?_
  rw [hro]
  obtain ⟨rec, hrec⟩ : ∃ rec : LoopState → Option Code → Loop, ∀ s c, rec s c = { state := s, pending := c, fn, tmps := a.tmps, params := ps, assign, body, defers := D } := ⟨_, fun _ _ => rfl⟩
  -- the loop's record lies in block D + 1, the rounds' deferred calls in block D
  have two : ∃ W1, (w.alloc (.deferred (some []))).alloc (.loop (rec .ready none)) = W1 ∧ W1.heap[D]? = some (.deferred (some [])) ∧ W1.heap[D + 1]? = some (.loop (rec .ready none)) ∧ I [] W1 ∧ R W1 := by
    refine ⟨_, rfl, ?_, ?_, hI.alloc _ (hI.alloc _ h0), hR _ _⟩
    · rw [← hD]; exact (Below.heap_alloc _ _ _ (by simp)).trans (World.alloc_heap_new w _)
    · have := World.alloc_heap_new (w.alloc (.deferred (some []))) (.loop (rec .ready none))
      rwa [World.size_alloc, hD] at this
  obtain ⟨W1, hW1, kD, kL, i1, r1⟩ := two
  refine ⟨D + 1, [{ target := .collected D, args := #[] }], W1, { target := .fn (.func gf) lb, args := #[.func (.yield (D + 1)) #[] #[]] }, W1, gf, #[.func (.yield (D + 1)) #[] #[]] ++ lb, W1, ?_, ?_, ?_, ?_, fun _ => h1, ?_⟩
  · rw [← hW1, hrec, ← hD]; exact run_enterLoop_outer _ _ _ _ _
  · simp only [resolve, hg]; simp [go_sem]
  · intro f' hf'; simp [Target.leads] at hf'; subst hf'; exact hFg
  · simp [invoke, go_sem, eg]
  let J : List α → World → Prop := fun pre W => I pre W ∧ W.heap[D]? = some (.deferred (some [])) ∧ W.heap[D + 1]? = some (.loop (rec .ready none))
  let Jx : List α → World → Prop := fun pre W => ∃ c, Ix c pre W ∧ W.heap[D]? = some (.deferred (some [])) ∧ W.heap[D + 1]? = some (.loop (rec .done (some c)))
  have yields : ∀ pre x W, J pre W → pre.length < N → YieldAt F (n - 1 - 1) P (D + 1) (encs x) W fun e W' =>
      (e = .returned (.bool true) ∧ J (pre ++ [x]) W' ∧ Kp W W') ∨ (e = .returned (.bool false) ∧ Jx (pre ++ [x]) W') := by
    rintro pre x W ⟨hi, kD, kL⟩ hlen
    have hlt : D + 1 < W.heap.size := (Array.getElem?_eq_some_iff.1 kL).1
    have hy := run_yield (P := P) (args := encs x) kL (by rw [hrec]; exact hps x)
    rw [hrec] at hy
    obtain ⟨busy, hbusy⟩ : ∃ b : Loop, b = { rec .ready none with state := .busy } := ⟨_, rfl⟩
    refine ⟨fn, _, assign, body, hy, roundIn_of_wpIn hfn (hassign _ pre x W _ hi hlen ?_)⟩
    intro a1 W2 hbel hAx2
    have kD : W2.heap[D]? = some (.deferred (some [])) := (hbel.block _ (by omega)).trans kD
    have kL : W2.heap[D + 1]? = some (.loop (rec .ready none)) := (hbel.block _ hlt).trans kL
    have bK0 : Kp W W2 := hKa _ _ (by omega) hbel
    have hlt : D + 1 < W2.heap.size := (Array.getElem?_eq_some_iff.1 kL).1
    have bL : (W2.putObj (D + 1) (.loop busy)).heap[D + 1]? = some (.loop busy) := World.putObj_heap_same hlt
    have bD : (W2.putObj (D + 1) (.loop busy)).heap[D]? = some (.deferred (some [])) := (World.putObj_heap_other (by omega)).trans kD
    have bK : Kp W (W2.putObj (D + 1) (.loop busy)) := hKt bK0 (hKb _ _ _ _ (by omega) kL rfl rfl)
    have bI : Ax pre x a1 (W2.putObj (D + 1) (.loop busy)) := (hAx pre x a1).putObj (s := ()) _ hAx2 (by omega) kL rfl
    refine ⟨_, run_beginRound kL (by rw [hrec]), ?_⟩
    rw [← hbusy]
    -- how a round ends: the record is ready again, or done, with the jump that is still to be made
    have ends : ∀ (c : Option Code) (V : World), KeepsOthers (W2.putObj (D + 1) (.loop busy)) V → ∃ V', V.putObj (D + 1) (.loop (rec (if c.isNone then .ready else .done) c)) = V' ∧
        (Instr.endRound (D + 1) c).run P V = .ok (.bool c.isNone) V' ∧ V.heap[D + 1]? = some (.loop busy) ∧ V'.heap[D]? = some (.deferred (some [])) ∧ V'.heap[D + 1]? = some (.loop (rec (if c.isNone then .ready else .done) c)) := by
      intro c V hV
      have vL := hV.same _ _ bL rfl
      have vD := hV.same _ _ bD rfl
      have run := run_endRound (P := P) c vL
      have e : ({ busy with state := (if c.isNone then .ready else .done), pending := c } : Loop) = rec (if c.isNone then .ready else .done) c := by rw [hbusy, hrec, hrec]
      rw [e] at run
      exact ⟨_, rfl, run, vL, (World.putObj_heap_other (by omega)).trans vD, World.putObj_heap_same (Array.getElem?_eq_some_iff.1 vL).1⟩
    have leave : ∀ (c : Code) (V : World), KeepsOthers (W2.putObj (D + 1) (.loop busy)) V → Ix c (pre ++ [x]) V → ∃ b V', (Instr.endRound (D + 1) (some c)).run P V = .ok b V' ∧ b = .bool false ∧ Jx (pre ++ [x]) V' := by
      intro c V hV hi'
      obtain ⟨V', rfl, run, vL, vD, vL'⟩ := ends (some c) V hV
      exact ⟨_, _, run, rfl, c, (hIx c).putObj _ hi' (by omega) vL rfl, vD, vL'⟩
    refine wpIn_mono (hbody _ pre x a1 _ bI hlen) ?_
    rintro e a3 V hp
    cases e with
    | normal =>
      obtain ⟨hk, hkp, hi'⟩ := hp
      obtain ⟨V', rfl, run, vL, vD, vL'⟩ := ends none V hk
      exact ⟨_, _, run, .inl ⟨rfl, ⟨hI.putObj _ hi' (by omega) vL rfl, vD, vL'⟩, hKt (hKt bK hkp) (hKb _ _ _ _ (by omega) vL rfl rfl)⟩⟩
    | ret => obtain ⟨b, V', run, rfl, h⟩ := leave .ret V hp.1 hp.2; exact ⟨_, _, run, .inr ⟨rfl, h⟩⟩
    | exit id => obtain ⟨b, V', run, rfl, h⟩ := leave (.exit id) V hp.1 hp.2; exact ⟨_, _, run, .inr ⟨rfl, h⟩⟩
    | goto t => obtain ⟨b, V', run, rfl, h⟩ := leave (.goto t) V hp.1 hp.2; exact ⟨_, _, run, .inr ⟨rfl, h⟩⟩
    | panic ch => exact hp.elim
    | outgrown => exact hp.elim
  refine (hseq (D + 1) J Jx W1 r1 (fun s A B h t => ⟨hIT s A B h.1 t, hT A B D _ t (by omega) (by omega) h.2.1, hT A B (D + 1) _ t (by omega) (by omega) h.2.2⟩)
    (fun s A B h t => by obtain ⟨c, h1, h2, h3⟩ := h; exact ⟨c, hIxT c s A B h1 t, hT A B D _ t (by omega) (by omega) h2, hT A B (D + 1) _ t (by omega) (by omega) h3⟩) yields ⟨i1, kD, kL⟩).mono ?_
  rintro e V (⟨⟨v, rfl⟩, (⟨xs, hS, ⟨hi, vD, vL⟩, hE⟩ | ⟨pre, hSp, c, hi, vD, vL⟩)⟩ | ⟨c, pre, rfl, hSx, hi, vD, vL⟩)
  · have run := run_endLoop (P := P) vL (by rw [hrec]; simp)
    rw [hrec] at run
    exact ⟨none, _, run, hdone D xs _ (by omega) hS (hI.putObj _ hi (by omega) vL rfl) (hEe xs V (D + 1) _ _ (by omega) vL rfl hE) ((World.putObj_heap_other (by omega)).trans vD)⟩
  · have run := run_endLoop (P := P) vL (by rw [hrec]; simp)
    rw [hrec] at run
    exact ⟨some c, _, run, hstop D c pre _ (by omega) hSp ((hIx c).putObj _ hi (by omega) vL rfl) ((World.putObj_heap_other (by omega)).trans vD)⟩
  · exact hpanic D c pre _ (by omega) hSx hi vD
end
/-- A range over an iterator, in a function that no loop stands round; the loop's variables may be boxed. -/
theorem wp_rangeR {P : Program} {α : Type} {Bs : Nat} {g : Operand} {ps : Array Tmp} {assign body : Code} {Q : Exit → Act → World → Prop} {a : Act} {w : World}
    {gf : Nat} {lb : Array Value} (hg : a.eval g = .func (.func gf) #[] lb) (eg : ∀ args w, (callFunc gf args).run P w = .ok (.enter gf args) w)
    {encs : α → Array Value} {s0 : Nat} {T0 T1 : TypeId} {S Sp : List α → Prop} {Sx : List α → List PanicEntry → Prop} {N : Nat} {R : World → Prop} {Ee : List α → World → Prop} (hEe : ∀ xs (W : World) (l : Nat) (o o' : Obj), w.heap.size ≤ l → W.heap[l]? = some o → o.isCells = false → Ee xs W → Ee xs (W.putObj l o')) (hseq : SeqR (Turn Bs (w.heap.size + 2)) Fence.wide 4 P gf lb encs (KeepsR s0 T0 T1) S Sp Sx N R Ee)
    (hs0 : s0 ≤ w.heap.size) (hBs : Bs < w.heap.size)
    (hR : ∀ o o' : Obj, R ((w.alloc o).alloc o')) (hps : ∀ x, (encs x).size = ps.size)
    (I : List α → World → Prop) (Ix : Code → List α → World → Prop) (hI : Abides w.heap.size Bs I) (hIx : ∀ c, Abides w.heap.size Bs (Ix c)) (h0 : I [] w) (Ax : Array Value → List α → α → Act → World → Prop) (hAx : ∀ t pre x a' A B row, Ax t pre x a' A → A.grownBy B row → (∀ r, row = some r → w.heap.size ≤ r ∧ ∃ o, A.heap[r]? = some o ∧ o.isCells = false) → Ax t pre x a' B)
    (hassign : ∀ (l : Nat) (pre : List α) (x : α) (W : World) (K : Act → World → Prop), I pre W → pre.length < N → (∀ a' W', Below W.heap.size W W' → Ax a.tmps pre x a' W' → K a' W') →
      assign.wpIn (Fence.wide.inRound l) 3 P (Exit.then K (fun _ _ _ => False)) { tmps := (ps.zip (encs x)).foldl (fun t (p, v) => t.setIfInBounds p v) a.tmps, defers := [] } W)
    (hbody : ∀ (l : Nat) (pre : List α) (x : α) (a' : Act) (W : World), Ax a.tmps pre x a' W → pre.length < N → body.wpIn (Fence.wide.inRound l) 3 P (ownPostK (KeepsR s0 T0 T1) I Ix (pre ++ [x]) W) a' W)
    (hdone : ∀ (D : Nat) (xs : List α) (W : World), w.heap.size ≤ D → S xs → I xs W → Ee xs W → W.heap[D]? = some (.deferred (some [])) → Q .normal { a with defers := { target := .collected D, args := #[] } :: a.defers } W)
    (hstop : ∀ (D : Nat) (c : Code) (pre : List α) (W : World), w.heap.size ≤ D → Sp pre → Ix c pre W → W.heap[D]? = some (.deferred (some [])) → c.wp P Q { a with defers := { target := .collected D, args := #[] } :: a.defers } W)
    (hpanic : ∀ (D : Nat) (c : List PanicEntry) (pre : List α) (W : World), w.heap.size ≤ D → Sx pre c → I pre W → W.heap[D]? = some (.deferred (some [])) → Q (.panic c) { a with defers := { target := .collected D, args := #[] } :: a.defers } W) :
    (Code.rangeFunc g ps assign body).wp P Q a w := by
  refine (wpIn_wide (n := 5)).1 ?_
  refine wpIn_range_R (T := Turn Bs (w.heap.size + 2)) rfl (by decide) hg trivial eg hEe hseq (fun h k => ⟨h.1.trans k.1, fun i cs T' fr h1 h2 h3 => k.2 i cs T' fr (h.2 i cs T' fr h1 h2 h3) h2 h3⟩) ?_ hR hps ?_ I Ix ?_ ?_ ?_ ?_ h0 (Ax a.tmps) (fun pre x a' _ W W' row hs hg hr => hAx _ pre x a' W W' row hs hg hr) (fun W V h1 h2 => ⟨h2.mono (by omega), fun k cs T' fr q1 _ _ => (h2.block k (Array.getElem?_eq_some_iff.1 q1).1).trans q1⟩) hassign hbody hdone (fun D c pre W h1 h2 h3 h4 => wpIn_wide.2 (hstop D c pre W h1 h2 h3 h4)) hpanic
  · intro W l o o' hl hlo hc _
    exact ⟨⟨rfl, rfl, rfl, by simp [World.putObj], fun k hk => World.putObj_heap_other (by omega)⟩, fun k cs T' fr h1 _ _ => (World.putObj_heap_other (fun e => by subst e; rw [hlo] at h1; cases h1; cases hc)).trans h1⟩
  · rintro A B b o ⟨row, hg, hr⟩ h1 h2 hb
    refine (hg.block b (Array.getElem?_eq_some_iff.1 hb).1 fun e => ?_).trans hb
    rcases hr b e.symm with h | ⟨h, _⟩ <;> omega
  · exact fun s A B row hs hg hr => hI s A B row hs hg fun r e => .inr (hr r e)
  · exact fun c s A B row hs hg hr => hIx c s A B row hs hg fun r e => .inr (hr r e)
  · rintro s A B hs ⟨row, hg, hr⟩
    exact hI s A B row hs hg fun r e => (hr r e).imp id fun h => ⟨by omega, h.2⟩
  · rintro c s A B hs ⟨row, hg, hr⟩
    exact hIx c s A B row hs hg fun r e => (hr r e).imp id fun h => ⟨by omega, h.2⟩
end Go.Proofs.YtahicokokfcieaaGreatDoor
