/- Processes: need, tries: who leaves with an error is caught (printed by gen_pr5.py). -/
import Derived.Test.YtmnbkhmphhgdiaaDoorPr3
import Derived.Test.YtmnbkhmphhgdiaaDoorWhole
import Derived.RecoverIn
namespace Go.Proofs.YtmnbkhmphhgdiaaDoor
open Go.RowKit Go.Shelf
open Go.Proofs
set_option linter.unusedVariables false
attribute [local go_sem] Oper.semAt_some
abbrev errV (code : Nat) : Value := .iface 32 (.int .i64 ((code : Nat) : Int))
abbrev errC (code : Nat) : List PanicEntry := [{ v := errV code, recovered := false }]
theorem need_t (code : Nat) (V : World) : Calls Tryd.prog 38 #[.bool true, .int .i64 ((code : Nat) : Int)] V (Ret (.tuple #[]) V) := by
  go_enter Tryd.func38, Tryd.ntmps38
  go_wp2
  go_end0
  exact ⟨rfl, Below.refl _ _⟩
theorem need_f (code : Nat) (V : World) : Calls Tryd.prog 38 #[.bool false, .int .i64 ((code : Nat) : Int)] V (fun e W => e = .panicked (errC code) ∧ Below V.heap.size V W) := by
  go_enter Tryd.func38, Tryd.ntmps38
  go_wp2
  exact ⟨rfl, rfl, Below.refl _ _⟩
theorem grownBy_far {V W W' : World} {B : Option Nat} {Z : Nat} (h : V.grownBy W B) (k : W.grownBy W' (some Z)) (hZ : V.heap.size ≤ Z) : V.grownBy W' B :=
  ⟨k.os.trans h.os, k.tape.trans h.tape, k.output.trans h.output, Nat.le_trans h.size k.size, fun i hi hr => (k.block i (Nat.lt_of_lt_of_le hi h.size) (fun e => by cases e; omega)).trans (h.block i hi hr)⟩
theorem grownBy_none {V W : World} (h : Below V.heap.size V W) (B : Option Nat) : V.grownBy W B := ⟨h.os, h.tape, h.output, h.size, fun k hk _ => h.block k hk⟩
theorem grownBy_grow {V W W' : World} {B : Option Nat} (h : V.grownBy W B) (k : Below W.heap.size W W') : V.grownBy W' B :=
  ⟨k.os.trans h.os, k.tape.trans h.tape, k.output.trans h.output, Nat.le_trans h.size k.size, fun i hi hr => (k.block i (Nat.lt_of_lt_of_le hi h.size)).trans (h.block i hi hr)⟩
/-- What a variable of the caller's holds, if there is one. -/
def BoxIs (B : Option Nat) (m : Nat) (W : World) : Prop := ∀ b, B = some b → W.heap[b]? = some (.cells #[.int .u64 ((m : Nat) : Int)] 29 (0, 0))
theorem BoxIs.grow {B : Option Nat} {m : Nat} {W W' : World} (h : BoxIs B m W) (k : Below W.heap.size W W') : BoxIs B m W' := fun b e => keep_laid (h b e) k
theorem BoxIs.far {B : Option Nat} {m Z n : Nat} {W W' : World} (h : BoxIs B m W) (k : ∀ (b : Nat) (o : Obj), b ≠ Z → W.heap[b]? = some o → W'.heap[b]? = some o) (hB : ∀ b, B = some b → b < n) (hZ : n ≤ Z) : BoxIs B m W' := fun b e => k b _ (by have := hB b e; omega) (h b e)
/-- What comes of processes that are changed. -/
abbrev Res := Except Nat ((Nat → Int) × List Pr × Nat)
/-- Only the blocks P were written. -/
structure TchP (P : Nat → Prop) (V W : World) : Prop where
  os : W.os = V.os
  tape : W.tape = V.tape
  output : W.output = V.output
  size : V.heap.size ≤ W.heap.size
  block : ∀ k, k < V.heap.size → ¬ P k → W.heap[k]? = V.heap[k]?
theorem TchP.keep {P : Nat → Prop} {V W : World} (h : TchP P V W) {k : Nat} {o : Obj} (ho : V.heap[k]? = some o) (hk : ¬ P k) : W.heap[k]? = some o := (h.block k (lt_laid ho) hk).trans ho
theorem TchP.of_below {P : Nat → Prop} {V W : World} (h : Below V.heap.size V W) : TchP P V W := ⟨h.os, h.tape, h.output, h.size, fun k hk _ => h.block k hk⟩
theorem TchP.trans {P : Nat → Prop} {A B C : World} (h : TchP P A B) (k : TchP P B C) : TchP P A C :=
  ⟨k.os.trans h.os, k.tape.trans h.tape, k.output.trans h.output, Nat.le_trans h.size k.size, fun i hi hp => (k.block i (Nat.lt_of_lt_of_le hi h.size) hp).trans (h.block i hi hp)⟩
theorem TchP.set {P : Nat → Prop} (V : World) {Z : Nat} (i : Nat) (v : Value) (hZ : P Z) : TchP P V (V.setCell ⟨Z, i, none⟩ v) :=
  have g := grownBy_setCell V Z i v
  ⟨g.os, g.tape, g.output, g.size, fun k hk hp => g.block k hk (fun e => hp (by cases e; exact hZ))⟩
theorem TchP.of_grown {P : Nat → Prop} {V W : World} {Z : Nat} (g : V.grownBy W (some Z)) (hZ : P Z) : TchP P V W :=
  ⟨g.os, g.tape, g.output, g.size, fun k hk hp => g.block k hk (fun e => hp (by cases e; exact hZ))⟩
abbrev Wr (T : Nat) (g B : Option Nat) : Nat → Prop := fun k => k = T ∨ g = some k ∨ B = some k
theorem TchP.grown {V W W' : World} {T : Nat} {g B : Option Nat} (h : TchP (Wr T g B) W W') (hb : Below V.heap.size V W) (hT : V.heap.size ≤ T) (hg : ∀ k, g = some k → V.heap.size ≤ k) : V.grownBy W' B :=
  ⟨h.os.trans hb.os, h.tape.trans hb.tape, h.output.trans hb.output, Nat.le_trans hb.size h.size, fun k hk hB => (h.block k (Nat.lt_of_lt_of_le hk hb.size) (by
    rintro (rfl | e | e)
    · omega
    · have := hg k e; omega
    · exact hB e.symm)).trans (hb.block k hk)⟩
def DoesOk (W0 : World) (base T : Nat) (g B : Option Nat) (res : Res) (e : Ending) (W : World) : Prop := TchP (Wr T g B) W0 W ∧ match res with
  | .error code => e = .panicked (errC code) ∧ BoxIs B 0 W
  | .ok (G', L', m) => e = .returned (.tuple #[]) ∧ BoxIs B m W ∧ ∃ a' c', W.heap[T]? = some (.cells #[.int .i64 (G' 0), .int .i64 (G' 1), .int .i64 (G' 2), .int .i64 (G' 3), .int .i64 (G' 4), .int .i64 (G' 5), .int .i64 (G' 6), .int .i64 (G' 7), .int .i64 (G' 8), .int .i64 (G' 9), .int .i64 (G' 10), .int .i64 (G' 11), .int .i64 (G' 12), .int .i64 (G' 13), .int .i64 (G' 14), .int .i64 (G' 15), .slice a' L'.length c'] 65 (0, 0)) ∧ W.ownsRow base 45 4 (.slice a' L'.length c') L'.length (prcells L')
def GivesT (V : World) (B : Option Nat) (res : Res) (e : Ending) (W : World) : Prop := V.grownBy W B ∧ match res with
  | .error code => e = .returned (.tuple #[.agg #[.int .i64 0, .int .i64 0, .int .i64 0, .int .i64 0, .int .i64 0, .int .i64 0, .int .i64 0, .int .i64 0, .int .i64 0, .int .i64 0, .int .i64 0, .int .i64 0, .int .i64 0, .int .i64 0, .int .i64 0, .int .i64 0, .slice none 0 0], .int .i64 ((code : Nat) : Int)]) ∧ BoxIs B 0 W
  | .ok (G', L', m) => ∃ a' c', e = .returned (.tuple #[.agg #[.int .i64 (G' 0), .int .i64 (G' 1), .int .i64 (G' 2), .int .i64 (G' 3), .int .i64 (G' 4), .int .i64 (G' 5), .int .i64 (G' 6), .int .i64 (G' 7), .int .i64 (G' 8), .int .i64 (G' 9), .int .i64 (G' 10), .int .i64 (G' 11), .int .i64 (G' 12), .int .i64 (G' 13), .int .i64 (G' 14), .int .i64 (G' 15), .slice a' L'.length c'], .int .i64 0]) ∧ BoxIs B m W ∧ W.ownsRow V.heap.size 45 4 (.slice a' L'.length c') L'.length (prcells L')
theorem as_err (code : Nat) (w : World) : (Instr.typeAssert (errV code) 20 32 true).run Tryd.prog w = .ok (.tuple #[.int .i64 ((code : Nat) : Int), .bool true]) w := by
  kernel_rfl
attribute [local go_sem] as_err
theorem tries_result {W : World} {b4 b5 : Nat} {v4_0 v4_1 v4_2 v4_3 v4_4 v4_5 v4_6 v4_7 v4_8 v4_9 v4_10 v4_11 v4_12 v4_13 v4_14 v4_15 v4_16 v5_0 : Value} {tmps : Array Value} (h4 : W.heap[b4]? = some (.cells #[v4_0, v4_1, v4_2, v4_3, v4_4, v4_5, v4_6, v4_7, v4_8, v4_9, v4_10, v4_11, v4_12, v4_13, v4_14, v4_15, v4_16] 25 (0, 0))) (q4 : tmps[4]?.getD undef = .pointer (some ⟨b4, 0, none⟩)) (h5 : W.heap[b5]? = some (.cells #[v5_0] 32 (0, 0))) (q5 : tmps[5]?.getD undef = .pointer (some ⟨b5, 0, none⟩)) :
    (results Tryd.f29 tmps).run Tryd.prog W = .ok (.tuple #[.agg #[v4_0, v4_1, v4_2, v4_3, v4_4, v4_5, v4_6, v4_7, v4_8, v4_9, v4_10, v4_11, v4_12, v4_13, v4_14, v4_15, v4_16], v5_0]) W := by
  have e4_0 := cell_laid (i := 0) (v := v4_0) h4 rfl
  have e4_1 := cell_laid (i := 1) (v := v4_1) h4 rfl
  have e4_2 := cell_laid (i := 2) (v := v4_2) h4 rfl
  have e4_3 := cell_laid (i := 3) (v := v4_3) h4 rfl
  have e4_4 := cell_laid (i := 4) (v := v4_4) h4 rfl
  have e4_5 := cell_laid (i := 5) (v := v4_5) h4 rfl
  have e4_6 := cell_laid (i := 6) (v := v4_6) h4 rfl
  have e4_7 := cell_laid (i := 7) (v := v4_7) h4 rfl
  have e4_8 := cell_laid (i := 8) (v := v4_8) h4 rfl
  have e4_9 := cell_laid (i := 9) (v := v4_9) h4 rfl
  have e4_10 := cell_laid (i := 10) (v := v4_10) h4 rfl
  have e4_11 := cell_laid (i := 11) (v := v4_11) h4 rfl
  have e4_12 := cell_laid (i := 12) (v := v4_12) h4 rfl
  have e4_13 := cell_laid (i := 13) (v := v4_13) h4 rfl
  have e4_14 := cell_laid (i := 14) (v := v4_14) h4 rfl
  have e4_15 := cell_laid (i := 15) (v := v4_15) h4 rfl
  have e4_16 := cell_laid (i := 16) (v := v4_16) h4 rfl
  have e5_0 := cell_laid (i := 0) (v := v5_0) h5 rfl
  simp [results, Tryd.results29, go_sem, e4_0, e4_1, e4_2, e4_3, e4_4, e4_5, e4_6, e4_7, e4_8, e4_9, e4_10, e4_11, e4_12, e4_13, e4_14, e4_15, e4_16, q4, e5_0, q5]
theorem tries1_idle (Z4 Z5 : Nat) (w : World) :
    CallsDIn Fence.wide 4 Tryd.prog 52 #[.pointer (some ⟨Z4, 0, none⟩), .pointer (some ⟨Z5, 0, none⟩)] .returning w (fun e u' w' => e = .returned (.tuple #[]) ∧ u' = .returning ∧ w' = w) := by
  refine callsDIn_of_wpSIn Tryd.func52 rfl trivial fun c₀ cs hu => ?_
  apply wpSIn_seq
  apply wpSIn_region
  simp [wpOpsSIn, go_sem, recoverD, hu, Tryd.ntmps52, Exit.thenS]
  refine wpSIn_of_wpIn rfl ?_
  refine wpIn_wide.2 ?_
  simp only [Array.replicate_succ, Array.replicate_zero, List.push_toArray, List.append_toArray, List.nil_append, List.cons_append, List.setIfInBounds_toArray, List.set_cons_succ, List.set_cons_zero]
  go_wp2
  cases c₀
  simp_all [bodyPostS, results, Tryd.results52]
set_option maxRecDepth 100000 in
set_option maxHeartbeats 4000000 in
theorem tries1_caught (Z4 Z5 code : Nat) (v0 v1 v2 v3 v4 v5 v6 v7 v8 v9 v10 v11 v12 v13 v14 v15 v16 u0 : Value) (older : List PanicEntry) (w : World) (b4 : w.heap[Z4]? = some (.cells #[v0, v1, v2, v3, v4, v5, v6, v7, v8, v9, v10, v11, v12, v13, v14, v15, v16] 25 (0, 0))) (b5 : w.heap[Z5]? = some (.cells #[u0] 32 (0, 0))) :
    CallsDIn Fence.wide 4 Tryd.prog 52 #[.pointer (some ⟨Z4, 0, none⟩), .pointer (some ⟨Z5, 0, none⟩)] (.panicking ({ v := errV code, recovered := false } :: older)) w (fun e u' w' => e = .returned (.tuple #[]) ∧ u' = .panicking ({ v := errV code, recovered := true } :: older) ∧
      w'.heap[Z4]? = some (.cells #[.int .i64 0, .int .i64 0, .int .i64 0, .int .i64 0, .int .i64 0, .int .i64 0, .int .i64 0, .int .i64 0, .int .i64 0, .int .i64 0, .int .i64 0, .int .i64 0, .int .i64 0, .int .i64 0, .int .i64 0, .int .i64 0, .slice none 0 0] 25 (0, 0)) ∧ w'.heap[Z5]? = some (.cells #[.int .i64 ((code : Nat) : Int)] 32 (0, 0)) ∧ ∃ w1, w.grownBy w1 (some Z4) ∧ w1.grownBy w' (some Z5) ∧ (∀ (k : Nat) (o : Obj), k ≠ Z4 → k ≠ Z5 → w.heap[k]? = some o → w'.heap[k]? = some o)) := by
  have n45 := type_ne b4 b5 (by decide)
  obtain ⟨w1, hw1, a1, a2, a3, a4⟩ := putN17 b4 (.int .i64 0) (.int .i64 0) (.int .i64 0) (.int .i64 0) (.int .i64 0) (.int .i64 0) (.int .i64 0) (.int .i64 0) (.int .i64 0) (.int .i64 0) (.int .i64 0) (.int .i64 0) (.int .i64 0) (.int .i64 0) (.int .i64 0) (.int .i64 0) (.slice none 0 0)
  have E1 := hid hw1
  have k5 := a2 Z5 _ (Ne.symm n45) b5
  obtain ⟨z0, zf0, z1, zf1, z2, zf2, z3, zf3, z4, zf4, z5, zf5, z6, zf6, z7, zf7, z8, zf8, z9, zf9, z10, zf10, z11, zf11, z12, zf12, z13, zf13, z14, zf14, z15, zf15, z16, zf16⟩ := fcl17 (b4)
  have y0 := cell_laid (i := 0) k5 rfl
  have yf0 := free_laid (i := 0) k5
  have x0 := cell_laid (i := 0) b5 rfl
  have xf0 := free_laid (i := 0) b5
  have H4 := hid (other_laid (i := 0) (b' := Z5) a1 n45 (.int .i64 ((code : Nat) : Int)))
  have H5 := hid (set_laid (i := 0) k5 (.int .i64 ((code : Nat) : Int)))
  have HG := hid a4
  have HK := hid (show ∀ (k : Nat) (o : Obj), k ≠ Z4 → k ≠ Z5 → w.heap[k]? = some o → (w1.setCell ⟨Z5, 0, none⟩ (.int .i64 ((code : Nat) : Int))).heap[k]? = some o from fun k o h1 h2 ho => other_laid (a2 k o h1 ho) h2 _)
  have n54 := Ne.symm n45
  clear b4 b5 k5 a1 a2 a3 a4 hw1
  refine callsDIn_of_wpSIn Tryd.func52 rfl trivial fun c₀ cs hu => ?_
  apply wpSIn_seq
  apply wpSIn_region
  simp [wpOpsSIn, go_sem, recoverD, hu, Tryd.ntmps52, Exit.thenS]
  refine wpSIn_of_wpIn rfl ?_
  refine wpIn_wide.2 ?_
  simp only [Array.replicate_succ, Array.replicate_zero, List.push_toArray, List.append_toArray, List.nil_append, List.cons_append, List.setIfInBounds_toArray, List.set_cons_succ, List.set_cons_zero]
  go_wp2
  exact ⟨rfl, _, rfl, _, results_none rfl _ _ _, rfl, rfl, by rw [← E1.out]; exact H4.out, by rw [← E1.out]; exact H5.out, w1, HG.out, by rw [← E1.out]; exact grownBy_setCell _ _ _ _, by rw [← E1.out]; exact HK.out⟩
theorem tries1_invoke (Z4 Z5 : Nat) (W : World) : (invoke (Target.fn (Fn.func 52) #[.pointer (some ⟨Z4, 0, none⟩), .pointer (some ⟨Z5, 0, none⟩)]) #[]).run Tryd.prog W = .ok (.enter 52 #[.pointer (some ⟨Z4, 0, none⟩), .pointer (some ⟨Z5, 0, none⟩)]) W := rfl
theorem leaves_caughtT {W : World} {Z4 Z5 code : Nat} {v0 v1 v2 v3 v4 v5 v6 v7 v8 v9 v10 v11 v12 v13 v14 v15 v16 u0 : Value} {tmps : Array Value} {R : Ending → World → Prop} (c4 : W.heap[Z4]? = some (.cells #[v0, v1, v2, v3, v4, v5, v6, v7, v8, v9, v10, v11, v12, v13, v14, v15, v16] 25 (0, 0))) (c5 : W.heap[Z5]? = some (.cells #[u0] 32 (0, 0)))
    (q0 : tmps[4]?.getD undef = .pointer (some ⟨Z4, 0, none⟩)) (q1 : tmps[5]?.getD undef = .pointer (some ⟨Z5, 0, none⟩))
    (hR : ∀ W1 W', W.grownBy W1 (some Z4) → W1.grownBy W' (some Z5) → (∀ (k : Nat) (o : Obj), k ≠ Z4 → k ≠ Z5 → W.heap[k]? = some o → W'.heap[k]? = some o) → ∀ e, e = Ending.returned (.tuple #[.agg #[.int .i64 0, .int .i64 0, .int .i64 0, .int .i64 0, .int .i64 0, .int .i64 0, .int .i64 0, .int .i64 0, .int .i64 0, .int .i64 0, .int .i64 0, .int .i64 0, .int .i64 0, .int .i64 0, .int .i64 0, .int .i64 0, .slice none 0 0], .int .i64 ((code : Nat) : Int)]) → R e W') :
    LeavesInM Fence.wide 5 Tryd.prog Tryd.f29 tmps R [{ target := .fn (.func 52) #[.pointer (some ⟨Z4, 0, none⟩), .pointer (some ⟨Z5, 0, none⟩)], args := #[] }] (.panicking (errC code)) W := by
  refine ⟨by simp, .inr ⟨(fun h => by cases h), _, _, _, _, rfl, tries1_invoke _ _ _, fun _ _ => trivial, ?_⟩⟩
  refine (tries1_caught Z4 Z5 code v0 v1 v2 v3 v4 v5 v6 v7 v8 v9 v10 v11 v12 v13 v14 v15 v16 u0 [] _ c4 c5).mono ?_
  rintro e u W' ⟨rfl, rfl, d4, d5, W1, g1, g2, hk⟩
  exact ⟨_, tries_result d4 q0 d5 q1, hR W1 W' g1 g2 hk _ rfl⟩
theorem leaves_idleT {W : World} {Z4 Z5 : Nat} {v0 v1 v2 v3 v4 v5 v6 v7 v8 v9 v10 v11 v12 v13 v14 v15 v16 u0 : Value} {tmps : Array Value} {R : Ending → World → Prop} (c4 : W.heap[Z4]? = some (.cells #[v0, v1, v2, v3, v4, v5, v6, v7, v8, v9, v10, v11, v12, v13, v14, v15, v16] 25 (0, 0))) (c5 : W.heap[Z5]? = some (.cells #[u0] 32 (0, 0)))
    (q0 : tmps[4]?.getD undef = .pointer (some ⟨Z4, 0, none⟩)) (q1 : tmps[5]?.getD undef = .pointer (some ⟨Z5, 0, none⟩))
    (hR : ∀ e, e = Ending.returned (.tuple #[.agg #[v0, v1, v2, v3, v4, v5, v6, v7, v8, v9, v10, v11, v12, v13, v14, v15, v16], u0]) → R e W) :
    LeavesInM Fence.wide 5 Tryd.prog Tryd.f29 tmps R [{ target := .fn (.func 52) #[.pointer (some ⟨Z4, 0, none⟩), .pointer (some ⟨Z5, 0, none⟩)], args := #[] }] .returning W := by
  refine ⟨by simp, .inr ⟨(fun h => by cases h), _, _, _, _, rfl, tries1_invoke _ _ _, fun _ _ => trivial, ?_⟩⟩
  refine (tries1_idle Z4 Z5 _).mono ?_
  rintro e u W' ⟨rfl, rfl, rfl⟩
  exact ⟨_, tries_result c4 q0 c5 q1, hR _ rfl⟩
theorem put17_16 {V : World} {Y : Nat} {z0 z1 z2 z3 z4 z5 z6 z7 z8 z9 z10 z11 z12 z13 z14 z15 z16 : Value} {T : TypeId} (h : V.heap[Y]? = some (.cells #[z0, z1, z2, z3, z4, z5, z6, z7, z8, z9, z10, z11, z12, z13, z14, z15, z16] T (0, 0))) (v : Value) :
    ∃ V', V' = V.setCell ⟨Y, 16, none⟩ v ∧ V'.heap[Y]? = some (.cells #[z0, z1, z2, z3, z4, z5, z6, z7, z8, z9, z10, z11, z12, z13, z14, z15, v] T (0, 0)) ∧ (∀ (k : Nat) (o : Obj), k ≠ Y → V.heap[k]? = some o → V'.heap[k]? = some o) ∧ (∀ (B : Nat) (w : World), B ≤ Y → Below B w V → Below B w V') ∧ V.grownBy V' (some Y) :=
  ⟨_, rfl, set_laid (i := 16) h v, fun k o hk ho => other_laid ho hk _, fun B w hB hb => hb.setCell (p := ⟨Y, 16, none⟩) hB v, grownBy_setCell V Y 16 v⟩
end Go.Proofs.YtmnbkhmphhgdiaaDoor
