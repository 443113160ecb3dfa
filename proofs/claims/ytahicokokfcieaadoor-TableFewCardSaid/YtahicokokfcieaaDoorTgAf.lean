/- Several texts in one. -/
import Derived.Test.YtahicokokfcieaaDoorProg
import Derived.Test.YtahicokokfcieaaDoorTgAa
import Derived.Maps.OwnOps
import Derived.Maps.OwnSet
import Derived.RangeFuncKeeps
import Derived.RangeFuncLeaves
import Derived.RangeFuncFrom
import Derived.RangeFuncBound
import Derived.OwnWalkIn
import Derived.RangeFuncRecord
namespace Go.Proofs.YtahicokokfcieaaDoor
open Go.RowKit
open Go.Proofs
open Go.Maps (has size Tidy IsMap)
set_option linter.unusedVariables false

theorem wfUJ {k : Nat} (h : k < 9223372036854775808) : (Lit.int .i64 ((k : Nat) : Int)).wf = true := by
  simp [Lit.wf, IntKind.min, IntKind.max, IntKind.signed, IntKind.bits]
  omega

/-- The datum of a map to which these pairs were written, one behind the other. -/
def mapDJ (l : List (Nat × Nat)) : DataW Unit := l.foldl (fun D p => D.put (.int .i64 ((p.1 : Nat) : Int)) (.lit (.int .i64 ((p.2 : Nat) : Int)))) (.map [])
theorem mapD_snocJ (l : List (Nat × Nat)) (p : Nat × Nat) : mapDJ (l ++ [p]) = (mapDJ l).put (.int .i64 ((p.1 : Nat) : Int)) (.lit (.int .i64 ((p.2 : Nat) : Int))) := by simp [mapDJ, List.foldl_append]
theorem isKeyJ (k : Nat) : WideAt.IsKeyLit (.int .i64 ((k : Nat) : Int)) := trivial
theorem mapD_tidyJ (l : List (Nat × Nat)) : Tidy (mapDJ l) := by
  refine snocRec (p := fun l => Tidy (mapDJ l)) Maps.tidy_empty (fun l p h => ?_) l
  rw [mapD_snocJ]; exact h.put (isKeyJ _) _
theorem key_neJ {a b : Nat} (h : a ≠ b) : (Lit.int .i64 ((a : Nat) : Int)) ≠ (Lit.int .i64 ((b : Nat) : Int)) := by
  intro e
  simp only [Lit.int.injEq, true_and] at e
  omega
/-- What is read at a key: what was written there last; 0: nothing was. -/
def atMJ (l : List (Nat × Nat)) (k : Nat) : Nat := l.foldl (fun a p => if p.1 = k then p.2 else a) 0
theorem atM_snocJ (l : List (Nat × Nat)) (p : Nat × Nat) (k : Nat) : atMJ (l ++ [p]) k = if p.1 = k then p.2 else atMJ l k := by simp [atMJ, List.foldl_append]
def hasMJ (l : List (Nat × Nat)) (k : Nat) : Bool := l.any fun p => decide (p.1 = k)
theorem mapD_hasJ (l : List (Nat × Nat)) (k : Nat) : has (mapDJ l) (.int .i64 ((k : Nat) : Int)) = hasMJ l k := by
  refine snocRec (p := fun l => has (mapDJ l) (.int .i64 ((k : Nat) : Int)) = hasMJ l k) rfl (fun l p h => ?_) l
  rw [mapD_snocJ]
  by_cases e : p.1 = k
  · rw [← e, Maps.has_put_same (mapD_tidyJ l).isMap (isKeyJ _)]
    simp [hasMJ]
  · rw [Maps.has_put_other (key_neJ (Ne.symm e)), h]
    simp [hasMJ, e]
theorem mapD_atJ (l : List (Nat × Nat)) (k : Nat) : (mapDJ l).atKey (.int .i64 ((k : Nat) : Int)) (.lit (.int .i64 0)) = .lit (.int .i64 ((atMJ l k : Nat) : Int)) := by
  refine snocRec (p := fun l => (mapDJ l).atKey (.int .i64 ((k : Nat) : Int)) (.lit (.int .i64 0)) = .lit (.int .i64 ((atMJ l k : Nat) : Int))) rfl (fun l p h => ?_) l
  rw [mapD_snocJ, atM_snocJ]
  by_cases e : p.1 = k
  · rw [← e, Maps.atKey_put_same (mapD_tidyJ l).isMap (isKeyJ _), if_pos rfl]
  · rw [Maps.atKey_put_other (key_neJ (Ne.symm e)), h, if_neg e]
theorem mapD_size_snocJ (l : List (Nat × Nat)) (p : Nat × Nat) : size (mapDJ (l ++ [p])) = if hasMJ l p.1 then size (mapDJ l) else size (mapDJ l) + 1 := by
  rw [mapD_snocJ, Maps.size_put (mapD_tidyJ l), mapD_hasJ]
theorem mapD_size_leJ (l : List (Nat × Nat)) : size (mapDJ l) ≤ l.length := by
  refine snocRec (p := fun l => size (mapDJ l) ≤ l.length) (Nat.le_refl _) (fun l p h => ?_) l
  rw [mapD_size_snocJ, List.length_append]
  split <;> simp <;> omega
/-- No key comes twice. -/
def apartMJ (l : List (Nat × Nat)) : Bool := decide (l.map (·.1)).Nodup
theorem mapD_sizeJ (l : List (Nat × Nat)) : decide (size (mapDJ l) < l.length) = !apartMJ l := by
  refine snocRec (p := fun l => decide (size (mapDJ l) < l.length) = !apartMJ l) (by rfl) (fun l p h => ?_) l
  have hle := mapD_size_leJ l
  rw [mapD_size_snocJ]
  unfold apartMJ at *
  have hn : (List.map (·.1) (l ++ [p])).Nodup ↔ (l.map (·.1)).Nodup ∧ hasMJ l p.1 = false := by
    rw [List.map_append, List.nodup_append]
    unfold hasMJ
    rw [List.any_eq_false]
    simp
  cases hh : hasMJ l p.1 with
  | true =>
    rw [if_pos rfl, decide_eq_true (by rw [List.length_append]; simp; omega), decide_eq_false (by rw [hn, hh]; simp)]; rfl
  | false =>
    rw [if_neg (by simp)]
    have e : decide ((List.map (·.1) (l ++ [p])).Nodup) = decide ((l.map (·.1)).Nodup) := by
      rw [Bool.eq_iff_iff, decide_eq_true_iff, decide_eq_true_iff, hn, hh]; simp
    rw [e, ← h]
    simp [Nat.succ_lt_succ_iff]

/-- A block is a map to which these pairs were written. -/
def IdsJ (w : World) (b : Nat) (l : List (Nat × Nat)) : Prop := World.ownsMap w Tryd.prog 3 (plainElem Tryd.prog 3) b l.length (mapDJ l)
theorem keyedUJ : Maps.Keyed Tryd.prog 3 := Maps.int_keyed Tryd.underlying3
theorem keyUJ {k : Nat} (h : k < 9223372036854775808) : keyOf Tryd.prog 3 (.int .i64 ((k : Nat) : Int)) = some (.int .i64 ((k : Nat) : Int)) := Maps.keyOf_int_mk Tryd.underlying3 (wfUJ h)
theorem IdsJ.made (w : World) : IdsJ (w.alloc (.map #[] 0)) w.heap.size [] := World.ownsMap_made w _ _ _
theorem IdsJ.grow {w w' : World} {b : Nat} {l : List (Nat × Nat)} (h : IdsJ w b l) (hb : Below w.heap.size w w') : IdsJ w' b l := by
  have hlt := World.ownsMap.lt h
  obtain ⟨es, clock, hb', F, hs, hD⟩ := h
  exact ⟨es, clock, (hb.block b hlt).trans hb', F, hs, hD⟩
theorem below_grownJ {w w' : World} {b base : Nat} (h : w.grownBy w' (some b)) (hb : base ≤ b) (hs : base ≤ w.heap.size) : Below base w w' := (Below.refl base w).grown h hs (fun k e => by cases e; exact hb)

theorem wp_putJ {w : World} {ops : Array Oper} {rest : List Oper} {o : Oper} {a : Act} {Q : Exit → Act → World → Prop} (hg : o.guard = none) (m x v : Operand) (t : TypeId) (hop : o.op = Op.mapUpdate t m x v) (ht : Tryd.prog.underlying t = some (.map 3 3))
    (b k u : Nat) (l : List (Nat × Nat)) (hm : a.eval m = .map (some b)) (hown : IdsJ w b l) (hl : l.length ≤ 100000) (hx : a.eval x = .int .i64 ((k : Nat) : Int)) (hv : a.eval v = .int .i64 ((u : Nat) : Int)) (hk : k < 9223372036854775808) (hu : u < 9223372036854775808)
    (base : Nat) (hb : base ≤ b) (h : ∀ w', IdsJ w' b (l ++ [(k, u)]) → Below base w w' → w.heap.size ≤ w'.heap.size → wpList Tryd.prog ops Q rest (a.put o.dst undef) w') : wpList Tryd.prog ops Q (o :: rest) a w := by
  refine wpList_mapUpdate_own w hg m x v t hop 3 3 keyedUJ ht (plainElem Tryd.prog 3) b l.length (mapDJ l) hm hown (by unfold maxLen; omega) _ _ _ hx hv (keyUJ hk) _ [] (plainElem_int Tryd.underlying3 (wfUJ hu)) ?_
  intro w' h1 h2
  refine h w' ?_ (below_grownJ h2 hb (Nat.le_of_lt (Nat.lt_of_le_of_lt hb (World.ownsMap.lt hown)))) h2.size
  unfold IdsJ
  rw [mapD_snocJ, List.length_append]
  exact h1
theorem wp_atJ {w : World} {ops : Array Oper} {rest : List Oper} {o : Oper} {a : Act} {Q : Exit → Act → World → Prop} (hg : o.guard = none) (m x : Operand) (t : TypeId) (hop : o.op = Op.lookup t m x false) (ht : Tryd.prog.underlying t = some (.map 3 3))
    (b k : Nat) (l : List (Nat × Nat)) (hm : a.eval m = .map (some b)) (hown : IdsJ w b l) (hx : a.eval x = .int .i64 ((k : Nat) : Int)) (hk : k < 9223372036854775808)
    (h : wpList Tryd.prog ops Q rest (a.put o.dst (.int .i64 ((atMJ l k : Nat) : Int))) w) : wpList Tryd.prog ops Q (o :: rest) a w := by
  refine wpList_lookup_own_int w hg m x t hop 3 3 .i64 keyedUJ ht Tryd.underlying3 (by kernel_rfl) b l.length (mapDJ l) hm hown _ _ hx (keyUJ hk) ?_
  intro c hc _
  rw [mapD_atJ] at hc
  obtain rfl : c = ((atMJ l k : Nat) : Int) := by simp at hc; omega
  exact h
theorem wp_lookJ {w : World} {ops : Array Oper} {rest : List Oper} {o : Oper} {a : Act} {Q : Exit → Act → World → Prop} (hg : o.guard = none) (m x : Operand) (t : TypeId) (hop : o.op = Op.lookup t m x true) (ht : Tryd.prog.underlying t = some (.map 3 3))
    (b k : Nat) (l : List (Nat × Nat)) (hm : a.eval m = .map (some b)) (hown : IdsJ w b l) (hx : a.eval x = .int .i64 ((k : Nat) : Int)) (hk : k < 9223372036854775808)
    (h : wpList Tryd.prog ops Q rest (a.put o.dst (.tuple #[.int .i64 ((atMJ l k : Nat) : Int), .bool (hasMJ l k)])) w) : wpList Tryd.prog ops Q (o :: rest) a w := by
  refine wpList_lookup_own_ok_int w hg m x t hop 3 3 .i64 keyedUJ ht Tryd.underlying3 (by kernel_rfl) b l.length (mapDJ l) hm hown _ _ hx (keyUJ hk) ?_
  intro c hc _
  rw [mapD_atJ] at hc
  obtain rfl : c = ((atMJ l k : Nat) : Int) := by simp at hc; omega
  rw [mapD_hasJ]
  exact h
theorem wp_mapLenJ {w : World} {ops : Array Oper} {rest : List Oper} {o : Oper} {a : Act} {Q : Exit → Act → World → Prop} (hg : o.guard = none) (m : Operand) (t : TypeId) (hop : o.op = Op.call { callee := Callee.builtin Builtin.len, args := #[m], argTypes := #[t] }) (ht : Tryd.prog.underlying t = some (.map 3 3))
    (b : Nat) (l : List (Nat × Nat)) (hm : a.eval m = .map (some b)) (hown : IdsJ w b l)
    (h : wpList Tryd.prog ops Q rest (a.put o.dst (.int .i64 ((size (mapDJ l) : Nat) : Int))) w) : wpList Tryd.prog ops Q (o :: rest) a w :=
  wpList_len_own w hg m t hop 3 3 ht _ b l.length (mapDJ l) hm hown h
theorem IdsJ.len {w : World} {b : Nat} {l : List (Nat × Nat)} (h : IdsJ w b l) {t : TypeId} (ht : Tryd.prog.underlying t = some (.map 3 3)) (ty : TypeId) : (Builtin.len_ #[t] ty #[.map (some b)]).run Tryd.prog w = .ok (.int .i64 ((size (mapDJ l) : Nat) : Int)) w := World.ownsMap.len h ht ty
end Go.Proofs.YtahicokokfcieaaDoor
namespace Go.Proofs.YtahicokokfcieaaDoor
open Go.RowKit
set_option linter.unusedVariables false

/-- The word of an iterator whose own turns of the world are T: of the caller's invariant it asks that it abides T. -/
def SeqT {α : Type} (T : World → World → Prop) (F : Fence) (n : Nat) (P : Program) (g : Nat) (lb : Array Value) (encs : α → Array Value) (Kp : World → World → Prop) (S Sp : List α → Prop) (N : Nat) (R : World → Prop) : Prop :=
  ∀ (l : Nat) (J Jx : List α → World → Prop) (W : World), R W → (∀ s A B, J s A → T A B → J s B) → (∀ s A B, Jx s A → T A B → Jx s B) →
    (∀ pre x W1, J pre W1 → pre.length < N → YieldAt F (n - 1) P l (encs x) W1 fun e W' =>
      (e = .returned (.bool true) ∧ J (pre ++ [x]) W' ∧ Kp W1 W') ∨ (e = .returned (.bool false) ∧ Jx (pre ++ [x]) W')) →
    J [] W →
    CallsIn F n P g (#[.func (.yield l) #[] #[]] ++ lb) W fun e W' => (∃ v, e = .returned v) ∧ ((∃ xs, S xs ∧ J xs W') ∨ (∃ pre, Sp pre ∧ Jx pre W'))

section
variable {F : Fence} {n : Nat} {P : Program}

/-- What the caller owes: an invariant I on its own cells (it abides the iterator's turns, and those of the loop's own two blocks), and a walk of its body. -/
theorem wpIn_range_T {α : Type} {T : World → World → Prop} {g : Operand} {ps : Array Tmp} {assign body : Code} {Q : Exit → Act → World → Prop} {a : Act} {w : World}
    (hro : F.round = none) (h1 : 1 ≤ n) {gf : Nat} {lb : Array Value} (hg : a.eval g = .func (.func gf) #[] lb) (hFg : F.fn gf) (eg : ∀ args w, (callFunc gf args).run P w = .ok (.enter gf args) w)
    {encs : α → Array Value} {Kp : World → World → Prop} {S Sp : List α → Prop} {N : Nat} {R : World → Prop} (hseq : SeqT T F (n - 1) P gf lb encs Kp S Sp N R)
    (hKt : ∀ {A B C : World}, Kp A B → Kp B C → Kp A C) (hKb : ∀ (W : World) (l : Nat) (o o' : Obj), w.heap.size ≤ l → W.heap[l]? = some o → o.isCells = false → o.isWalk = false → Kp W (W.putObj l o'))
    (hR : ∀ o o' : Obj, R ((w.alloc o).alloc o')) (hps : ∀ x, (encs x).size = ps.size)
    (hT : ∀ A B (b : Nat) (o : Obj), T A B → w.heap.size ≤ b → b < w.heap.size + 2 → A.heap[b]? = some o → B.heap[b]? = some o)
    (I : List α → World → Prop) (Ix : Code → List α → World → Prop) (hI : OwnFrom w.heap.size I) (hIx : ∀ c, OwnFrom w.heap.size (Ix c)) (hIT : ∀ s A B, I s A → T A B → I s B) (hIxT : ∀ c s A B, Ix c s A → T A B → Ix c s B) (h0 : I [] w) (a₁ : α → Act)
    (hassign : ∀ (l : Nat) (x : α) (W : World) (K : Act → World → Prop), K (a₁ x) W →
      assign.wpIn (F.inRound l) (n - 1 - 1) P (Exit.then K (fun _ _ _ => False)) { tmps := (ps.zip (encs x)).foldl (fun t (p, v) => t.setIfInBounds p v) a.tmps, defers := [] } W)
    (hbody : ∀ (l : Nat) (pre : List α) (x : α) (W : World), I pre W → pre.length < N → body.wpIn (F.inRound l) (n - 1 - 1) P (ownPostK Kp I Ix (pre ++ [x]) W) (a₁ x) W)
    (hdone : ∀ (D : Nat) (xs : List α) (W : World), w.heap.size ≤ D → S xs → I xs W → W.heap[D]? = some (.deferred (some [])) → Q .normal { a with defers := { target := .collected D, args := #[] } :: a.defers } W)
    (hstop : ∀ (D : Nat) (c : Code) (pre : List α) (W : World), w.heap.size ≤ D → Sp pre → Ix c pre W → W.heap[D]? = some (.deferred (some [])) → c.wpIn F n P Q { a with defers := { target := .collected D, args := #[] } :: a.defers } W) :
    (Code.rangeFunc g ps assign body).wpIn F n P Q a w := by
  obtain ⟨D, hD⟩ : ∃ D, w.heap.size = D := ⟨_, rfl⟩
  refine wpIn_rangeFunc fun fn hfn => ?_
  rw [hro]
  obtain ⟨rec, hrec⟩ : ∃ rec : LoopState → Option Code → Loop, ∀ s c, rec s c = { state := s, pending := c, fn, tmps := a.tmps, params := ps, assign, body, defers := D } := ⟨_, fun _ _ => rfl⟩
  -- the loop's record lies in block D + 1, the rounds' deferred calls in block D
  have two : ∃ W1, (w.alloc (.deferred (some []))).alloc (.loop (rec .ready none)) = W1 ∧ W1.heap[D]? = some (.deferred (some [])) ∧ W1.heap[D + 1]? = some (.loop (rec .ready none)) ∧ I [] W1 ∧ R W1 := by
    refine ⟨_, rfl, ?_, ?_, hI.alloc _ (hI.alloc _ h0), hR _ _⟩
    · rw [← hD]; exact (Below.heap_alloc _ _ _ (by simp)).trans (World.alloc_heap_new w _)
    · have := World.alloc_heap_new (w.alloc (.deferred (some []))) (.loop (rec .ready none))
      rwa [World.size_alloc, hD] at this
  obtain ⟨W1, hW1, kD, kL, i1, r1⟩ := two
  refine ⟨D + 1, [{ target := .collected D, args := #[] }], W1, { target := .fn (.func gf) lb, args := #[.func (.yield (D + 1)) #[] #[]] }, W1, gf, #[.func (.yield (D + 1)) #[] #[]] ++ lb, W1, ?_, ?_, ?_, ?_, fun _ => h1, ?_⟩
  · rw [← hW1, hrec, ← hD]; exact run_enterLoop_outer _ _ _ _ _
  · simp only [resolve, hg]; simp [go_sem]
  · intro f' hf'; simp [Target.leads] at hf'; subst hf'; exact hFg
  · simp [invoke, go_sem, eg]
  let J : List α → World → Prop := fun pre W => I pre W ∧ W.heap[D]? = some (.deferred (some [])) ∧ W.heap[D + 1]? = some (.loop (rec .ready none))
  let Jx : List α → World → Prop := fun pre W => ∃ c, Ix c pre W ∧ W.heap[D]? = some (.deferred (some [])) ∧ W.heap[D + 1]? = some (.loop (rec .done (some c)))
  have yields : ∀ pre x W, J pre W → pre.length < N → YieldAt F (n - 1 - 1) P (D + 1) (encs x) W fun e W' =>
      (e = .returned (.bool true) ∧ J (pre ++ [x]) W' ∧ Kp W W') ∨ (e = .returned (.bool false) ∧ Jx (pre ++ [x]) W') := by
    rintro pre x W ⟨hi, kD, kL⟩ hlen
    have hlt : D + 1 < W.heap.size := (Array.getElem?_eq_some_iff.1 kL).1
    have hy := run_yield (P := P) (args := encs x) kL (by rw [hrec]; exact hps x)
    rw [hrec] at hy
    obtain ⟨busy, hbusy⟩ : ∃ b : Loop, b = { rec .ready none with state := .busy } := ⟨_, rfl⟩
    have bL : (W.putObj (D + 1) (.loop busy)).heap[D + 1]? = some (.loop busy) := World.putObj_heap_same hlt
    have bD : (W.putObj (D + 1) (.loop busy)).heap[D]? = some (.deferred (some [])) := (World.putObj_heap_other (by omega)).trans kD
    have bK : Kp W (W.putObj (D + 1) (.loop busy)) := hKb _ _ _ _ (by omega) kL rfl rfl
    have bI : I pre (W.putObj (D + 1) (.loop busy)) := hI.putObj _ hi (by omega) kL rfl
    refine ⟨fn, _, assign, body, hy, roundIn_of_wpIn hfn (hassign _ x W _ ⟨_, run_beginRound kL (by rw [hrec]), ?_⟩)⟩
    rw [← hbusy]
    -- how a round ends: the record is ready again, or done, with the jump that is still to be made
    have ends : ∀ (c : Option Code) (V : World), KeepsOthers (W.putObj (D + 1) (.loop busy)) V → ∃ V', V.putObj (D + 1) (.loop (rec (if c.isNone then .ready else .done) c)) = V' ∧
        (Instr.endRound (D + 1) c).run P V = .ok (.bool c.isNone) V' ∧ V.heap[D + 1]? = some (.loop busy) ∧ V'.heap[D]? = some (.deferred (some [])) ∧ V'.heap[D + 1]? = some (.loop (rec (if c.isNone then .ready else .done) c)) := by
      intro c V hV
      have vL := hV.same _ _ bL rfl
      have vD := hV.same _ _ bD rfl
      have run := run_endRound (P := P) c vL
      have e : ({ busy with state := (if c.isNone then .ready else .done), pending := c } : Loop) = rec (if c.isNone then .ready else .done) c := by rw [hbusy, hrec, hrec]
      rw [e] at run
      exact ⟨_, rfl, run, vL, (World.putObj_heap_other (by omega)).trans vD, World.putObj_heap_same (Array.getElem?_eq_some_iff.1 vL).1⟩
    have leave : ∀ (c : Code) (V : World), KeepsOthers (W.putObj (D + 1) (.loop busy)) V → Ix c (pre ++ [x]) V → ∃ b V', (Instr.endRound (D + 1) (some c)).run P V = .ok b V' ∧ b = .bool false ∧ Jx (pre ++ [x]) V' := by
      intro c V hV hi'
      obtain ⟨V', rfl, run, vL, vD, vL'⟩ := ends (some c) V hV
      exact ⟨_, _, run, rfl, c, (hIx c).putObj _ hi' (by omega) vL rfl, vD, vL'⟩
    refine wpIn_mono (hbody _ pre x _ bI hlen) ?_
    rintro e a3 V hp
    cases e with
    | normal =>
      obtain ⟨hk, hkp, hi'⟩ := hp
      obtain ⟨V', rfl, run, vL, vD, vL'⟩ := ends none V hk
      exact ⟨_, _, run, .inl ⟨rfl, ⟨hI.putObj _ hi' (by omega) vL rfl, vD, vL'⟩, hKt (hKt bK hkp) (hKb _ _ _ _ (by omega) vL rfl rfl)⟩⟩
    | ret => obtain ⟨b, V', run, rfl, h⟩ := leave .ret V hp.1 hp.2; exact ⟨_, _, run, .inr ⟨rfl, h⟩⟩
    | exit id => obtain ⟨b, V', run, rfl, h⟩ := leave (.exit id) V hp.1 hp.2; exact ⟨_, _, run, .inr ⟨rfl, h⟩⟩
    | goto t => obtain ⟨b, V', run, rfl, h⟩ := leave (.goto t) V hp.1 hp.2; exact ⟨_, _, run, .inr ⟨rfl, h⟩⟩
    | panic ch => exact hp.elim
    | outgrown => exact hp.elim
  refine (hseq (D + 1) J Jx W1 r1 (fun s A B h t => ⟨hIT s A B h.1 t, hT A B D _ t (by omega) (by omega) h.2.1, hT A B (D + 1) _ t (by omega) (by omega) h.2.2⟩)
    (fun s A B h t => by obtain ⟨c, h1, h2, h3⟩ := h; exact ⟨c, hIxT c s A B h1 t, hT A B D _ t (by omega) (by omega) h2, hT A B (D + 1) _ t (by omega) (by omega) h3⟩) yields ⟨i1, kD, kL⟩).mono ?_
  rintro e V ⟨⟨v, rfl⟩, (⟨xs, hS, hi, vD, vL⟩ | ⟨pre, hSp, c, hi, vD, vL⟩)⟩
  · have run := run_endLoop (P := P) vL (by rw [hrec]; simp)
    rw [hrec] at run
    exact ⟨none, _, run, hdone D xs _ (by omega) hS (hI.putObj _ hi (by omega) vL rfl) ((World.putObj_heap_other (by omega)).trans vD)⟩
  · have run := run_endLoop (P := P) vL (by rw [hrec]; simp)
    rw [hrec] at run
    exact ⟨some c, _, run, hstop D c pre _ (by omega) hSp ((hIx c).putObj _ hi (by omega) vL rfl) ((World.putObj_heap_other (by omega)).trans vD)⟩
end

/-- An iterator's turn of the world between two rounds: its own variable's block Bs, or a block beyond s0 that is no cells; new blocks. -/
def Turn (Bs s0 : Nat) (A B : World) : Prop := ∃ row, A.grownBy B row ∧ ∀ r, row = some r → r = Bs ∨ (s0 ≤ r ∧ ∃ o, A.heap[r]? = some o ∧ o.isCells = false)
/-- What a round keeps for the iterator. -/
def Keeps (kept : Nat → Prop) (A B : World) : Prop := ∀ k, kept k → B.heap[k]? = A.heap[k]?
/-- An invariant of the caller's abides the iterator's turns. -/
def Abides {β : Type} (B0 Bs : Nat) (I : β → World → Prop) : Prop := ∀ s A B row, I s A → A.grownBy B row → (∀ r, row = some r → r = Bs ∨ (B0 ≤ r ∧ ∃ o, A.heap[r]? = some o ∧ o.isCells = false)) → I s B

theorem grownBy_setCell (A : World) (b i : Nat) (v : Value) : A.grownBy (A.setCell ⟨b, i, none⟩ v) (some b) :=
  ⟨rfl, rfl, rfl, by simp [World.setCell], fun k _ hk => Below.heap_setCell _ _ _ _ (fun e => hk (by rw [e]))⟩
theorem Turn.set (Bs s0 i : Nat) (A : World) (v : Value) : Turn Bs s0 A (A.setCell ⟨Bs, i, none⟩ v) := ⟨_, grownBy_setCell A Bs i v, fun r e => by cases e; exact .inl rfl⟩
theorem grownBy_of_below {A B : World} (h : Below A.heap.size A B) : A.grownBy B none := ⟨h.os, h.tape, h.output, h.size, fun k hk _ => h.block k hk⟩
theorem Turn.grow {Bs s0 : Nat} {A B : World} (h : Below A.heap.size A B) : Turn Bs s0 A B := ⟨none, grownBy_of_below h, fun r e => by cases e⟩
theorem keepsOthers_of_below {A B : World} (h : Below A.heap.size A B) : KeepsOthers A B :=
  ⟨h.size, fun k o hk _ => (h.block k (Array.getElem?_eq_some_iff.1 hk).1).trans hk⟩

/-- A range over an iterator, in a function that no loop stands round. -/
theorem wp_range {P : Program} {α : Type} {Bs : Nat} {g : Operand} {ps : Array Tmp} {assign body : Code} {Q : Exit → Act → World → Prop} {a : Act} {w : World}
    {gf : Nat} {lb : Array Value} (hg : a.eval g = .func (.func gf) #[] lb) (eg : ∀ args w, (callFunc gf args).run P w = .ok (.enter gf args) w)
    {encs : α → Array Value} {kept : Nat → Prop} {S Sp : List α → Prop} {N : Nat} {R : World → Prop} (hseq : SeqT (Turn Bs (w.heap.size + 2)) Fence.wide 4 P gf lb encs (Keeps kept) S Sp N R)
    (hkept : ∀ k, kept k → k < w.heap.size) (hBs : Bs < w.heap.size)
    (hR : ∀ o o' : Obj, R ((w.alloc o).alloc o')) (hps : ∀ x, (encs x).size = ps.size)
    (I : List α → World → Prop) (Ix : Code → List α → World → Prop) (hI : Abides w.heap.size Bs I) (hIx : ∀ c, Abides w.heap.size Bs (Ix c)) (h0 : I [] w) (upd : Array Value → α → Array Value)
    (hassign : ∀ (l : Nat) (x : α) (W : World) (K : Act → World → Prop), K { tmps := upd a.tmps x, defers := [] } W →
      assign.wpIn (Fence.wide.inRound l) 3 P (Exit.then K (fun _ _ _ => False)) { tmps := (ps.zip (encs x)).foldl (fun t (p, v) => t.setIfInBounds p v) a.tmps, defers := [] } W)
    (hbody : ∀ (l : Nat) (pre : List α) (x : α) (W : World), I pre W → pre.length < N → body.wpIn (Fence.wide.inRound l) 3 P (ownPostK (Keeps kept) I Ix (pre ++ [x]) W) { tmps := upd a.tmps x, defers := [] } W)
    (hdone : ∀ (D : Nat) (xs : List α) (W : World), w.heap.size ≤ D → S xs → I xs W → W.heap[D]? = some (.deferred (some [])) → Q .normal { a with defers := { target := .collected D, args := #[] } :: a.defers } W)
    (hstop : ∀ (D : Nat) (c : Code) (pre : List α) (W : World), w.heap.size ≤ D → Sp pre → Ix c pre W → W.heap[D]? = some (.deferred (some [])) → c.wp P Q { a with defers := { target := .collected D, args := #[] } :: a.defers } W) :
    (Code.rangeFunc g ps assign body).wp P Q a w := by
  refine (wpIn_wide (n := 5)).1 ?_
  refine wpIn_range_T (T := Turn Bs (w.heap.size + 2)) rfl (by decide) hg trivial eg hseq (fun h k i hi => (k i hi).trans (h i hi)) ?_ hR hps ?_ I Ix ?_ ?_ ?_ ?_ h0 (fun x => { tmps := upd a.tmps x, defers := [] }) hassign hbody hdone (fun D c pre W h1 h2 h3 h4 => wpIn_wide.2 (hstop D c pre W h1 h2 h3 h4))
  · intro W l o o' hl _ _ _ k hk
    exact World.putObj_heap_other (by have := hkept k hk; omega)
  · rintro A B b o ⟨row, hg, hr⟩ h1 h2 hb
    refine (hg.block b (Array.getElem?_eq_some_iff.1 hb).1 fun e => ?_).trans hb
    rcases hr b e.symm with h | ⟨h, _⟩ <;> omega
  · exact fun s A B row hs hg hr => hI s A B row hs hg fun r e => .inr (hr r e)
  · exact fun c s A B row hs hg hr => hIx c s A B row hs hg fun r e => .inr (hr r e)
  · rintro s A B hs ⟨row, hg, hr⟩
    exact hI s A B row hs hg fun r e => (hr r e).imp id fun h => ⟨by omega, h.2⟩
  · rintro c s A B hs ⟨row, hg, hr⟩
    exact hIx c s A B row hs hg fun r e => (hr r e).imp id fun h => ⟨by omega, h.2⟩

/-- A function with such a loop, entered. -/
theorem calls_of_wp_marks {P : Program} {f : FuncId} {fn : Func} {c : Code} {args : Array Value} {w : World} {R : Ending → World → Prop} (hf : P.funcs[f]? = some fn) (hb : fn.body = some c)
    (h : c.wp P (bodyPostM Fence.wide 5 P fn R) { tmps := args ++ Array.replicate (fn.ntmps - args.size) undef, defers := [] } w) : Calls P f args w R :=
  (callsIn_wide (n := 5)).1 (callsIn_of_wp_marks hf hb trivial (wpIn_wide.2 h))

theorem leaves_mark {P : Program} {fn : Func} {tmps : Array Value} {R : Ending → World → Prop} {D : Nat} {W : World} {v : Value} (hK : W.heap[D]? = some (.deferred (some [])))
    (hr : (results fn tmps).run P (W.putObj D (.deferred none)) = .ok v (W.putObj D (.deferred none))) (hR : R (.returned v) (W.putObj D (.deferred none))) :
    LeavesInM Fence.wide 5 P fn tmps R [{ target := .collected D, args := #[] }] .returning W :=
  ⟨by simp, .inl ⟨D, _, rfl, run_takeDeferred hK, v, hr, hR⟩⟩
theorem leaves_none {P : Program} {fn : Func} {tmps : Array Value} {R : Ending → World → Prop} {W : World} {v : Value}
    (hr : (results fn tmps).run P W = .ok v W) (hR : R (.returned v) W) : LeavesInM Fence.wide 5 P fn tmps R [] .returning W := ⟨v, hr, hR⟩
theorem below_mark {w W : World} {D : Nat} (hb : Below w.heap.size w W) (hD : w.heap.size ≤ D) (hK : W.heap[D]? = some (.deferred (some []))) : Below w.heap.size w (W.putObj D (.deferred none)) :=
  hb.trans (belowK_b (Nat.le_refl _) W D _ _ hD hK rfl rfl)
theorem mark_other {W : World} {D b : Nat} {cs : Array Value} {T : TypeId} {m : Nat × Nat} (hb : W.heap[b]? = some (.cells cs T m)) (hK : W.heap[D]? = some (.deferred (some []))) (o : Obj) : (W.putObj D o).heap[b]? = some (.cells cs T m) := by
  refine (World.putObj_heap_other ?_).trans hb
  intro e
  subst e
  rw [hb] at hK
  cases hK

theorem own_base {W : World} {base base' n size : Nat} {e : TypeId} {v : Value} {xs : List Value} (h : W.ownsRow base e size v n xs) (hb : base' ≤ base) : W.ownsRow base' e size v n xs := by
  refine ⟨h.1, ?_⟩
  rcases h.2 with hn | ⟨g, cap, cur, hv, hg, rest⟩
  · exact .inl hn
  · exact .inr ⟨g, cap, cur, hv, by omega, rest⟩
theorem own_mark {W : World} {D base n size : Nat} {e : TypeId} {v : Value} {xs : List Value} (h : W.ownsRow base e size v n xs) (hK : W.heap[D]? = some (.deferred (some []))) (o : Obj) : (W.putObj D o).ownsRow base e size v n xs := by
  refine ⟨h.1, ?_⟩
  rcases h.2 with hn | ⟨g, cap, cur, rfl, hb, hgg, rest⟩
  · exact .inl hn
  · exact .inr ⟨g, cap, cur, rfl, hb, mark_other hgg hK o, rest⟩

/-- What the turns of an iterator leave. -/
theorem cells_abide {A B : World} {row : Option Nat} {b Bs B0 : Nat} {cs : Array Value} {T : TypeId} {m : Nat × Nat} (h : A.heap[b]? = some (.cells cs T m)) (hg : A.grownBy B row)
    (hr : ∀ r, row = some r → r = Bs ∨ (B0 ≤ r ∧ ∃ o, A.heap[r]? = some o ∧ o.isCells = false)) (hne : b ≠ Bs) : B.heap[b]? = some (.cells cs T m) := by
  refine (hg.block b (Array.getElem?_eq_some_iff.1 h).1 fun e => ?_).trans h
  rcases hr b e.symm with h1 | ⟨_, o, h2, h3⟩
  · exact hne h1
  · rw [h] at h2; cases h2; cases h3
theorem own_abide {A B : World} {row : Option Nat} {Bs B0 base n size : Nat} {e : TypeId} {v : Value} {xs : List Value} (h : A.ownsRow base e size v n xs) (hg : A.grownBy B row)
    (hr : ∀ r, row = some r → r = Bs ∨ (B0 ≤ r ∧ ∃ o, A.heap[r]? = some o ∧ o.isCells = false)) (hne : Bs < base) : B.ownsRow base e size v n xs := by
  refine ⟨h.1, ?_⟩
  rcases h.2 with hn | ⟨g, cap, cur, rfl, hb, hgg, rest⟩
  · exact .inl hn
  · exact .inr ⟨g, cap, cur, rfl, hb, cells_abide hgg hg hr (by omega), rest⟩
theorem below_abide {w A B : World} {row : Option Nat} {Bs B0 : Nat} (h : Below w.heap.size w A) (hg : A.grownBy B row)
    (hr : ∀ r, row = some r → r = Bs ∨ (B0 ≤ r ∧ ∃ o, A.heap[r]? = some o ∧ o.isCells = false)) (h1 : w.heap.size ≤ Bs) (h2 : w.heap.size ≤ B0) : Below w.heap.size w B :=
  h.grown hg h.size fun k e => by rcases hr k e with h | ⟨h, _⟩ <;> omega

/-- One element is appended to a slice that is the call's own, in a round. -/
theorem wpIn_append1 {F : Fence} {nF : Nat} {P : Program} {w : World} {ops : Array Oper} {rest : List Oper} {o : Oper} {a : Act} {Q : Exit → Act → World → Prop} {t e : TypeId} {size bytes : Nat} (I : Elem P t e size bytes) (hgd : o.guard = none) (s x : Operand)
    (ho : o.op = .call { callee := .builtin .append, args := #[s, x], argTypes := #[t, t] })
    (base : Nat) (v : Value) (n : Nat) (xs : List Value) (hs : a.eval s = v) (hown : w.ownsRow base e size v n xs)
    (B : Nat) (news : List Value) (hx : a.eval x = .slice (some ⟨B, 0, none⟩) 1 1) (hl : news.length = size) (hnews : ∀ (j : Nat) u, news[j]? = some u → w.cell? ⟨B, j, none⟩ = some u) (h1 : ∀ u ∈ news, u.oneCell' = true)
    (hn : n ≤ 1000000) (hbase : base ≤ w.heap.size)
    (h : ∀ v' w', w'.ownsRow base e size v' (n + 1) (xs ++ news) → Below base w w' → w.grownBy w' v.ownBlock → wpListIn F nF P ops Q rest (a.put o.dst v') w') : wpListIn F nF P ops Q (o :: rest) a w := by
  obtain ⟨i, z, hi, hz, h2, h3, h4⟩ := I.info
  refine wpListIn_append_own w hgd s x t ho base e i z size bytes I.under hi hz h2 h3 h4 I.pos v n xs hs hown ⟨B, 0, none⟩ 1 1 news hx (by omega) ?_ h1 (by unfold maxLen; omega) ?_ hbase ?_
  · intro j u hj
    have := hnews j u hj
    rcases j with _ | j
    · simpa [Addr.add] using this
    · simpa [Addr.add] using this
  · have := Nat.mul_le_mul (Nat.add_le_add_right hn 1) I.small
    omega
  · intro v' w' hown' hg _
    exact h v' w' hown' (own_below hown hg hbase) hg
end Go.Proofs.YtahicokokfcieaaDoor
namespace Go.Proofs.YtahicokokfcieaaDoor
open Go.RowKit
set_option linter.unusedVariables false

/-- What a round keeps for an iterator that makes maps of its own. -/
def KeepsM (kept : Nat → Prop) (s0 : Nat) (A B : World) : Prop := Keeps kept A B ∧ ∀ (k : Nat) (o : Obj), s0 ≤ k → A.heap[k]? = some o → o.isCells = false → B.heap[k]? = some o
/-- The word of an iterator that may panic. -/
def SeqQ {α : Type} (T : World → World → Prop) (F : Fence) (n : Nat) (P : Program) (g : Nat) (lb : Array Value) (encs : α → Array Value) (Kp : World → World → Prop) (S Sp : List α → Prop) (Sx : List α → List PanicEntry → Prop) (N : Nat) (R : World → Prop) : Prop :=
  ∀ (l : Nat) (J Jx : List α → World → Prop) (W : World), R W → (∀ s A B, J s A → T A B → J s B) → (∀ s A B, Jx s A → T A B → Jx s B) →
    (∀ pre x W1, J pre W1 → pre.length < N → YieldAt F (n - 1) P l (encs x) W1 fun e W' =>
      (e = .returned (.bool true) ∧ J (pre ++ [x]) W' ∧ Kp W1 W') ∨ (e = .returned (.bool false) ∧ Jx (pre ++ [x]) W')) →
    J [] W →
    CallsIn F n P g (#[.func (.yield l) #[] #[]] ++ lb) W fun e W' => ((∃ v, e = .returned v) ∧ ((∃ xs, S xs ∧ J xs W') ∨ (∃ pre, Sp pre ∧ Jx pre W'))) ∨ (∃ c pre, e = .panicked c ∧ Sx pre c ∧ J pre W')

section
variable {F : Fence} {n : Nat} {P : Program}

/-- As wpIn_range_T; the code that gives the loop's variables may make memory: Ax says what it leaves. -/
theorem wpIn_range_Q {α : Type} {T : World → World → Prop} {g : Operand} {ps : Array Tmp} {assign body : Code} {Q : Exit → Act → World → Prop} {a : Act} {w : World}
    (hro : F.round = none) (h1 : 1 ≤ n) {gf : Nat} {lb : Array Value} (hg : a.eval g = .func (.func gf) #[] lb) (hFg : F.fn gf) (eg : ∀ args w, (callFunc gf args).run P w = .ok (.enter gf args) w)
    {encs : α → Array Value} {Kp : World → World → Prop} {S Sp : List α → Prop} {Sx : List α → List PanicEntry → Prop} {N : Nat} {R : World → Prop} (hseq : SeqQ T F (n - 1) P gf lb encs Kp S Sp Sx N R)
    (hKt : ∀ {A B C : World}, Kp A B → Kp B C → Kp A C) (hKb : ∀ (W : World) (l : Nat) (o o' : Obj), l = w.heap.size + 1 → W.heap[l]? = some o → o.isCells = false → o.isWalk = false → Kp W (W.putObj l o'))
    (hR : ∀ o o' : Obj, R ((w.alloc o).alloc o')) (hps : ∀ x, (encs x).size = ps.size)
    (hT : ∀ A B (b : Nat) (o : Obj), T A B → w.heap.size ≤ b → b < w.heap.size + 2 → A.heap[b]? = some o → B.heap[b]? = some o)
    (I : List α → World → Prop) (Ix : Code → List α → World → Prop) (hI : OwnFrom w.heap.size I) (hIx : ∀ c, OwnFrom w.heap.size (Ix c)) (hIT : ∀ s A B, I s A → T A B → I s B) (hIxT : ∀ c s A B, Ix c s A → T A B → Ix c s B) (h0 : I [] w) (Ax : List α → α → Act → World → Prop) (hAx : ∀ pre x a', OwnFrom w.heap.size (fun (_ : Unit) W => Ax pre x a' W)) (hKa : ∀ (W V : World), w.heap.size ≤ W.heap.size → Below W.heap.size W V → Kp W V)
    (hassign : ∀ (l : Nat) (pre : List α) (x : α) (W : World) (K : Act → World → Prop), I pre W → pre.length < N → (∀ a' W', Below W.heap.size W W' → Ax pre x a' W' → K a' W') →
      assign.wpIn (F.inRound l) (n - 1 - 1) P (Exit.then K (fun _ _ _ => False)) { tmps := (ps.zip (encs x)).foldl (fun t (p, v) => t.setIfInBounds p v) a.tmps, defers := [] } W)
    (hbody : ∀ (l : Nat) (pre : List α) (x : α) (a' : Act) (W : World), Ax pre x a' W → pre.length < N → body.wpIn (F.inRound l) (n - 1 - 1) P (ownPostK Kp I Ix (pre ++ [x]) W) a' W)
    (hdone : ∀ (D : Nat) (xs : List α) (W : World), w.heap.size ≤ D → S xs → I xs W → W.heap[D]? = some (.deferred (some [])) → Q .normal { a with defers := { target := .collected D, args := #[] } :: a.defers } W)
    (hstop : ∀ (D : Nat) (c : Code) (pre : List α) (W : World), w.heap.size ≤ D → Sp pre → Ix c pre W → W.heap[D]? = some (.deferred (some [])) → c.wpIn F n P Q { a with defers := { target := .collected D, args := #[] } :: a.defers } W)
    (hpanic : ∀ (D : Nat) (c : List PanicEntry) (pre : List α) (W : World), w.heap.size ≤ D → Sx pre c → I pre W → W.heap[D]? = some (.deferred (some [])) → Q (.panic c) { a with defers := { target := .collected D, args := #[] } :: a.defers } W) :
    (Code.rangeFunc g ps assign body).wpIn F n P Q a w := by
  obtain ⟨D, hD⟩ : ∃ D, w.heap.size = D := ⟨_, rfl⟩
  refine wpIn_rangeFunc fun fn hfn => ?_
  rw [hro]
  obtain ⟨rec, hrec⟩ : ∃ rec : LoopState → Option Code → Loop, ∀ s c, rec s c = { state := s, pending := c, fn, tmps := a.tmps, params := ps, assign, body, defers := D } := ⟨_, fun _ _ => rfl⟩
  -- the loop's record lies in block D + 1, the rounds' deferred calls in block D
  have two : ∃ W1, (w.alloc (.deferred (some []))).alloc (.loop (rec .ready none)) = W1 ∧ W1.heap[D]? = some (.deferred (some [])) ∧ W1.heap[D + 1]? = some (.loop (rec .ready none)) ∧ I [] W1 ∧ R W1 := by
    refine ⟨_, rfl, ?_, ?_, hI.alloc _ (hI.alloc _ h0), hR _ _⟩
    · rw [← hD]; exact (Below.heap_alloc _ _ _ (by simp)).trans (World.alloc_heap_new w _)
    · have := World.alloc_heap_new (w.alloc (.deferred (some []))) (.loop (rec .ready none))
      rwa [World.size_alloc, hD] at this
  obtain ⟨W1, hW1, kD, kL, i1, r1⟩ := two
  refine ⟨D + 1, [{ target := .collected D, args := #[] }], W1, { target := .fn (.func gf) lb, args := #[.func (.yield (D + 1)) #[] #[]] }, W1, gf, #[.func (.yield (D + 1)) #[] #[]] ++ lb, W1, ?_, ?_, ?_, ?_, fun _ => h1, ?_⟩
  · rw [← hW1, hrec, ← hD]; exact run_enterLoop_outer _ _ _ _ _
  · simp only [resolve, hg]; simp [go_sem]
  · intro f' hf'; simp [Target.leads] at hf'; subst hf'; exact hFg
  · simp [invoke, go_sem, eg]
  let J : List α → World → Prop := fun pre W => I pre W ∧ W.heap[D]? = some (.deferred (some [])) ∧ W.heap[D + 1]? = some (.loop (rec .ready none))
  let Jx : List α → World → Prop := fun pre W => ∃ c, Ix c pre W ∧ W.heap[D]? = some (.deferred (some [])) ∧ W.heap[D + 1]? = some (.loop (rec .done (some c)))
  have yields : ∀ pre x W, J pre W → pre.length < N → YieldAt F (n - 1 - 1) P (D + 1) (encs x) W fun e W' =>
      (e = .returned (.bool true) ∧ J (pre ++ [x]) W' ∧ Kp W W') ∨ (e = .returned (.bool false) ∧ Jx (pre ++ [x]) W') := by
    rintro pre x W ⟨hi, kD, kL⟩ hlen
    have hlt : D + 1 < W.heap.size := (Array.getElem?_eq_some_iff.1 kL).1
    have hy := run_yield (P := P) (args := encs x) kL (by rw [hrec]; exact hps x)
    rw [hrec] at hy
    obtain ⟨busy, hbusy⟩ : ∃ b : Loop, b = { rec .ready none with state := .busy } := ⟨_, rfl⟩
    refine ⟨fn, _, assign, body, hy, roundIn_of_wpIn hfn (hassign _ pre x W _ hi hlen ?_)⟩
    intro a1 W2 hbel hAx2
    have kD : W2.heap[D]? = some (.deferred (some [])) := (hbel.block _ (by omega)).trans kD
    have kL : W2.heap[D + 1]? = some (.loop (rec .ready none)) := (hbel.block _ hlt).trans kL
    have bK0 : Kp W W2 := hKa _ _ (by omega) hbel
    have hlt : D + 1 < W2.heap.size := (Array.getElem?_eq_some_iff.1 kL).1
    have bL : (W2.putObj (D + 1) (.loop busy)).heap[D + 1]? = some (.loop busy) := World.putObj_heap_same hlt
    have bD : (W2.putObj (D + 1) (.loop busy)).heap[D]? = some (.deferred (some [])) := (World.putObj_heap_other (by omega)).trans kD
    have bK : Kp W (W2.putObj (D + 1) (.loop busy)) := hKt bK0 (hKb _ _ _ _ (by omega) kL rfl rfl)
    have bI : Ax pre x a1 (W2.putObj (D + 1) (.loop busy)) := (hAx pre x a1).putObj (s := ()) _ hAx2 (by omega) kL rfl
    refine ⟨_, run_beginRound kL (by rw [hrec]), ?_⟩
    rw [← hbusy]
    -- how a round ends: the record is ready again, or done, with the jump that is still to be made
    have ends : ∀ (c : Option Code) (V : World), KeepsOthers (W2.putObj (D + 1) (.loop busy)) V → ∃ V', V.putObj (D + 1) (.loop (rec (if c.isNone then .ready else .done) c)) = V' ∧
        (Instr.endRound (D + 1) c).run P V = .ok (.bool c.isNone) V' ∧ V.heap[D + 1]? = some (.loop busy) ∧ V'.heap[D]? = some (.deferred (some [])) ∧ V'.heap[D + 1]? = some (.loop (rec (if c.isNone then .ready else .done) c)) := by
      intro c V hV
      have vL := hV.same _ _ bL rfl
      have vD := hV.same _ _ bD rfl
      have run := run_endRound (P := P) c vL
      have e : ({ busy with state := (if c.isNone then .ready else .done), pending := c } : Loop) = rec (if c.isNone then .ready else .done) c := by rw [hbusy, hrec, hrec]
      rw [e] at run
      exact ⟨_, rfl, run, vL, (World.putObj_heap_other (by omega)).trans vD, World.putObj_heap_same (Array.getElem?_eq_some_iff.1 vL).1⟩
    have leave : ∀ (c : Code) (V : World), KeepsOthers (W2.putObj (D + 1) (.loop busy)) V → Ix c (pre ++ [x]) V → ∃ b V', (Instr.endRound (D + 1) (some c)).run P V = .ok b V' ∧ b = .bool false ∧ Jx (pre ++ [x]) V' := by
      intro c V hV hi'
      obtain ⟨V', rfl, run, vL, vD, vL'⟩ := ends (some c) V hV
      exact ⟨_, _, run, rfl, c, (hIx c).putObj _ hi' (by omega) vL rfl, vD, vL'⟩
    refine wpIn_mono (hbody _ pre x a1 _ bI hlen) ?_
    rintro e a3 V hp
    cases e with
    | normal =>
      obtain ⟨hk, hkp, hi'⟩ := hp
      obtain ⟨V', rfl, run, vL, vD, vL'⟩ := ends none V hk
      exact ⟨_, _, run, .inl ⟨rfl, ⟨hI.putObj _ hi' (by omega) vL rfl, vD, vL'⟩, hKt (hKt bK hkp) (hKb _ _ _ _ (by omega) vL rfl rfl)⟩⟩
    | ret => obtain ⟨b, V', run, rfl, h⟩ := leave .ret V hp.1 hp.2; exact ⟨_, _, run, .inr ⟨rfl, h⟩⟩
    | exit id => obtain ⟨b, V', run, rfl, h⟩ := leave (.exit id) V hp.1 hp.2; exact ⟨_, _, run, .inr ⟨rfl, h⟩⟩
    | goto t => obtain ⟨b, V', run, rfl, h⟩ := leave (.goto t) V hp.1 hp.2; exact ⟨_, _, run, .inr ⟨rfl, h⟩⟩
    | panic ch => exact hp.elim
    | outgrown => exact hp.elim
  refine (hseq (D + 1) J Jx W1 r1 (fun s A B h t => ⟨hIT s A B h.1 t, hT A B D _ t (by omega) (by omega) h.2.1, hT A B (D + 1) _ t (by omega) (by omega) h.2.2⟩)
    (fun s A B h t => by obtain ⟨c, h1, h2, h3⟩ := h; exact ⟨c, hIxT c s A B h1 t, hT A B D _ t (by omega) (by omega) h2, hT A B (D + 1) _ t (by omega) (by omega) h3⟩) yields ⟨i1, kD, kL⟩).mono ?_
  rintro e V (⟨⟨v, rfl⟩, (⟨xs, hS, hi, vD, vL⟩ | ⟨pre, hSp, c, hi, vD, vL⟩)⟩ | ⟨c, pre, rfl, hSx, hi, vD, vL⟩)
  · have run := run_endLoop (P := P) vL (by rw [hrec]; simp)
    rw [hrec] at run
    exact ⟨none, _, run, hdone D xs _ (by omega) hS (hI.putObj _ hi (by omega) vL rfl) ((World.putObj_heap_other (by omega)).trans vD)⟩
  · have run := run_endLoop (P := P) vL (by rw [hrec]; simp)
    rw [hrec] at run
    exact ⟨some c, _, run, hstop D c pre _ (by omega) hSp ((hIx c).putObj _ hi (by omega) vL rfl) ((World.putObj_heap_other (by omega)).trans vD)⟩
  · exact hpanic D c pre _ (by omega) hSx hi vD
end


/-- A range over an iterator, in a function that no loop stands round; the loop's variables may be boxed. -/
theorem wp_rangeQ {P : Program} {α : Type} {Bs : Nat} {g : Operand} {ps : Array Tmp} {assign body : Code} {Q : Exit → Act → World → Prop} {a : Act} {w : World}
    {gf : Nat} {lb : Array Value} (hg : a.eval g = .func (.func gf) #[] lb) (eg : ∀ args w, (callFunc gf args).run P w = .ok (.enter gf args) w)
    {encs : α → Array Value} {kept : Nat → Prop} {S Sp : List α → Prop} {Sx : List α → List PanicEntry → Prop} {N : Nat} {R : World → Prop} (hseq : SeqQ (Turn Bs (w.heap.size + 2)) Fence.wide 4 P gf lb encs (KeepsM kept (w.heap.size + 2)) S Sp Sx N R)
    (hkept : ∀ k, kept k → k < w.heap.size) (hBs : Bs < w.heap.size)
    (hR : ∀ o o' : Obj, R ((w.alloc o).alloc o')) (hps : ∀ x, (encs x).size = ps.size)
    (I : List α → World → Prop) (Ix : Code → List α → World → Prop) (hI : Abides w.heap.size Bs I) (hIx : ∀ c, Abides w.heap.size Bs (Ix c)) (h0 : I [] w) (Ax : Array Value → List α → α → Act → World → Prop) (hAx : ∀ t pre x a' A B row, Ax t pre x a' A → A.grownBy B row → (∀ r, row = some r → w.heap.size ≤ r ∧ ∃ o, A.heap[r]? = some o ∧ o.isCells = false) → Ax t pre x a' B)
    (hassign : ∀ (l : Nat) (pre : List α) (x : α) (W : World) (K : Act → World → Prop), I pre W → pre.length < N → (∀ a' W', Below W.heap.size W W' → Ax a.tmps pre x a' W' → K a' W') →
      assign.wpIn (Fence.wide.inRound l) 3 P (Exit.then K (fun _ _ _ => False)) { tmps := (ps.zip (encs x)).foldl (fun t (p, v) => t.setIfInBounds p v) a.tmps, defers := [] } W)
    (hbody : ∀ (l : Nat) (pre : List α) (x : α) (a' : Act) (W : World), Ax a.tmps pre x a' W → pre.length < N → body.wpIn (Fence.wide.inRound l) 3 P (ownPostK (KeepsM kept (w.heap.size + 2)) I Ix (pre ++ [x]) W) a' W)
    (hdone : ∀ (D : Nat) (xs : List α) (W : World), w.heap.size ≤ D → S xs → I xs W → W.heap[D]? = some (.deferred (some [])) → Q .normal { a with defers := { target := .collected D, args := #[] } :: a.defers } W)
    (hstop : ∀ (D : Nat) (c : Code) (pre : List α) (W : World), w.heap.size ≤ D → Sp pre → Ix c pre W → W.heap[D]? = some (.deferred (some [])) → c.wp P Q { a with defers := { target := .collected D, args := #[] } :: a.defers } W)
    (hpanic : ∀ (D : Nat) (c : List PanicEntry) (pre : List α) (W : World), w.heap.size ≤ D → Sx pre c → I pre W → W.heap[D]? = some (.deferred (some [])) → Q (.panic c) { a with defers := { target := .collected D, args := #[] } :: a.defers } W) :
    (Code.rangeFunc g ps assign body).wp P Q a w := by
  refine (wpIn_wide (n := 5)).1 ?_
  refine wpIn_range_Q (T := Turn Bs (w.heap.size + 2)) rfl (by decide) hg trivial eg hseq (fun h k => ⟨fun i hi => (k.1 i hi).trans (h.1 i hi), fun j o q1 q2 q3 => k.2 j o q1 (h.2 j o q1 q2 q3) q3⟩) ?_ hR hps ?_ I Ix ?_ ?_ ?_ ?_ h0 (Ax a.tmps) (fun pre x a' _ W W' row hs hg hr => hAx _ pre x a' W W' row hs hg hr) (fun W V h1 h2 => ⟨fun k hk => h2.block k (by have := hkept k hk; omega), fun k o q1 q2 q3 => (h2.block k (Array.getElem?_eq_some_iff.1 q2).1).trans q2⟩) hassign hbody hdone (fun D c pre W h1 h2 h3 h4 => wpIn_wide.2 (hstop D c pre W h1 h2 h3 h4)) hpanic
  · intro W l o o' hl _ _ _
    exact ⟨fun k hk => World.putObj_heap_other (by have := hkept k hk; omega), fun k o q1 q2 q3 => (World.putObj_heap_other (by omega)).trans q2⟩
  · rintro A B b o ⟨row, hg, hr⟩ h1 h2 hb
    refine (hg.block b (Array.getElem?_eq_some_iff.1 hb).1 fun e => ?_).trans hb
    rcases hr b e.symm with h | ⟨h, _⟩ <;> omega
  · exact fun s A B row hs hg hr => hI s A B row hs hg fun r e => .inr (hr r e)
  · exact fun c s A B row hs hg hr => hIx c s A B row hs hg fun r e => .inr (hr r e)
  · rintro s A B hs ⟨row, hg, hr⟩
    exact hI s A B row hs hg fun r e => (hr r e).imp id fun h => ⟨by omega, h.2⟩
  · rintro c s A B hs ⟨row, hg, hr⟩
    exact hIx c s A B row hs hg fun r e => (hr r e).imp id fun h => ⟨by omega, h.2⟩

end Go.Proofs.YtahicokokfcieaaDoor
