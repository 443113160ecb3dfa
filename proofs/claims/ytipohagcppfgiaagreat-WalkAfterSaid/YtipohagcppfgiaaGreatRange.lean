/- A range over an iterator that writes variables of its own between two rounds: the caller's invariant must abide such a turn. No program in sight. -/
import Derived.RangeFuncKeeps
import Derived.RangeFuncLeaves
import Derived.RangeFuncFrom
import Derived.RangeFuncBound
import Derived.OwnWalkIn
import Derived.RangeFuncRecord
import Derived.Test.YtipohagcppfgiaaGreatKit
namespace Go.Proofs.YtipohagcppfgiaaGreat
open Go.RowKit
set_option linter.unusedVariables false
/-- The word of an iterator whose own turns of the world are T: of the caller's invariant it asks that it abides T. -/
def SeqT {α : Type} (T : World → World → Prop) (F : Fence) (n : Nat) (P : Program) (g : Nat) (lb : Array Value) (encs : α → Array Value) (Kp : World → World → Prop) (S Sp : List α → Prop) (N : Nat) (R : World → Prop) : Prop :=
 ∀ (l : Nat) (J Jx : List α → World → Prop) (W : World), R W → (∀ s A B, J s A → T A B → J s B) → (∀ s A B, Jx s A → T A B → Jx s B) →
  (∀ pre x W1, J pre W1 → pre.length < N → YieldAt F (n - 1) P l (encs x) W1 fun e W' =>
   (e = .returned (.bool true) ∧ J (pre ++ [x]) W' ∧ Kp W1 W') ∨ (e = .returned (.bool false) ∧ Jx (pre ++ [x]) W')) →
  J [] W →
  CallsIn F n P g (#[.func (.yield l) #[] #[]] ++ lb) W fun e W' => (∃ v, e = .returned v) ∧ ((∃ xs, S xs ∧ J xs W') ∨ (∃ pre, Sp pre ∧ Jx pre W'))
section
variable {F : Fence} {n : Nat} {P : Program}
/-- What the caller owes: an invariant I on its own cells (it abides the iterator's turns, and those of the loop's own two blocks), and a walk of its body. -/
theorem wpIn_range_T {α : Type} {T : World → World → Prop} {g : Operand} {ps : Array Tmp} {assign body : Code} {Q : Exit → Act → World → Prop} {a : Act} {w : World}
  (hro : F.round = none) (h1 : 1 ≤ n) {gf : Nat} {lb : Array Value} (hg : a.eval g = .func (.func gf) #[] lb) (hFg : F.fn gf) (eg : ∀ args w, (callFunc gf args).run P w = .ok (.enter gf args) w)
  {encs : α → Array Value} {Kp : World → World → Prop} {S Sp : List α → Prop} {N : Nat} {R : World → Prop} (hseq : SeqT T F (n - 1) P gf lb encs Kp S Sp N R)
  (hKt : ∀ {A B C : World}, Kp A B → Kp B C → Kp A C) (hKb : ∀ (W : World) (l : Nat) (o o' : Obj), w.heap.size ≤ l → W.heap[l]? = some o → o.isCells = false → o.isWalk = false → Kp W (W.putObj l o'))
  (hR : ∀ o o' : Obj, R ((w.alloc o).alloc o')) (hps : ∀ x, (encs x).size = ps.size)
  (hT : ∀ A B (b : Nat) (o : Obj), T A B → w.heap.size ≤ b → b < w.heap.size + 2 → A.heap[b]? = some o → B.heap[b]? = some o)
  (I : List α → World → Prop) (Ix : Code → List α → World → Prop) (hI : OwnFrom w.heap.size I) (hIx : ∀ c, OwnFrom w.heap.size (Ix c)) (hIT : ∀ s A B, I s A → T A B → I s B) (hIxT : ∀ c s A B, Ix c s A → T A B → Ix c s B) (h0 : I [] w) (a₁ : α → Act)
  (hassign : ∀ (l : Nat) (x : α) (W : World) (K : Act → World → Prop), K (a₁ x) W →
   assign.wpIn (F.inRound l) (n - 1 - 1) P (Exit.then K (fun _ _ _ => False)) { tmps := (ps.zip (encs x)).foldl (fun t (p, v) => t.setIfInBounds p v) a.tmps, defers := [] } W)
  (hbody : ∀ (l : Nat) (pre : List α) (x : α) (W : World), I pre W → pre.length < N → body.wpIn (F.inRound l) (n - 1 - 1) P (ownPostK Kp I Ix (pre ++ [x]) W) (a₁ x) W)
  (hdone : ∀ (D : Nat) (xs : List α) (W : World), w.heap.size ≤ D → S xs → I xs W → W.heap[D]? = some (.deferred (some [])) → Q .normal { a with defers := { target := .collected D, args := #[] } :: a.defers } W)
  (hstop : ∀ (D : Nat) (c : Code) (pre : List α) (W : World), w.heap.size ≤ D → Sp pre → Ix c pre W → W.heap[D]? = some (.deferred (some [])) → c.wpIn F n P Q { a with defers := { target := .collected D, args := #[] } :: a.defers } W) :
  (Code.rangeFunc g ps assign body).wpIn F n P Q a w := by
 obtain ⟨D, hD⟩ := nm (w.heap.size)
 refine wpIn_rangeFunc fun fn hfn => ?_
 rw [hro]
 obtain ⟨rec, hrec⟩ : ∃ rec : LoopState → Option Code → Loop, ∀ s c, rec s c = { state := s, pending := c, fn, tmps := a.tmps, params := ps, assign, body, defers := D } := ⟨_, fun _ _ => rfl⟩
 -- the loop's record lies in block D + 1, the rounds' deferred calls in block D
 have two : ∃ W1, (w.alloc (.deferred (some []))).alloc (.loop (rec .ready none)) = W1 ∧ W1.heap[D]? = some (.deferred (some [])) ∧ W1.heap[D + 1]? = some (.loop (rec .ready none)) ∧ I [] W1 ∧ R W1 := by
  refine ⟨_, rfl, ?_, ?_, hI.alloc _ (hI.alloc _ h0), hR _ _⟩
  ·rw [← hD]; exact (Below.heap_alloc _ _ _ (by simp)).trans (World.alloc_heap_new w _)
  ·have := World.alloc_heap_new (w.alloc (.deferred (some []))) (.loop (rec .ready none))
   rwa [World.size_alloc, hD] at this
 obtain ⟨W1, hW1, kD, kL, i1, r1⟩ := two
 refine ⟨D + 1, [{ target := .collected D, args := #[] }], W1, { target := .fn (.func gf) lb, args := #[.func (.yield (D + 1)) #[] #[]] }, W1, gf, #[.func (.yield (D + 1)) #[] #[]] ++ lb, W1, ?_, ?_, ?_, ?_, fun _ => h1, ?_⟩
 ·rw [← hW1, hrec, ← hD]; exact run_enterLoop_outer _ _ _ _ _
 ·simp only [resolve, hg]; simp [go_sem]
 ·intro f' hf'; simp [Target.leads] at hf'; subst hf'; exact hFg
 ·simp [invoke, go_sem, eg]
 let J : List α → World → Prop := fun pre W => I pre W ∧ W.heap[D]? = some (.deferred (some [])) ∧ W.heap[D + 1]? = some (.loop (rec .ready none))
 let Jx : List α → World → Prop := fun pre W => ∃ c, Ix c pre W ∧ W.heap[D]? = some (.deferred (some [])) ∧ W.heap[D + 1]? = some (.loop (rec .done (some c)))
 have yields : ∀ pre x W, J pre W → pre.length < N → YieldAt F (n - 1 - 1) P (D + 1) (encs x) W fun e W' =>
   (e = .returned (.bool true) ∧ J (pre ++ [x]) W' ∧ Kp W W') ∨ (e = .returned (.bool false) ∧ Jx (pre ++ [x]) W') := by
  rintro pre x W ⟨hi, kD, kL⟩ hlen
  have hlt : D + 1 < W.heap.size := (Array.getElem?_eq_some_iff.1 kL).1
  have hy := run_yield (P := P) (args := encs x) kL (by rw [hrec]; exact hps x)
  rw [hrec] at hy
  obtain ⟨busy, hbusy⟩ : ∃ b : Loop, b = { rec .ready none with state := .busy } := ⟨_, rfl⟩
  have bL : (W.putObj (D + 1) (.loop busy)).heap[D + 1]? = some (.loop busy) := World.putObj_heap_same hlt
  have bD : (W.putObj (D + 1) (.loop busy)).heap[D]? = some (.deferred (some [])) := (World.putObj_heap_other (by omega)).trans kD
  have bK : Kp W (W.putObj (D + 1) (.loop busy)) := hKb _ _ _ _ (by omega) kL rfl rfl
  have bI : I pre (W.putObj (D + 1) (.loop busy)) := hI.putObj _ hi (by omega) kL rfl
  refine ⟨fn, _, assign, body, hy, roundIn_of_wpIn hfn (hassign _ x W _ ⟨_, run_beginRound kL (by rw [hrec]), ?_⟩)⟩
  rw [← hbusy]
  -- how a round ends: the record is ready again, or done, with the jump that is still to be made
  have ends : ∀ (c : Option Code) (V : World), KeepsOthers (W.putObj (D + 1) (.loop busy)) V → ∃ V', V.putObj (D + 1) (.loop (rec (if c.isNone then .ready else .done) c)) = V' ∧
    (Instr.endRound (D + 1) c).run P V = .ok (.bool c.isNone) V' ∧ V.heap[D + 1]? = some (.loop busy) ∧ V'.heap[D]? = some (.deferred (some [])) ∧ V'.heap[D + 1]? = some (.loop (rec (if c.isNone then .ready else .done) c)) := by
   intro c V hV
   have vL := hV.same _ _ bL rfl
   have vD := hV.same _ _ bD rfl
   have run := run_endRound (P := P) c vL
   have e : ({ busy with state := (if c.isNone then .ready else .done), pending := c } : Loop) = rec (if c.isNone then .ready else .done) c := by rw [hbusy, hrec, hrec]
   rw [e] at run
   exact ⟨_, rfl, run, vL, (World.putObj_heap_other (by omega)).trans vD, World.putObj_heap_same (Array.getElem?_eq_some_iff.1 vL).1⟩
  have leave : ∀ (c : Code) (V : World), KeepsOthers (W.putObj (D + 1) (.loop busy)) V → Ix c (pre ++ [x]) V → ∃ b V', (Instr.endRound (D + 1) (some c)).run P V = .ok b V' ∧ b = .bool false ∧ Jx (pre ++ [x]) V' := by
   intro c V hV hi'
   obtain ⟨V', rfl, run, vL, vD, vL'⟩ := ends (some c) V hV
   exact ⟨_, _, run, rfl, c, (hIx c).putObj _ hi' (by omega) vL rfl, vD, vL'⟩
  refine wpIn_mono (hbody _ pre x _ bI hlen) ?_
  rintro e a3 V hp
  cases e with
  | normal =>
   obtain ⟨hk, hkp, hi'⟩ := hp
   obtain ⟨V', rfl, run, vL, vD, vL'⟩ := ends none V hk
   exact ⟨_, _, run, .inl ⟨rfl, ⟨hI.putObj _ hi' (by omega) vL rfl, vD, vL'⟩, hKt (hKt bK hkp) (hKb _ _ _ _ (by omega) vL rfl rfl)⟩⟩
  | ret => obtain ⟨b, V', run, rfl, h⟩ := leave .ret V hp.1 hp.2; exact ⟨_, _, run, .inr ⟨rfl, h⟩⟩
  | exit id => obtain ⟨b, V', run, rfl, h⟩ := leave (.exit id) V hp.1 hp.2; exact ⟨_, _, run, .inr ⟨rfl, h⟩⟩
  | goto t => obtain ⟨b, V', run, rfl, h⟩ := leave (.goto t) V hp.1 hp.2; exact ⟨_, _, run, .inr ⟨rfl, h⟩⟩
  | panic ch => exact hp.elim
  | outgrown => exact hp.elim
 refine (hseq (D + 1) J Jx W1 r1 (fun s A B h t => ⟨hIT s A B h.1 t, hT A B D _ t (by omega) (by omega) h.2.1, hT A B (D + 1) _ t (by omega) (by omega) h.2.2⟩)
  (fun s A B h t => by obtain ⟨c, h1, h2, h3⟩ := h; exact ⟨c, hIxT c s A B h1 t, hT A B D _ t (by omega) (by omega) h2, hT A B (D + 1) _ t (by omega) (by omega) h3⟩) yields ⟨i1, kD, kL⟩).mono ?_
 rintro e V ⟨⟨v, rfl⟩, (⟨xs, hS, hi, vD, vL⟩ | ⟨pre, hSp, c, hi, vD, vL⟩)⟩
 ·have run := run_endLoop (P := P) vL (by rw [hrec]; simp)
  rw [hrec] at run
  exact ⟨none, _, run, hdone D xs _ (by omega) hS (hI.putObj _ hi (by omega) vL rfl) ((World.putObj_heap_other (by omega)).trans vD)⟩
 ·have run := run_endLoop (P := P) vL (by rw [hrec]; simp)
  rw [hrec] at run
  exact ⟨some c, _, run, hstop D c pre _ (by omega) hSp ((hIx c).putObj _ hi (by omega) vL rfl) ((World.putObj_heap_other (by omega)).trans vD)⟩
end
/-- An iterator's turn of the world between two rounds: its own variable's block Bs, or a block beyond s0 that is no cells; new blocks. -/
def Turn (Bs s0 : Nat) (A B : World) : Prop := ∃ row, A.grownBy B row ∧ ∀ r, row = some r → r = Bs ∨ (s0 ≤ r ∧ ∃ o, A.heap[r]? = some o ∧ o.isCells = false)
/-- What a round keeps for the iterator. -/
def Keeps (kept : Nat → Prop) (A B : World) : Prop := ∀ k, kept k → B.heap[k]? = A.heap[k]?
/-- An invariant of the caller's abides the iterator's turns. -/
def Abides {β : Type} (B0 Bs : Nat) (I : β → World → Prop) : Prop := ∀ s A B row, I s A → A.grownBy B row → (∀ r, row = some r → r = Bs ∨ (B0 ≤ r ∧ ∃ o, A.heap[r]? = some o ∧ o.isCells = false)) → I s B
theorem grownBy_setCell (A : World) (b i : Nat) (v : Value) : A.grownBy (A.setCell ⟨b, i, none⟩ v) (some b) :=
 ⟨rfl, rfl, rfl, by simp [World.setCell], fun k _ hk => Below.heap_setCell _ _ _ _ (fun e => hk (by rw [e]))⟩
theorem Turn.set (Bs s0 i : Nat) (A : World) (v : Value) : Turn Bs s0 A (A.setCell ⟨Bs, i, none⟩ v) := ⟨_, grownBy_setCell A Bs i v, fun r e => by cases e; exact .inl rfl⟩
theorem grownBy_of_below {A B : World} (h : Below A.heap.size A B) : A.grownBy B none := ⟨h.os, h.tape, h.output, h.size, fun k hk _ => h.block k hk⟩
theorem Turn.grow {Bs s0 : Nat} {A B : World} (h : Below A.heap.size A B) : Turn Bs s0 A B := ⟨none, grownBy_of_below h, fun r e => by cases e⟩
theorem keepsOthers_of_below {A B : World} (h : Below A.heap.size A B) : KeepsOthers A B :=
 ⟨h.size, fun k o hk _ => (h.block k (Array.getElem?_eq_some_iff.1 hk).1).trans hk⟩
/-- A function with such a loop, entered. -/
theorem calls_of_wp_marks {P : Program} {f : FuncId} {fn : Func} {c : Code} {args : Array Value} {w : World} {R : Ending → World → Prop} (hf : P.funcs[f]? = some fn) (hb : fn.body = some c)
  (h : c.wp P (bodyPostM Fence.wide 5 P fn R) { tmps := args ++ Array.replicate (fn.ntmps - args.size) undef, defers := [] } w) : Calls P f args w R :=
 (callsIn_wide (n := 5)).1 (callsIn_of_wp_marks hf hb trivial (wpIn_wide.2 h))
theorem leaves_mark {P : Program} {fn : Func} {tmps : Array Value} {R : Ending → World → Prop} {D : Nat} {W : World} {v : Value} (hK : W.heap[D]? = some (.deferred (some [])))
  (hr : (results fn tmps).run P (W.putObj D (.deferred none)) = .ok v (W.putObj D (.deferred none))) (hR : R (.returned v) (W.putObj D (.deferred none))) :
  LeavesInM Fence.wide 5 P fn tmps R [{ target := .collected D, args := #[] }] .returning W :=
 ⟨by simp, .inl ⟨D, _, rfl, run_takeDeferred hK, v, hr, hR⟩⟩
theorem leaves_none {P : Program} {fn : Func} {tmps : Array Value} {R : Ending → World → Prop} {W : World} {v : Value}
  (hr : (results fn tmps).run P W = .ok v W) (hR : R (.returned v) W) : LeavesInM Fence.wide 5 P fn tmps R [] .returning W := ⟨v, hr, hR⟩
theorem below_mark {w W : World} {D : Nat} (hb : Below w.heap.size w W) (hD : w.heap.size ≤ D) (hK : W.heap[D]? = some (.deferred (some []))) : Below w.heap.size w (W.putObj D (.deferred none)) :=
 hb.trans (belowK_b (Nat.le_refl _) W D _ _ hD hK rfl rfl)
theorem mark_other {W : World} {D b : Nat} {cs : Array Value} {T : TypeId} {m : Nat × Nat} (hb : W.heap[b]? = some (.cells cs T m)) (hK : W.heap[D]? = some (.deferred (some []))) (o : Obj) : (W.putObj D o).heap[b]? = some (.cells cs T m) := by
 refine (World.putObj_heap_other ?_).trans hb
 intro e
 subst e
 rw [hb] at hK
 cases hK
theorem own_base {W : World} {base base' n size : Nat} {e : TypeId} {v : Value} {xs : List Value} (h : W.ownsRow base e size v n xs) (hb : base' ≤ base) : W.ownsRow base' e size v n xs := by
 refine ⟨h.1, ?_⟩
 rcases h.2 with hn | ⟨g, cap, cur, hv, hg, rest⟩
 ·exact .inl hn
 ·exact .inr ⟨g, cap, cur, hv, by omega, rest⟩
theorem own_mark {W : World} {D base n size : Nat} {e : TypeId} {v : Value} {xs : List Value} (h : W.ownsRow base e size v n xs) (hK : W.heap[D]? = some (.deferred (some []))) (o : Obj) : (W.putObj D o).ownsRow base e size v n xs := by
 refine ⟨h.1, ?_⟩
 rcases h.2 with hn | ⟨g, cap, cur, rfl, hb, hgg, rest⟩
 ·exact .inl hn
 ·exact .inr ⟨g, cap, cur, rfl, hb, mark_other hgg hK o, rest⟩
/-- What the turns of an iterator leave. -/
theorem cells_abide {A B : World} {row : Option Nat} {b Bs B0 : Nat} {cs : Array Value} {T : TypeId} {m : Nat × Nat} (h : A.heap[b]? = some (.cells cs T m)) (hg : A.grownBy B row)
  (hr : ∀ r, row = some r → r = Bs ∨ (B0 ≤ r ∧ ∃ o, A.heap[r]? = some o ∧ o.isCells = false)) (hne : b ≠ Bs) : B.heap[b]? = some (.cells cs T m) := by
 refine (hg.block b (Array.getElem?_eq_some_iff.1 h).1 fun e => ?_).trans h
 rcases hr b e.symm with h1 | ⟨_, o, h2, h3⟩
 ·exact hne h1
 ·rw [h] at h2; cases h2; cases h3
theorem own_abide {A B : World} {row : Option Nat} {Bs B0 base n size : Nat} {e : TypeId} {v : Value} {xs : List Value} (h : A.ownsRow base e size v n xs) (hg : A.grownBy B row)
  (hr : ∀ r, row = some r → r = Bs ∨ (B0 ≤ r ∧ ∃ o, A.heap[r]? = some o ∧ o.isCells = false)) (hne : Bs < base) : B.ownsRow base e size v n xs := by
 refine ⟨h.1, ?_⟩
 rcases h.2 with hn | ⟨g, cap, cur, rfl, hb, hgg, rest⟩
 ·exact .inl hn
 ·exact .inr ⟨g, cap, cur, rfl, hb, cells_abide hgg hg hr (by omega), rest⟩
theorem below_abide {w A B : World} {row : Option Nat} {Bs B0 : Nat} (h : Below w.heap.size w A) (hg : A.grownBy B row)
  (hr : ∀ r, row = some r → r = Bs ∨ (B0 ≤ r ∧ ∃ o, A.heap[r]? = some o ∧ o.isCells = false)) (h1 : w.heap.size ≤ Bs) (h2 : w.heap.size ≤ B0) : Below w.heap.size w B :=
 h.grown hg h.size fun k e => by rcases hr k e with h | ⟨h, _⟩ <;> omega
/-- One element is appended to a slice that is the call's own, in a round. -/
theorem wpIn_append1 {F : Fence} {nF : Nat} {P : Program} {w : World} {ops : Array Oper} {rest : List Oper} {o : Oper} {a : Act} {Q : Exit → Act → World → Prop} {t e : TypeId} {size bytes : Nat} (I : Elem P t e size bytes) (hgd : o.guard = none) (s x : Operand)
  (ho : o.op = .call { callee := .builtin .append, args := #[s, x], argTypes := #[t, t] })
  (base : Nat) (v : Value) (n : Nat) (xs : List Value) (hs : a.eval s = v) (hown : w.ownsRow base e size v n xs)
  (B : Nat) (news : List Value) (hx : a.eval x = .slice (some ⟨B, 0, none⟩) 1 1) (hl : news.length = size) (hnews : ∀ (j : Nat) u, news[j]? = some u → w.cell? ⟨B, j, none⟩ = some u) (h1 : ∀ u ∈ news, u.oneCell' = true)
  (hn : n ≤ 1000000) (hbase : base ≤ w.heap.size)
  (h : ∀ v' w', w'.ownsRow base e size v' (n + 1) (xs ++ news) → Below base w w' → w.grownBy w' v.ownBlock → wpListIn F nF P ops Q rest (a.put o.dst v') w') : wpListIn F nF P ops Q (o :: rest) a w := by
 obtain ⟨i, z, hi, hz, h2, h3, h4⟩ := I.info
 refine wpListIn_append_own w hgd s x t ho base e i z size bytes I.under hi hz h2 h3 h4 I.pos v n xs hs hown ⟨B, 0, none⟩ 1 1 news hx (by omega) ?_ h1 (by unfold maxLen; omega) ?_ hbase ?_
 ·intro j u hj
  have := hnews j u hj
  rcases j with _ | j
  ·simpa [Addr.add] using this
  ·simpa [Addr.add] using this
 ·have := Nat.mul_le_mul (Nat.add_le_add_right hn 1) I.small
  omega
 ·intro v' w' hown' hg _
  exact h v' w' hown' (own_below hown hg hbase) hg
end Go.Proofs.YtipohagcppfgiaaGreat
