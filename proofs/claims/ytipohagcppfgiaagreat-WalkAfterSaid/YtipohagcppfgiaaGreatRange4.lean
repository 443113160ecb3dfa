/- A range over an iterator that may panic itself, and whose body may leave the loop (printed by mkrange4.py out of Range2). No program in sight. -/
import Derived.Test.YtipohagcppfgiaaGreatRange
namespace Go.Proofs.YtipohagcppfgiaaGreat
open Go.RowKit
set_option linter.unusedVariables false
/-- What a round keeps for an iterator that makes maps of its own. -/
def KeepsM (kept : Nat → Prop) (s0 : Nat) (A B : World) : Prop := Keeps kept A B ∧ ∀ (k : Nat) (o : Obj), s0 ≤ k → A.heap[k]? = some o → o.isCells = false → B.heap[k]? = some o
/-- The word of an iterator that may panic. -/
def SeqQ {α : Type} (T : World → World → Prop) (F : Fence) (n : Nat) (P : Program) (g : Nat) (lb : Array Value) (encs : α → Array Value) (Kp : World → World → Prop) (S Sp : List α → Prop) (Sx : List α → List PanicEntry → Prop) (N : Nat) (R : World → Prop) : Prop :=
 ∀ (l : Nat) (J Jx : List α → World → Prop) (W : World), R W → (∀ s A B, J s A → T A B → J s B) → (∀ s A B, Jx s A → T A B → Jx s B) →
  (∀ pre x W1, J pre W1 → pre.length < N → YieldAt F (n - 1) P l (encs x) W1 fun e W' =>
   (e = .returned (.bool true) ∧ J (pre ++ [x]) W' ∧ Kp W1 W') ∨ (e = .returned (.bool false) ∧ Jx (pre ++ [x]) W')) →
  J [] W →
  CallsIn F n P g (#[.func (.yield l) #[] #[]] ++ lb) W fun e W' => ((∃ v, e = .returned v) ∧ ((∃ xs, S xs ∧ J xs W') ∨ (∃ pre, Sp pre ∧ Jx pre W'))) ∨ (∃ c pre, e = .panicked c ∧ Sx pre c ∧ J pre W')
section
variable {F : Fence} {n : Nat} {P : Program}
/-- As wpIn_range_T; the code that gives the loop's variables may make memory: Ax says what it leaves. -/
theorem wpIn_range_Q {α : Type} {T : World → World → Prop} {g : Operand} {ps : Array Tmp} {assign body : Code} {Q : Exit → Act → World → Prop} {a : Act} {w : World}
  (hro : F.round = none) (h1 : 1 ≤ n) {gf : Nat} {lb : Array Value} (hg : a.eval g = .func (.func gf) #[] lb) (hFg : F.fn gf) (eg : ∀ args w, (callFunc gf args).run P w = .ok (.enter gf args) w)
  {encs : α → Array Value} {Kp : World → World → Prop} {S Sp : List α → Prop} {Sx : List α → List PanicEntry → Prop} {N : Nat} {R : World → Prop} (hseq : SeqQ T F (n - 1) P gf lb encs Kp S Sp Sx N R)
  (hKt : ∀ {A B C : World}, Kp A B → Kp B C → Kp A C) (hKb : ∀ (W : World) (l : Nat) (o o' : Obj), l = w.heap.size + 1 → W.heap[l]? = some o → o.isCells = false → o.isWalk = false → Kp W (W.putObj l o'))
  (hR : ∀ o o' : Obj, R ((w.alloc o).alloc o')) (hps : ∀ x, (encs x).size = ps.size)
  (hT : ∀ A B (b : Nat) (o : Obj), T A B → w.heap.size ≤ b → b < w.heap.size + 2 → A.heap[b]? = some o → B.heap[b]? = some o)
  (I : List α → World → Prop) (Ix : Code → List α → World → Prop) (hI : OwnFrom w.heap.size I) (hIx : ∀ c, OwnFrom w.heap.size (Ix c)) (hIT : ∀ s A B, I s A → T A B → I s B) (hIxT : ∀ c s A B, Ix c s A → T A B → Ix c s B) (h0 : I [] w) (Ax : List α → α → Act → World → Prop) (hAx : ∀ pre x a', OwnFrom w.heap.size (fun (_ : Unit) W => Ax pre x a' W)) (hKa : ∀ (W V : World), w.heap.size ≤ W.heap.size → Below W.heap.size W V → Kp W V)
  (hassign : ∀ (l : Nat) (pre : List α) (x : α) (W : World) (K : Act → World → Prop), I pre W → pre.length < N → (∀ a' W', Below W.heap.size W W' → Ax pre x a' W' → K a' W') →
   assign.wpIn (F.inRound l) (n - 1 - 1) P (Exit.then K (fun _ _ _ => False)) { tmps := (ps.zip (encs x)).foldl (fun t (p, v) => t.setIfInBounds p v) a.tmps, defers := [] } W)
  (hbody : ∀ (l : Nat) (pre : List α) (x : α) (a' : Act) (W : World), Ax pre x a' W → pre.length < N → body.wpIn (F.inRound l) (n - 1 - 1) P (ownPostK Kp I Ix (pre ++ [x]) W) a' W)
  (hdone : ∀ (D : Nat) (xs : List α) (W : World), w.heap.size ≤ D → S xs → I xs W → W.heap[D]? = some (.deferred (some [])) → Q .normal { a with defers := { target := .collected D, args := #[] } :: a.defers } W)
  (hstop : ∀ (D : Nat) (c : Code) (pre : List α) (W : World), w.heap.size ≤ D → Sp pre → Ix c pre W → W.heap[D]? = some (.deferred (some [])) → c.wpIn F n P Q { a with defers := { target := .collected D, args := #[] } :: a.defers } W)
  (hpanic : ∀ (D : Nat) (c : List PanicEntry) (pre : List α) (W : World), w.heap.size ≤ D → Sx pre c → I pre W → W.heap[D]? = some (.deferred (some [])) → Q (.panic c) { a with defers := { target := .collected D, args := #[] } :: a.defers } W) :
  (Code.rangeFunc g ps assign body).wpIn F n P Q a w := by
 obtain ⟨D, hD⟩ := nm (w.heap.size)
 refine wpIn_rangeFunc fun fn hfn => ?_
 rw [hro]
 obtain ⟨rec, hrec⟩ : ∃ rec : LoopState → Option Code → Loop, ∀ s c, rec s c = { state := s, pending := c, fn, tmps := a.tmps, params := ps, assign, body, defers := D } := ⟨_, fun _ _ => rfl⟩
 -- the loop's record lies in block D + 1, the rounds' deferred calls in block D
 have two : ∃ W1, (w.alloc (.deferred (some []))).alloc (.loop (rec .ready none)) = W1 ∧ W1.heap[D]? = some (.deferred (some [])) ∧ W1.heap[D + 1]? = some (.loop (rec .ready none)) ∧ I [] W1 ∧ R W1 := by
  refine ⟨_, rfl, ?_, ?_, hI.alloc _ (hI.alloc _ h0), hR _ _⟩
  ·rw [← hD]; exact (Below.heap_alloc _ _ _ (by simp)).trans (World.alloc_heap_new w _)
  ·have := World.alloc_heap_new (w.alloc (.deferred (some []))) (.loop (rec .ready none))
   rwa [World.size_alloc, hD] at this
 obtain ⟨W1, hW1, kD, kL, i1, r1⟩ := two
 refine ⟨D + 1, [{ target := .collected D, args := #[] }], W1, { target := .fn (.func gf) lb, args := #[.func (.yield (D + 1)) #[] #[]] }, W1, gf, #[.func (.yield (D + 1)) #[] #[]] ++ lb, W1, ?_, ?_, ?_, ?_, fun _ => h1, ?_⟩
 ·rw [← hW1, hrec, ← hD]; exact run_enterLoop_outer _ _ _ _ _
 ·simp only [resolve, hg]; simp [go_sem]
 ·intro f' hf'; simp [Target.leads] at hf'; subst hf'; exact hFg
 ·simp [invoke, go_sem, eg]
 let J : List α → World → Prop := fun pre W => I pre W ∧ W.heap[D]? = some (.deferred (some [])) ∧ W.heap[D + 1]? = some (.loop (rec .ready none))
 let Jx : List α → World → Prop := fun pre W => ∃ c, Ix c pre W ∧ W.heap[D]? = some (.deferred (some [])) ∧ W.heap[D + 1]? = some (.loop (rec .done (some c)))
 have yields : ∀ pre x W, J pre W → pre.length < N → YieldAt F (n - 1 - 1) P (D + 1) (encs x) W fun e W' =>
   (e = .returned (.bool true) ∧ J (pre ++ [x]) W' ∧ Kp W W') ∨ (e = .returned (.bool false) ∧ Jx (pre ++ [x]) W') := by
  rintro pre x W ⟨hi, kD, kL⟩ hlen
  have hlt : D + 1 < W.heap.size := (Array.getElem?_eq_some_iff.1 kL).1
  have hy := run_yield (P := P) (args := encs x) kL (by rw [hrec]; exact hps x)
  rw [hrec] at hy
  obtain ⟨busy, hbusy⟩ : ∃ b : Loop, b = { rec .ready none with state := .busy } := ⟨_, rfl⟩
  refine ⟨fn, _, assign, body, hy, roundIn_of_wpIn hfn (hassign _ pre x W _ hi hlen ?_)⟩
  intro a1 W2 hbel hAx2
  have kD : W2.heap[D]? = some (.deferred (some [])) := (hbel.block _ (by omega)).trans kD
  have kL : W2.heap[D + 1]? = some (.loop (rec .ready none)) := (hbel.block _ hlt).trans kL
  have bK0 : Kp W W2 := hKa _ _ (by omega) hbel
  have hlt : D + 1 < W2.heap.size := (Array.getElem?_eq_some_iff.1 kL).1
  have bL : (W2.putObj (D + 1) (.loop busy)).heap[D + 1]? = some (.loop busy) := World.putObj_heap_same hlt
  have bD : (W2.putObj (D + 1) (.loop busy)).heap[D]? = some (.deferred (some [])) := (World.putObj_heap_other (by omega)).trans kD
  have bK : Kp W (W2.putObj (D + 1) (.loop busy)) := hKt bK0 (hKb _ _ _ _ (by omega) kL rfl rfl)
  have bI : Ax pre x a1 (W2.putObj (D + 1) (.loop busy)) := (hAx pre x a1).putObj (s := ()) _ hAx2 (by omega) kL rfl
  refine ⟨_, run_beginRound kL (by rw [hrec]), ?_⟩
  rw [← hbusy]
  -- how a round ends: the record is ready again, or done, with the jump that is still to be made
  have ends : ∀ (c : Option Code) (V : World), KeepsOthers (W2.putObj (D + 1) (.loop busy)) V → ∃ V', V.putObj (D + 1) (.loop (rec (if c.isNone then .ready else .done) c)) = V' ∧
    (Instr.endRound (D + 1) c).run P V = .ok (.bool c.isNone) V' ∧ V.heap[D + 1]? = some (.loop busy) ∧ V'.heap[D]? = some (.deferred (some [])) ∧ V'.heap[D + 1]? = some (.loop (rec (if c.isNone then .ready else .done) c)) := by
   intro c V hV
   have vL := hV.same _ _ bL rfl
   have vD := hV.same _ _ bD rfl
   have run := run_endRound (P := P) c vL
   have e : ({ busy with state := (if c.isNone then .ready else .done), pending := c } : Loop) = rec (if c.isNone then .ready else .done) c := by rw [hbusy, hrec, hrec]
   rw [e] at run
   exact ⟨_, rfl, run, vL, (World.putObj_heap_other (by omega)).trans vD, World.putObj_heap_same (Array.getElem?_eq_some_iff.1 vL).1⟩
  have leave : ∀ (c : Code) (V : World), KeepsOthers (W2.putObj (D + 1) (.loop busy)) V → Ix c (pre ++ [x]) V → ∃ b V', (Instr.endRound (D + 1) (some c)).run P V = .ok b V' ∧ b = .bool false ∧ Jx (pre ++ [x]) V' := by
   intro c V hV hi'
   obtain ⟨V', rfl, run, vL, vD, vL'⟩ := ends (some c) V hV
   exact ⟨_, _, run, rfl, c, (hIx c).putObj _ hi' (by omega) vL rfl, vD, vL'⟩
  refine wpIn_mono (hbody _ pre x a1 _ bI hlen) ?_
  rintro e a3 V hp
  cases e with
  | normal =>
   obtain ⟨hk, hkp, hi'⟩ := hp
   obtain ⟨V', rfl, run, vL, vD, vL'⟩ := ends none V hk
   exact ⟨_, _, run, .inl ⟨rfl, ⟨hI.putObj _ hi' (by omega) vL rfl, vD, vL'⟩, hKt (hKt bK hkp) (hKb _ _ _ _ (by omega) vL rfl rfl)⟩⟩
  | ret => obtain ⟨b, V', run, rfl, h⟩ := leave .ret V hp.1 hp.2; exact ⟨_, _, run, .inr ⟨rfl, h⟩⟩
  | exit id => obtain ⟨b, V', run, rfl, h⟩ := leave (.exit id) V hp.1 hp.2; exact ⟨_, _, run, .inr ⟨rfl, h⟩⟩
  | goto t => obtain ⟨b, V', run, rfl, h⟩ := leave (.goto t) V hp.1 hp.2; exact ⟨_, _, run, .inr ⟨rfl, h⟩⟩
  | panic ch => exact hp.elim
  | outgrown => exact hp.elim
 refine (hseq (D + 1) J Jx W1 r1 (fun s A B h t => ⟨hIT s A B h.1 t, hT A B D _ t (by omega) (by omega) h.2.1, hT A B (D + 1) _ t (by omega) (by omega) h.2.2⟩)
  (fun s A B h t => by obtain ⟨c, h1, h2, h3⟩ := h; exact ⟨c, hIxT c s A B h1 t, hT A B D _ t (by omega) (by omega) h2, hT A B (D + 1) _ t (by omega) (by omega) h3⟩) yields ⟨i1, kD, kL⟩).mono ?_
 rintro e V (⟨⟨v, rfl⟩, (⟨xs, hS, hi, vD, vL⟩ | ⟨pre, hSp, c, hi, vD, vL⟩)⟩ | ⟨c, pre, rfl, hSx, hi, vD, vL⟩)
 ·have run := run_endLoop (P := P) vL (by rw [hrec]; simp)
  rw [hrec] at run
  exact ⟨none, _, run, hdone D xs _ (by omega) hS (hI.putObj _ hi (by omega) vL rfl) ((World.putObj_heap_other (by omega)).trans vD)⟩
 ·have run := run_endLoop (P := P) vL (by rw [hrec]; simp)
  rw [hrec] at run
  exact ⟨some c, _, run, hstop D c pre _ (by omega) hSp ((hIx c).putObj _ hi (by omega) vL rfl) ((World.putObj_heap_other (by omega)).trans vD)⟩
 ·exact hpanic D c pre _ (by omega) hSx hi vD
end
/-- A range over an iterator, in a function that no loop stands round; the loop's variables may be boxed. -/
theorem wp_rangeQ {P : Program} {α : Type} {Bs : Nat} {g : Operand} {ps : Array Tmp} {assign body : Code} {Q : Exit → Act → World → Prop} {a : Act} {w : World}
  {gf : Nat} {lb : Array Value} (hg : a.eval g = .func (.func gf) #[] lb) (eg : ∀ args w, (callFunc gf args).run P w = .ok (.enter gf args) w)
  {encs : α → Array Value} {kept : Nat → Prop} {S Sp : List α → Prop} {Sx : List α → List PanicEntry → Prop} {N : Nat} {R : World → Prop} (hseq : SeqQ (Turn Bs (w.heap.size + 2)) Fence.wide 4 P gf lb encs (KeepsM kept (w.heap.size + 2)) S Sp Sx N R)
  (hkept : ∀ k, kept k → k < w.heap.size) (hBs : Bs < w.heap.size)
  (hR : ∀ o o' : Obj, R ((w.alloc o).alloc o')) (hps : ∀ x, (encs x).size = ps.size)
  (I : List α → World → Prop) (Ix : Code → List α → World → Prop) (hI : Abides w.heap.size Bs I) (hIx : ∀ c, Abides w.heap.size Bs (Ix c)) (h0 : I [] w) (Ax : Array Value → List α → α → Act → World → Prop) (hAx : ∀ t pre x a' A B row, Ax t pre x a' A → A.grownBy B row → (∀ r, row = some r → w.heap.size ≤ r ∧ ∃ o, A.heap[r]? = some o ∧ o.isCells = false) → Ax t pre x a' B)
  (hassign : ∀ (l : Nat) (pre : List α) (x : α) (W : World) (K : Act → World → Prop), I pre W → pre.length < N → (∀ a' W', Below W.heap.size W W' → Ax a.tmps pre x a' W' → K a' W') →
   assign.wpIn (Fence.wide.inRound l) 3 P (Exit.then K (fun _ _ _ => False)) { tmps := (ps.zip (encs x)).foldl (fun t (p, v) => t.setIfInBounds p v) a.tmps, defers := [] } W)
  (hbody : ∀ (l : Nat) (pre : List α) (x : α) (a' : Act) (W : World), Ax a.tmps pre x a' W → pre.length < N → body.wpIn (Fence.wide.inRound l) 3 P (ownPostK (KeepsM kept (w.heap.size + 2)) I Ix (pre ++ [x]) W) a' W)
  (hdone : ∀ (D : Nat) (xs : List α) (W : World), w.heap.size ≤ D → S xs → I xs W → W.heap[D]? = some (.deferred (some [])) → Q .normal { a with defers := { target := .collected D, args := #[] } :: a.defers } W)
  (hstop : ∀ (D : Nat) (c : Code) (pre : List α) (W : World), w.heap.size ≤ D → Sp pre → Ix c pre W → W.heap[D]? = some (.deferred (some [])) → c.wp P Q { a with defers := { target := .collected D, args := #[] } :: a.defers } W)
  (hpanic : ∀ (D : Nat) (c : List PanicEntry) (pre : List α) (W : World), w.heap.size ≤ D → Sx pre c → I pre W → W.heap[D]? = some (.deferred (some [])) → Q (.panic c) { a with defers := { target := .collected D, args := #[] } :: a.defers } W) :
  (Code.rangeFunc g ps assign body).wp P Q a w := by
 refine (wpIn_wide (n := 5)).1 ?_
 refine wpIn_range_Q (T := Turn Bs (w.heap.size + 2)) rfl (by decide) hg trivial eg hseq (fun h k => ⟨fun i hi => (k.1 i hi).trans (h.1 i hi), fun j o q1 q2 q3 => k.2 j o q1 (h.2 j o q1 q2 q3) q3⟩) ?_ hR hps ?_ I Ix ?_ ?_ ?_ ?_ h0 (Ax a.tmps) (fun pre x a' _ W W' row hs hg hr => hAx _ pre x a' W W' row hs hg hr) (fun W V h1 h2 => ⟨fun k hk => h2.block k (by have := hkept k hk; omega), fun k o q1 q2 q3 => (h2.block k (Array.getElem?_eq_some_iff.1 q2).1).trans q2⟩) hassign hbody hdone (fun D c pre W h1 h2 h3 h4 => wpIn_wide.2 (hstop D c pre W h1 h2 h3 h4)) hpanic
 ·intro W l o o' hl _ _ _
  exact ⟨fun k hk => World.putObj_heap_other (by have := hkept k hk; omega), fun k o q1 q2 q3 => (World.putObj_heap_other (by omega)).trans q2⟩
 ·rintro A B b o ⟨row, hg, hr⟩ h1 h2 hb
  refine (hg.block b (Array.getElem?_eq_some_iff.1 hb).1 fun e => ?_).trans hb
  rcases hr b e.symm with h | ⟨h, _⟩ <;> omega
 ·exact fun s A B row hs hg hr => hI s A B row hs hg fun r e => .inr (hr r e)
 ·exact fun c s A B row hs hg hr => hIx c s A B row hs hg fun r e => .inr (hr r e)
 ·rintro s A B hs ⟨row, hg, hr⟩
  exact hI s A B row hs hg fun r e => (hr r e).imp id fun h => ⟨by omega, h.2⟩
 ·rintro c s A B hs ⟨row, hg, hr⟩
  exact hIx c s A B row hs hg fun r e => (hr r e).imp id fun h => ⟨by omega, h.2⟩
end Go.Proofs.YtipohagcppfgiaaGreat
