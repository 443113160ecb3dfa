/- Layer 17, several texts in one. -/
import Derived.Test.YtipohagcppfgiaaGreatRange
import Derived.Test.YtipohagcppfgiaaGreatLsZ
import Derived.Test.YtipohagcppfgiaaGreatWkA
import Derived.Test.YtipohagcppfgiaaGreatWkB
import Derived.Test.YtipohagcppfgiaaGreatRegion5
import Derived.RangeFuncNested
import Derived.RangeFuncBound
import Derived.RangeFuncCalls
import Derived.RangeFuncLeaves
import Derived.OwnWalkIn
import Derived.TacticsInMore
import Derived.LoopNIn
import Derived.LoopIn
import Derived.OneCell
import Derived.Shelf.Abstract
import Derived.Sort.LoopGhostIn
import Derived.Sort.BigQuietIn
import Derived.Sort.QuietTacIn
import Derived.Maps.AppendAt
import Derived.Shelf.Slices.Empties2
import Derived.Lib.SliceRun
import Derived.Deep.LoopGhost
namespace Go.Proofs.YtipohagcppfgiaaGreat
open Go.RowKit
set_option linter.unusedVariables false
/-- The word of an iterator whose own turns of the world are T: of the caller's invariant it asks that it abides T. -/
def SeqE {α : Type} (T : World → World → Prop) (F : Fence) (n : Nat) (P : Program) (g : Nat) (lb : Array Value) (encs : α → Array Value) (Kp : World → World → Prop) (S Sp : List α → Prop) (N : Nat) (R : World → Prop) (Ey : List α → α → World → Prop) (Ee : List α → World → Prop) : Prop :=
 ∀ (l : Nat) (J Jx : List α → World → Prop) (W : World), R W → (∀ s A B, J s A → T A B → J s B) → (∀ s A B, Jx s A → T A B → Jx s B) →
  (∀ pre x W1, J pre W1 → pre.length < N → Ey pre x W1 → YieldAt F (n - 1) P l (encs x) W1 fun e W' =>
   (e = .returned (.bool true) ∧ J (pre ++ [x]) W' ∧ Kp W1 W') ∨ (e = .returned (.bool false) ∧ Jx (pre ++ [x]) W')) →
  J [] W →
  CallsIn F n P g (#[.func (.yield l) #[] #[]] ++ lb) W fun e W' => (∃ v, e = .returned v) ∧ ((∃ xs, S xs ∧ J xs W' ∧ Ee xs W') ∨ (∃ pre, Sp pre ∧ Jx pre W'))
section
variable {F : Fence} {n : Nat} {P : Program}
/-- What the caller owes: an invariant I on its own cells (it abides the iterator's turns, and those of the loop's own two blocks), and a walk of its body. -/
theorem wpIn_range_E {α : Type} {T : World → World → Prop} {g : Operand} {ps : Array Tmp} {assign body : Code} {Q : Exit → Act → World → Prop} {a : Act} {w : World}
  (hro : F.round = none) (h1 : 1 ≤ n) {gf : Nat} {lb : Array Value} (hg : a.eval g = .func (.func gf) #[] lb) (hFg : F.fn gf) (eg : ∀ args w, (callFunc gf args).run P w = .ok (.enter gf args) w)
  {encs : α → Array Value} {Kp : World → World → Prop} {S Sp : List α → Prop} {N : Nat} {R : World → Prop} {Ey : List α → α → World → Prop} {Ee : List α → World → Prop} (hEy : ∀ pre x (W : World) (l : Nat) (o o' : Obj), w.heap.size ≤ l → W.heap[l]? = some o → o.isCells = false → Ey pre x W → Ey pre x (W.putObj l o')) (hEe : ∀ xs (W : World) (l : Nat) (o o' : Obj), w.heap.size ≤ l → W.heap[l]? = some o → o.isCells = false → Ee xs W → Ee xs (W.putObj l o')) (hseq : SeqE T F (n - 1) P gf lb encs Kp S Sp N R Ey Ee)
  (hKt : ∀ {A B C : World}, Kp A B → Kp B C → Kp A C) (hKb : ∀ (W : World) (l : Nat) (o o' : Obj), w.heap.size ≤ l → W.heap[l]? = some o → o.isCells = false → o.isWalk = false → Kp W (W.putObj l o'))
  (hR : ∀ o o' : Obj, R ((w.alloc o).alloc o')) (hps : ∀ x, (encs x).size = ps.size)
  (hT : ∀ A B (b : Nat) (o : Obj), T A B → w.heap.size ≤ b → b < w.heap.size + 2 → A.heap[b]? = some o → B.heap[b]? = some o)
  (I : List α → World → Prop) (Ix : Code → List α → World → Prop) (hI : OwnFrom w.heap.size I) (hIx : ∀ c, OwnFrom w.heap.size (Ix c)) (hIT : ∀ s A B, I s A → T A B → I s B) (hIxT : ∀ c s A B, Ix c s A → T A B → Ix c s B) (h0 : I [] w) (a₁ : α → Act)
  (hassign : ∀ (l : Nat) (x : α) (W : World) (K : Act → World → Prop), K (a₁ x) W →
   assign.wpIn (F.inRound l) (n - 1 - 1) P (Exit.then K (fun _ _ _ => False)) { tmps := (ps.zip (encs x)).foldl (fun t (p, v) => t.setIfInBounds p v) a.tmps, defers := [] } W)
  (hbody : ∀ (l : Nat) (pre : List α) (x : α) (W : World), I pre W → pre.length < N → Ey pre x W → body.wpIn (F.inRound l) (n - 1 - 1) P (ownPostK Kp I Ix (pre ++ [x]) W) (a₁ x) W)
  (hdone : ∀ (D : Nat) (xs : List α) (W : World), w.heap.size ≤ D → S xs → I xs W → Ee xs W → W.heap[D]? = some (.deferred (some [])) → Q .normal { a with defers := { target := .collected D, args := #[] } :: a.defers } W)
  (hstop : ∀ (D : Nat) (c : Code) (pre : List α) (W : World), w.heap.size ≤ D → Sp pre → Ix c pre W → W.heap[D]? = some (.deferred (some [])) → c.wpIn F n P Q { a with defers := { target := .collected D, args := #[] } :: a.defers } W) :
  (Code.rangeFunc g ps assign body).wpIn F n P Q a w := by
 obtain ⟨D, hD⟩ := nm (w.heap.size)
 refine wpIn_rangeFunc fun fn hfn => ?_
 rw [hro]
 obtain ⟨rec, hrec⟩ : ∃ rec : LoopState → Option Code → Loop, ∀ s c, rec s c = { state := s, pending := c, fn, tmps := a.tmps, params := ps, assign, body, defers := D } := ⟨_, fun _ _ => rfl⟩
 -- the loop's record lies in block D + 1, the rounds' deferred calls in block D
 have two : ∃ W1, (w.alloc (.deferred (some []))).alloc (.loop (rec .ready none)) = W1 ∧ W1.heap[D]? = some (.deferred (some [])) ∧ W1.heap[D + 1]? = some (.loop (rec .ready none)) ∧ I [] W1 ∧ R W1 := by
  refine ⟨_, rfl, ?_, ?_, hI.alloc _ (hI.alloc _ h0), hR _ _⟩
  ·rw [← hD]; exact (Below.heap_alloc _ _ _ (by simp)).trans (World.alloc_heap_new w _)
  ·have := World.alloc_heap_new (w.alloc (.deferred (some []))) (.loop (rec .ready none))
   rwa [World.size_alloc, hD] at this
 obtain ⟨W1, hW1, kD, kL, i1, r1⟩ := two
 refine ⟨D + 1, [{ target := .collected D, args := #[] }], W1, { target := .fn (.func gf) lb, args := #[.func (.yield (D + 1)) #[] #[]] }, W1, gf, #[.func (.yield (D + 1)) #[] #[]] ++ lb, W1, ?_, ?_, ?_, ?_, fun _ => h1, ?_⟩
 ·rw [← hW1, hrec, ← hD]; exact run_enterLoop_outer _ _ _ _ _
 ·simp only [resolve, hg]; simp [go_sem]
 ·intro f' hf'; simp [Target.leads] at hf'; subst hf'; exact hFg
 ·simp [invoke, go_sem, eg]
 let J : List α → World → Prop := fun pre W => I pre W ∧ W.heap[D]? = some (.deferred (some [])) ∧ W.heap[D + 1]? = some (.loop (rec .ready none))
 let Jx : List α → World → Prop := fun pre W => ∃ c, Ix c pre W ∧ W.heap[D]? = some (.deferred (some [])) ∧ W.heap[D + 1]? = some (.loop (rec .done (some c)))
 have yields : ∀ pre x W, J pre W → pre.length < N → Ey pre x W → YieldAt F (n - 1 - 1) P (D + 1) (encs x) W fun e W' =>
   (e = .returned (.bool true) ∧ J (pre ++ [x]) W' ∧ Kp W W') ∨ (e = .returned (.bool false) ∧ Jx (pre ++ [x]) W') := by
  rintro pre x W ⟨hi, kD, kL⟩ hlen hey
  have hlt : D + 1 < W.heap.size := (Array.getElem?_eq_some_iff.1 kL).1
  have hy := run_yield (P := P) (args := encs x) kL (by rw [hrec]; exact hps x)
  rw [hrec] at hy
  obtain ⟨busy, hbusy⟩ : ∃ b : Loop, b = { rec .ready none with state := .busy } := ⟨_, rfl⟩
  have bL : (W.putObj (D + 1) (.loop busy)).heap[D + 1]? = some (.loop busy) := World.putObj_heap_same hlt
  have bD : (W.putObj (D + 1) (.loop busy)).heap[D]? = some (.deferred (some [])) := (World.putObj_heap_other (by omega)).trans kD
  have bK : Kp W (W.putObj (D + 1) (.loop busy)) := hKb _ _ _ _ (by omega) kL rfl rfl
  have bI : I pre (W.putObj (D + 1) (.loop busy)) := hI.putObj _ hi (by omega) kL rfl
  refine ⟨fn, _, assign, body, hy, roundIn_of_wpIn hfn (hassign _ x W _ ⟨_, run_beginRound kL (by rw [hrec]), ?_⟩)⟩
  rw [← hbusy]
  -- how a round ends: the record is ready again, or done, with the jump that is still to be made
  have ends : ∀ (c : Option Code) (V : World), KeepsOthers (W.putObj (D + 1) (.loop busy)) V → ∃ V', V.putObj (D + 1) (.loop (rec (if c.isNone then .ready else .done) c)) = V' ∧
    (Instr.endRound (D + 1) c).run P V = .ok (.bool c.isNone) V' ∧ V.heap[D + 1]? = some (.loop busy) ∧ V'.heap[D]? = some (.deferred (some [])) ∧ V'.heap[D + 1]? = some (.loop (rec (if c.isNone then .ready else .done) c)) := by
   intro c V hV
   have vL := hV.same _ _ bL rfl
   have vD := hV.same _ _ bD rfl
   have run := run_endRound (P := P) c vL
   have e : ({ busy with state := (if c.isNone then .ready else .done), pending := c } : Loop) = rec (if c.isNone then .ready else .done) c := by rw [hbusy, hrec, hrec]
   rw [e] at run
   exact ⟨_, rfl, run, vL, (World.putObj_heap_other (by omega)).trans vD, World.putObj_heap_same (Array.getElem?_eq_some_iff.1 vL).1⟩
  have leave : ∀ (c : Code) (V : World), KeepsOthers (W.putObj (D + 1) (.loop busy)) V → Ix c (pre ++ [x]) V → ∃ b V', (Instr.endRound (D + 1) (some c)).run P V = .ok b V' ∧ b = .bool false ∧ Jx (pre ++ [x]) V' := by
   intro c V hV hi'
   obtain ⟨V', rfl, run, vL, vD, vL'⟩ := ends (some c) V hV
   exact ⟨_, _, run, rfl, c, (hIx c).putObj _ hi' (by omega) vL rfl, vD, vL'⟩
  refine wpIn_mono (hbody _ pre x _ bI hlen (hEy _ _ _ _ _ _ (by omega) kL rfl hey)) ?_
  rintro e a3 V hp
  cases e with
  | normal =>
   obtain ⟨hk, hkp, hi'⟩ := hp
   obtain ⟨V', rfl, run, vL, vD, vL'⟩ := ends none V hk
   exact ⟨_, _, run, .inl ⟨rfl, ⟨hI.putObj _ hi' (by omega) vL rfl, vD, vL'⟩, hKt (hKt bK hkp) (hKb _ _ _ _ (by omega) vL rfl rfl)⟩⟩
  | ret => obtain ⟨b, V', run, rfl, h⟩ := leave .ret V hp.1 hp.2; exact ⟨_, _, run, .inr ⟨rfl, h⟩⟩
  | exit id => obtain ⟨b, V', run, rfl, h⟩ := leave (.exit id) V hp.1 hp.2; exact ⟨_, _, run, .inr ⟨rfl, h⟩⟩
  | goto t => obtain ⟨b, V', run, rfl, h⟩ := leave (.goto t) V hp.1 hp.2; exact ⟨_, _, run, .inr ⟨rfl, h⟩⟩
  | panic ch => exact hp.elim
  | outgrown => exact hp.elim
 refine (hseq (D + 1) J Jx W1 r1 (fun s A B h t => ⟨hIT s A B h.1 t, hT A B D _ t (by omega) (by omega) h.2.1, hT A B (D + 1) _ t (by omega) (by omega) h.2.2⟩)
  (fun s A B h t => by obtain ⟨c, h1, h2, h3⟩ := h; exact ⟨c, hIxT c s A B h1 t, hT A B D _ t (by omega) (by omega) h2, hT A B (D + 1) _ t (by omega) (by omega) h3⟩) yields ⟨i1, kD, kL⟩).mono ?_
 rintro e V ⟨⟨v, rfl⟩, (⟨xs, hS, ⟨hi, vD, vL⟩, hee⟩ | ⟨pre, hSp, c, hi, vD, vL⟩)⟩
 ·have run := run_endLoop (P := P) vL (by rw [hrec]; simp)
  rw [hrec] at run
  exact ⟨none, _, run, hdone D xs _ (by omega) hS (hI.putObj _ hi (by omega) vL rfl) (hEe _ _ _ _ _ (by omega) vL rfl hee) ((World.putObj_heap_other (by omega)).trans vD)⟩
 ·have run := run_endLoop (P := P) vL (by rw [hrec]; simp)
  rw [hrec] at run
  exact ⟨some c, _, run, hstop D c pre _ (by omega) hSp ((hIx c).putObj _ hi (by omega) vL rfl) ((World.putObj_heap_other (by omega)).trans vD)⟩
end
/-- What a round keeps: all below s, and all cells but those of one type. -/
def KeepsC (s : Nat) (T : TypeId) (A B : World) : Prop := Below s A B ∧ ∀ (k : Nat) (cs : Array Value) (T' : TypeId) (fr : Nat × Nat), A.heap[k]? = some (.cells cs T' fr) → T' ≠ T → B.heap[k]? = some (.cells cs T' fr)
/-- A range over an iterator, in a function that no loop stands round. -/
theorem wp_rangeE {P : Program} {α : Type} {Bs : Nat} {g : Operand} {ps : Array Tmp} {assign body : Code} {Q : Exit → Act → World → Prop} {a : Act} {w : World}
  {gf : Nat} {lb : Array Value} (hg : a.eval g = .func (.func gf) #[] lb) (eg : ∀ args w, (callFunc gf args).run P w = .ok (.enter gf args) w)
  {encs : α → Array Value} {s0 : Nat} {T0 : TypeId} {S Sp : List α → Prop} {N : Nat} {R : World → Prop} {Ey : List α → α → World → Prop} {Ee : List α → World → Prop} (hEy : ∀ pre x (W : World) (l : Nat) (o o' : Obj), w.heap.size ≤ l → W.heap[l]? = some o → o.isCells = false → Ey pre x W → Ey pre x (W.putObj l o')) (hEe : ∀ xs (W : World) (l : Nat) (o o' : Obj), w.heap.size ≤ l → W.heap[l]? = some o → o.isCells = false → Ee xs W → Ee xs (W.putObj l o')) (hseq : SeqE (Turn Bs (w.heap.size + 2)) Fence.wide 4 P gf lb encs (KeepsC s0 T0) S Sp N R Ey Ee)
  (hs0 : s0 ≤ w.heap.size) (hBs : Bs < w.heap.size)
  (hR : ∀ o o' : Obj, R ((w.alloc o).alloc o')) (hps : ∀ x, (encs x).size = ps.size)
  (I : List α → World → Prop) (Ix : Code → List α → World → Prop) (hI : Abides w.heap.size Bs I) (hIx : ∀ c, Abides w.heap.size Bs (Ix c)) (h0 : I [] w) (upd : Array Value → α → Array Value)
  (hassign : ∀ (l : Nat) (x : α) (W : World) (K : Act → World → Prop), K { tmps := upd a.tmps x, defers := [] } W →
   assign.wpIn (Fence.wide.inRound l) 3 P (Exit.then K (fun _ _ _ => False)) { tmps := (ps.zip (encs x)).foldl (fun t (p, v) => t.setIfInBounds p v) a.tmps, defers := [] } W)
  (hbody : ∀ (l : Nat) (pre : List α) (x : α) (W : World), I pre W → pre.length < N → Ey pre x W → body.wpIn (Fence.wide.inRound l) 3 P (ownPostK (KeepsC s0 T0) I Ix (pre ++ [x]) W) { tmps := upd a.tmps x, defers := [] } W)
  (hdone : ∀ (D : Nat) (xs : List α) (W : World), w.heap.size ≤ D → S xs → I xs W → Ee xs W → W.heap[D]? = some (.deferred (some [])) → Q .normal { a with defers := { target := .collected D, args := #[] } :: a.defers } W)
  (hstop : ∀ (D : Nat) (c : Code) (pre : List α) (W : World), w.heap.size ≤ D → Sp pre → Ix c pre W → W.heap[D]? = some (.deferred (some [])) → c.wp P Q { a with defers := { target := .collected D, args := #[] } :: a.defers } W) :
  (Code.rangeFunc g ps assign body).wp P Q a w := by
 refine (wpIn_wide (n := 5)).1 ?_
 refine wpIn_range_E (T := Turn Bs (w.heap.size + 2)) rfl (by decide) hg trivial eg hEy hEe hseq (fun h k => ⟨h.1.trans k.1, fun i cs T' fr h1 h2 => k.2 i cs T' fr (h.2 i cs T' fr h1 h2) h2⟩) ?_ hR hps ?_ I Ix ?_ ?_ ?_ ?_ h0 (fun x => { tmps := upd a.tmps x, defers := [] }) hassign hbody hdone (fun D c pre W h1 h2 h3 h4 => wpIn_wide.2 (hstop D c pre W h1 h2 h3 h4))
 ·intro W l o o' hl hlo hc _
  exact ⟨⟨rfl, rfl, rfl, by simp [World.putObj], fun k hk => World.putObj_heap_other (by omega)⟩, fun k cs T' fr h1 h2 => (World.putObj_heap_other (fun e => by subst e; rw [hlo] at h1; cases h1; cases hc)).trans h1⟩
 ·rintro A B b o ⟨row, hg, hr⟩ h1 h2 hb
  refine (hg.block b (Array.getElem?_eq_some_iff.1 hb).1 fun e => ?_).trans hb
  rcases hr b e.symm with h | ⟨h, _⟩ <;> omega
 ·exact fun s A B row hs hg hr => hI s A B row hs hg fun r e => .inr (hr r e)
 ·exact fun c s A B row hs hg hr => hIx c s A B row hs hg fun r e => .inr (hr r e)
 ·rintro s A B hs ⟨row, hg, hr⟩
  exact hI s A B row hs hg fun r e => (hr r e).imp id fun h => ⟨by omega, h.2⟩
 ·rintro c s A B hs ⟨row, hg, hr⟩
  exact hIx c s A B row hs hg fun r e => (hr r e).imp id fun h => ⟨by omega, h.2⟩
end Go.Proofs.YtipohagcppfgiaaGreat
namespace Go.Proofs.YtipohagcppfgiaaGreat
open Go.RowKit
open Go.Proofs
set_option linter.unusedVariables false
attribute [local go_sem] Oper.semAt_some
def cmpN (a b : Nd) : Int := if aheadN a b = true then -1 else if a.2.2.2 = b.2.2.2 ∧ a.2.1 = b.2.1 then 0 else 1
theorem cmp_of {a b : Nd} {z y : Int} (h : cmpN a b = z) (e : y = z) : Ending.returned (.int .i64 y) = Ending.returned (.int .i64 (cmpN a b)) := by rw [e, h]
set_option maxRecDepth 100000 in
theorem cmpN_any (a b : Nd) (V : World) : Calls Tryz.prog 31 #[ndV a, ndV b] V (Ret (.int .i64 (cmpN a b)) V) := by
 obtain ⟨a0, a1, a2, a3⟩ := a
 obtain ⟨b0, b1, b2, b3⟩ := b
 obtain ⟨V1, hV1, hb1, hs1, hl1⟩ := laid V #[.int .u64 a0, .int .u64 a1, .int .u64 a2, .int .u64 a3] 42
 obtain ⟨V2, hV2, hb2, hs2, hl2⟩ := laid V1 #[.int .u64 b0, .int .u64 b1, .int .u64 b2, .int .u64 b3] 42
 obtain ⟨X, hX⟩ := nm (V.heap.size)
 obtain ⟨Y, hY⟩ := nm (V1.heap.size)
 rw [hX] at hl1
 rw [hY] at hl2
 have hk1 := klD hl1 hb2
 have x1 := clD (i := 1) hk1 rfl
 have x3 := clD (i := 3) hk1 rfl
 have y1 := clD (i := 1) hl2 rfl
 have y3 := clD (i := 3) hl2 rfl
 have HB := hid (step hb1 hb2)
 have HR : Hid (∀ z, cmpN (a0, a1, a2, a3) (b0, b1, b2, b3) = z → ∀ y, y = z → Ending.returned (.int .i64 y) = Ending.returned (.int .i64 (cmpN (a0, a1, a2, a3) (b0, b1, b2, b3)))) := hid (fun z h y e => cmp_of h e)
 unfold ndV
 clear hb1 hs1 hl1 hb2 hs2 hl2 hk1
 go_enter Tryz.func31, Tryz.ntmps31
 by_cases c1 : a3 < b3
 ·have t1 : decide (((a3 : Nat) : Int) < ((b3 : Nat) : Int)) = true := decide_eq_true (by omega)
  have HE : Hid (cmpN (a0, a1, a2, a3) (b0, b1, b2, b3) = -1) := hid (by unfold cmpN aheadN; simp [c1])
  go_wp2
  go_ret
  exact ⟨HR.out _ HE.out _ rfl, HB.out⟩
 ·have t1 : decide (((a3 : Nat) : Int) < ((b3 : Nat) : Int)) = false := decide_eq_false (by omega)
  by_cases c2 : a3 = b3
  ·have t2 : (((a3 : Nat) : Int) == ((b3 : Nat) : Int)) = true := by simp; omega
   by_cases c3 : a1 < b1
   ·have t3 : decide (((a1 : Nat) : Int) < ((b1 : Nat) : Int)) = true := decide_eq_true (by omega)
    have HE : Hid (cmpN (a0, a1, a2, a3) (b0, b1, b2, b3) = -1) := hid (by unfold cmpN aheadN; simp [c2, c3])
    clear c2
    go_wp2
    go_ret
    exact ⟨HR.out _ HE.out _ rfl, HB.out⟩
   ·have t3 : decide (((a1 : Nat) : Int) < ((b1 : Nat) : Int)) = false := decide_eq_false (by omega)
    by_cases c4 : a1 = b1
    ·have t4 : (((a1 : Nat) : Int) == ((b1 : Nat) : Int)) = true := by simp; omega
     have HE : Hid (cmpN (a0, a1, a2, a3) (b0, b1, b2, b3) = 0) := hid (by unfold cmpN aheadN; simp [c2, c4])
     clear c2 c4
     go_wp2
     go_ret
     exact ⟨HR.out _ HE.out _ rfl, HB.out⟩
    ·have t4 : (((a1 : Nat) : Int) == ((b1 : Nat) : Int)) = false := by simp; omega
     have HE : Hid (cmpN (a0, a1, a2, a3) (b0, b1, b2, b3) = 1) := hid (by unfold cmpN aheadN; simp [c2, c3, c4])
     clear c2 c4
     go_wp2
     go_ret
     exact ⟨HR.out _ HE.out _ rfl, HB.out⟩
  ·have t2 : (((a3 : Nat) : Int) == ((b3 : Nat) : Int)) = false := by simp; omega
   have HE : Hid (cmpN (a0, a1, a2, a3) (b0, b1, b2, b3) = 1) := hid (by unfold cmpN aheadN; simp [c1, c2])
   go_wp2
   go_ret
   exact ⟨HR.out _ HE.out _ rfl, HB.out⟩
/-- Whether the node at a place has the key that is sought. -/
def hasAt (xs : List Nd) (p : Nat) (t : Nd) : Bool := match xs[p]? with
 | none => false
 | some x => decide (x.2.2.2 = t.2.2.2 ∧ x.2.1 = t.2.1)
theorem cmpN_zero {a b : Nd} (h : aheadN a b = false) : (cmpN a b == 0) = decide (a.2.2.2 = b.2.2.2 ∧ a.2.1 = b.2.1) := by
 unfold cmpN
 rw [h, if_neg (by decide)]
 split <;> simp_all
set_option maxRecDepth 100000 in
set_option maxHeartbeats 4000000 in
theorem Search_any (xs : List Nd) (t : Nd) (p n cap : Nat) (a : Option Addr) (V : World) (h : Leads V a n cap (ndcells xs)) (hn : xs.length = n) (hn4 : n ≤ 10000) (hp : p ≤ n) (hpp : ∀ k x, xs[k]? = some x → (aheadN x t = true ↔ k < p)) :
  Calls Tryz.prog 32 #[.slice a n cap, ndV t, .func (.func 31) #[] #[]] V (Ret (.tuple #[.int .i64 p, .bool (hasAt xs p t)]) V) := by
 obtain ⟨t0, t1, t2, t3⟩ := t
 obtain ⟨V1, hV1, hb1, hs1, hl1⟩ := laid V #[.int .u64 t0, .int .u64 t1, .int .u64 t2, .int .u64 t3] 42
 obtain ⟨X, hX⟩ := nm (V.heap.size)
 rw [hX] at hl1
 have HX := hid hl1
 have HL := hid (h.grow hb1)
 have HB := hid hb1
 have HN := hid hn
 have HPP := hid hpp
 have hl := h.len
 clear h hb1 hs1 hl1 hn hpp
 unfold ndV
 go_enter Tryz.func32, Tryz.ntmps32
 go_wp2
 go_loopg [9, 10] n (fun g ti tj wr => ∃ (i j : Nat), i + g = j ∧ ti = .int .i64 i ∧ tj = .int .i64 j ∧ Hid (i ≤ p ∧ p ≤ j ∧ j ≤ n) ∧ Hid (Below V1.heap.size V1 wr))
 case atStart => exact ⟨0, n, by omega, rfl, rfl, hid ⟨Nat.zero_le _, hp, Nat.le_refl _⟩, hid (Below.refl _ _)⟩
 case round =>
  obtain ⟨i, j, hij, rfl, rfl, hI, hW⟩ := hrel
  have HIJ := hid hij
  clear hij
  have hj1 : j ≤ n := hI.out.2.2
  by_cases hlt : i < j
  ·have tl : decide (((i : Nat) : Int) < ((j : Nat) : Int)) = true := decide_eq_true (by omega)
   obtain ⟨s, hs⟩ := nm (i + j)
   have hsi : IntKind.i64.wrap (((i : Nat) : Int) + ((j : Nat) : Int)) = ((s : Nat) : Int) := by rw [IntKind.wrap_i64]; omega
   obtain ⟨m, hm⟩ := nm (s / 2)
   have hmi : ((s : Nat) : Int) / 2 = ((m : Nat) : Int) := by omega
   have him : i ≤ m := by omega
   have hmj : m < j := by omega
   have hmn : m < n := by omega
   obtain ⟨⟨x0, x1, x2, x3⟩, hx⟩ : ∃ x, xs[m]? = some x := ⟨_, List.getElem?_eq_getElem (by rw [HN.out]; omega)⟩
   obtain ⟨b, off, rfl, hcc⟩ : ∃ b o, a = some ⟨b, o, none⟩ ∧ ∀ i v, (ndcells xs)[i]? = some v → ∀ z : Ext wr, z.v.cell? ⟨b, o + i, none⟩ = some v := by
    obtain ⟨_, _, ⟨q, _⟩ | ⟨b, off, e, h3, h4⟩⟩ := HL.out.grow hW.out
    ·omega
    ·exact ⟨b, off, e, fun i v hv z => (z.b.cell (p := ⟨b, off + i, none⟩) h3).trans (h4 i v hv)⟩
   have hat : ∀ jj, jj < 4 → (ndcells xs)[m * 4 + jj]? = (nd4 (x0, x1, x2, x3))[jj]? := fun jj hi => flat_at nd4 4 (fun _ => rfl) xs m jj _ hx hi
   have c0 : ∀ z : Ext wr, z.v.cell? ⟨b, off + m * 4, none⟩ = some (.int .u64 x0) := hcc (m * 4 + 0) _ (hat 0 (by decide))
   have c1 : ∀ z : Ext wr, z.v.cell? ⟨b, off + m * 4 + 1, none⟩ = some (.int .u64 x1) := hcc (m * 4 + 1) _ (hat 1 (by decide))
   have c2 : ∀ z : Ext wr, z.v.cell? ⟨b, off + m * 4 + 2, none⟩ = some (.int .u64 x2) := hcc (m * 4 + 2) _ (hat 2 (by decide))
   have c3 : ∀ z : Ext wr, z.v.cell? ⟨b, off + m * 4 + 3, none⟩ = some (.int .u64 x3) := hcc (m * 4 + 3) _ (hat 3 (by decide))
   have hXl := klD HX.out hW.out
   have d0 : ∀ z : Ext wr, z.v.cell? ⟨X, 0, none⟩ = some (.int .u64 t0) := fun z => clD (i := 0) (klD hXl z.b) rfl
   have d1 : ∀ z : Ext wr, z.v.cell? ⟨X, 1, none⟩ = some (.int .u64 t1) := fun z => clD (i := 1) (klD hXl z.b) rfl
   have d2 : ∀ z : Ext wr, z.v.cell? ⟨X, 2, none⟩ = some (.int .u64 t2) := fun z => clD (i := 2) (klD hXl z.b) rfl
   have d3 : ∀ z : Ext wr, z.v.cell? ⟨X, 3, none⟩ = some (.int .u64 t3) := fun z => clD (i := 3) (klD hXl z.b) rfl
   have hppx := HPP.out m _ hx
   have HHX := hid hx
   obtain ⟨c, hc⟩ := nm (cmpN (x0, x1, x2, x3) (t0, t1, t2, t3))
   have HCC := hid hc
   have HCL : Hid (∀ W, Calls Tryz.prog 31 #[.agg #[.int .u64 x0, .int .u64 x1, .int .u64 x2, .int .u64 x3], .agg #[.int .u64 t0, .int .u64 t1, .int .u64 t2, .int .u64 t3]] W (Ret (.int .i64 c) W)) := hid (fun W => by have := cmpN_any (x0, x1, x2, x3) (t0, t1, t2, t3) W; rw [hc] at this; exact this)
   obtain ⟨m1, hm1⟩ := nm (m + 1)
   have hmw : IntKind.i64.wrap (((m : Nat) : Int) + 1) = ((m1 : Nat) : Int) := by rw [IntKind.wrap_i64]; omega
   have HM1 := hid hm1
   have HWW := hid hW.out
   clear hcc hat hx hXl hc hs hm hm1
   by_cases ha : aheadN (x0, x1, x2, x3) (t0, t1, t2, t3) = true
   ·have hc1 : c = -1 := by rw [← HCC.out]; unfold cmpN; rw [if_pos ha]
    have tc : decide (c < 0) = true := by rw [hc1]; decide
    have hmp : Hid (m < p) := hid (hppx.1 ha)
    clear hc1 hppx ha
    go_wp2
    refine wp_region_ext (by kernel_rfl) (by kernel_rfl) ?_
    repeat (go_big_quiet_step (exact ext_of (HCL.out _)))
    refine wpQuiet_nil ?_
    rintro _ ⟨⟨w2, hb2⟩, rfl⟩
    clear c0 c1 c2 c3 d0 d1 d2 d3
    try dsimp only at hb2
    try dsimp only
    have HW2 := hid (step HWW.out hb2)
    clear hb2
    go_wp2
    go_roundg (j - m1)
    case measure => have := HIJ.out; have := HM1.out; omega
    case rel => exact ⟨m1, j, by have := HM1.out; omega, rfl, rfl, hid ⟨by have := hmp.out; have := HM1.out; omega, hI.out.2.1, hI.out.2.2⟩, HW2⟩
   ·have hc1 : 0 ≤ c := by rw [← HCC.out]; unfold cmpN; rw [if_neg ha]; split <;> decide
    have tc : decide (c < 0) = false := decide_eq_false (by omega)
    have hmp : Hid (p ≤ m) := hid (by have h1 : ¬ m < p := fun h => ha (hppx.2 h); omega)
    clear hc1 hppx ha
    go_wp2
    refine wp_region_ext (by kernel_rfl) (by kernel_rfl) ?_
    repeat (go_big_quiet_step (exact ext_of (HCL.out _)))
    refine wpQuiet_nil ?_
    rintro _ ⟨⟨w2, hb2⟩, rfl⟩
    clear c0 c1 c2 c3 d0 d1 d2 d3
    try dsimp only at hb2
    try dsimp only
    have HW2 := hid (step HWW.out hb2)
    clear hb2
    go_wp2
    go_roundg (m - i)
    case measure => have := HIJ.out; omega
    case rel => exact ⟨i, m, by omega, rfl, rfl, hid ⟨hI.out.1, hmp.out, by omega⟩, HW2⟩
  ·have tl : decide (((i : Nat) : Int) < ((j : Nat) : Int)) = false := decide_eq_false (by omega)
   have hip : i = p := by have := hI.out; have := HIJ.out; omega
   clear HIJ hI hj1
   subst hip
   by_cases hin : i < n
   ·have tn : decide (((i : Nat) : Int) < ((n : Nat) : Int)) = true := decide_eq_true (by omega)
    obtain ⟨⟨x0, x1, x2, x3⟩, hx⟩ : ∃ x, xs[i]? = some x := ⟨_, List.getElem?_eq_getElem (by rw [HN.out]; omega)⟩
    obtain ⟨b, off, rfl, hcc⟩ : ∃ b o, a = some ⟨b, o, none⟩ ∧ ∀ i v, (ndcells xs)[i]? = some v → ∀ z : Ext wr, z.v.cell? ⟨b, o + i, none⟩ = some v := by
     obtain ⟨_, _, ⟨q, _⟩ | ⟨b, off, e, h3, h4⟩⟩ := HL.out.grow hW.out
     ·omega
     ·exact ⟨b, off, e, fun i v hv z => (z.b.cell (p := ⟨b, off + i, none⟩) h3).trans (h4 i v hv)⟩
    have hat : ∀ jj, jj < 4 → (ndcells xs)[i * 4 + jj]? = (nd4 (x0, x1, x2, x3))[jj]? := fun jj hi => flat_at nd4 4 (fun _ => rfl) xs i jj _ hx hi
    have c0 : ∀ z : Ext wr, z.v.cell? ⟨b, off + i * 4, none⟩ = some (.int .u64 x0) := hcc (i * 4 + 0) _ (hat 0 (by decide))
    have c1 : ∀ z : Ext wr, z.v.cell? ⟨b, off + i * 4 + 1, none⟩ = some (.int .u64 x1) := hcc (i * 4 + 1) _ (hat 1 (by decide))
    have c2 : ∀ z : Ext wr, z.v.cell? ⟨b, off + i * 4 + 2, none⟩ = some (.int .u64 x2) := hcc (i * 4 + 2) _ (hat 2 (by decide))
    have c3 : ∀ z : Ext wr, z.v.cell? ⟨b, off + i * 4 + 3, none⟩ = some (.int .u64 x3) := hcc (i * 4 + 3) _ (hat 3 (by decide))
    have hXl := klD HX.out hW.out
    have d0 : ∀ z : Ext wr, z.v.cell? ⟨X, 0, none⟩ = some (.int .u64 t0) := fun z => clD (i := 0) (klD hXl z.b) rfl
    have d1 : ∀ z : Ext wr, z.v.cell? ⟨X, 1, none⟩ = some (.int .u64 t1) := fun z => clD (i := 1) (klD hXl z.b) rfl
    have d2 : ∀ z : Ext wr, z.v.cell? ⟨X, 2, none⟩ = some (.int .u64 t2) := fun z => clD (i := 2) (klD hXl z.b) rfl
    have d3 : ∀ z : Ext wr, z.v.cell? ⟨X, 3, none⟩ = some (.int .u64 t3) := fun z => clD (i := 3) (klD hXl z.b) rfl
    have hppx := HPP.out i _ hx
    have HHX := hid hx
    obtain ⟨c, hc⟩ := nm (cmpN (x0, x1, x2, x3) (t0, t1, t2, t3))
    have HCC := hid hc
    have HCL : Hid (∀ W, Calls Tryz.prog 31 #[.agg #[.int .u64 x0, .int .u64 x1, .int .u64 x2, .int .u64 x3], .agg #[.int .u64 t0, .int .u64 t1, .int .u64 t2, .int .u64 t3]] W (Ret (.int .i64 c) W)) := hid (fun W => by have := cmpN_any (x0, x1, x2, x3) (t0, t1, t2, t3) W; rw [hc] at this; exact this)
    have ha : aheadN (x0, x1, x2, x3) (t0, t1, t2, t3) = false := by
     cases e : aheadN (x0, x1, x2, x3) (t0, t1, t2, t3) with
     | false => rfl
     | true => have := hppx.1 e; omega
    have HH : Hid ((c == 0) = hasAt xs i (t0, t1, t2, t3)) := hid (by rw [← hc, cmpN_zero ha]; unfold hasAt; rw [hx])
    have HWW := hid hW.out
    clear hcc hat hx hXl hc hppx ha
    go_wp2
    refine wp_region_ext (by kernel_rfl) (by kernel_rfl) ?_
    repeat (go_big_quiet_step (exact ext_of (HCL.out _)))
    refine wpQuiet_nil ?_
    rintro _ ⟨⟨w2, hb2⟩, rfl⟩
    clear c0 c1 c2 c3 d0 d1 d2 d3
    try dsimp only at hb2
    try dsimp only
    have HW2 := hid (step HB.out (step HWW.out hb2))
    clear hb2
    go_wp2
    go_ret2
    exact ⟨by rw [HH.out]; rfl, HW2.out⟩
   ·have tn : decide (((i : Nat) : Int) < ((n : Nat) : Int)) = false := decide_eq_false (by omega)
    have HH : Hid (hasAt xs i (t0, t1, t2, t3) = false) := hid (by unfold hasAt; rw [List.getElem?_eq_none (by rw [HN.out]; omega)])
    have HWW := hid hW.out
    go_wp2
    refine wp_region_ext (by kernel_rfl) (by kernel_rfl) ?_
    repeat (go_big_quiet_step (fail))
    refine wpQuiet_nil ?_
    rintro _ ⟨⟨w2, hb2⟩, rfl⟩
    try dsimp only at hb2
    try dsimp only
    have HW2 := hid (step HB.out (step HWW.out hb2))
    clear hb2
    go_wp2
    go_ret2
    exact ⟨by rw [HH.out]; rfl, HW2.out⟩
end Go.Proofs.YtipohagcppfgiaaGreat
namespace Go.Proofs.YtipohagcppfgiaaGreat
open Go.RowKit
open Go.Proofs
set_option linter.unusedVariables false
attribute [local go_sem] Oper.semAt_some
def posN (xs : List Nd) (t : Nd) : Nat := (xs.takeWhile fun x => aheadN x t).length
theorem posN_le (xs : List Nd) (t : Nd) : posN xs t ≤ xs.length := by
 unfold posN
 exact (List.takeWhile_sublist _).length_le
theorem posN_at {xs : List Nd} (t : Nd) (hi : incr xs = true) : ∀ k x, xs[k]? = some x → (aheadN x t = true ↔ k < posN xs t) := by
 rw [incr_pw] at hi
 induction xs with
 | nil => intro k x h; simp at h
 | cons y ys ih =>
  rw [List.pairwise_cons] at hi
  intro k x h
  unfold posN
  rw [List.takeWhile_cons]
  cases hy : aheadN y t with
  | false =>
   simp only [Bool.false_eq_true, if_false, List.length_nil, Nat.not_lt_zero, iff_false]
   cases k with
   | zero => simp at h; subst h; simp [hy]
   | succ k =>
    simp at h
    intro hx
    have := ahead_trans (hi.1 x (List.mem_of_getElem? h)) hx
    rw [hy] at this
    cases this
  | true =>
   simp only [if_true, List.length_cons]
   cases k with
   | zero => simp at h; subst h; simp [hy]
   | succ k =>
    simp at h
    have := ih hi.2 k x h
    unfold posN at this
    rw [this]
    omega
/-- A list behind a job. -/
def stepJ (xs : List Nd) (j : Jb) : List Nd :=
 if j.1 = true ∧ hasAt xs (posN xs j.2) j.2 = true then xs.eraseIdx (posN xs j.2)
 else if j.1 = false ∧ hasAt xs (posN xs j.2) j.2 = false then xs.take (posN xs j.2) ++ j.2 :: xs.drop (posN xs j.2)
 else xs
def afterL (xs : List Nd) (js : List Jb) : List Nd := js.foldl stepJ xs
theorem afterL_snoc (xs : List Nd) (js : List Jb) (j : Jb) : afterL xs (js ++ [j]) = stepJ (afterL xs js) j := by unfold afterL; rw [List.foldl_append]; rfl
theorem ahead_not {x t : Nd} (h : aheadN x t = false) (hne : ¬ (x.2.2.2 = t.2.2.2 ∧ x.2.1 = t.2.1)) : aheadN t x = true := by
 rw [ahead_iff]
 have h1 : ¬ aheadN x t = true := by rw [h]; decide
 rw [ahead_iff] at h1
 omega
theorem take_ahead {xs : List Nd} (t : Nd) (hi : incr xs = true) : ∀ x ∈ xs.take (posN xs t), aheadN x t = true := by
 intro x hx
 obtain ⟨k, hk⟩ := List.getElem?_of_mem hx
 rw [List.getElem?_take] at hk
 split at hk
 ·exact (posN_at t hi k x hk).2 (by assumption)
 ·cases hk
theorem stepJ_incr {xs : List Nd} {j : Jb} (hi : incr xs = true) : incr (stepJ xs j) = true := by
 unfold stepJ
 split
 ·rw [incr_pw] at hi ⊢
  exact hi.sublist (List.eraseIdx_sublist _ _)
 ·split
  ·rename_i h
   have hpw := (incr_pw xs).1 hi
   rw [incr_pw, List.pairwise_append]
   have hd : ∀ x ∈ xs.drop (posN xs j.2), aheadN j.2 x = true := by
    have hdp : (xs.drop (posN xs j.2)).Pairwise (fun a b => aheadN a b = true) := hpw.sublist (List.drop_sublist _ _)
    cases hx : xs.drop (posN xs j.2) with
    | nil => intro x hx'; cases hx'
    | cons y ys =>
     rw [hx, List.pairwise_cons] at hdp
     have hy : xs[posN xs j.2]? = some y := by
      have := congrArg (·[0]?) hx
      simpa [List.getElem?_drop] using this
     have hya : aheadN y j.2 = false := by
      cases e : aheadN y j.2 with
      | false => rfl
      | true => have := (posN_at j.2 hi _ _ hy).1 e; omega
     have hyn : aheadN j.2 y = true := ahead_not hya (by have := h.2; unfold hasAt at this; rw [hy] at this; simpa using this)
     intro x hx'
     rcases List.mem_cons.1 hx' with rfl | h'
     ·exact hyn
     ·exact ahead_trans hyn (hdp.1 x h')
   refine ⟨hpw.sublist (List.take_sublist _ _), ?_, ?_⟩
   ·rw [List.pairwise_cons]
    exact ⟨hd, hpw.sublist (List.drop_sublist _ _)⟩
   ·intro a ha b hb
    have h1 := take_ahead j.2 hi a ha
    rcases List.mem_cons.1 hb with rfl | h'
    ·exact h1
    ·exact ahead_trans h1 (hd b h')
  ·exact hi
theorem stepJ_len (xs : List Nd) (j : Jb) : (stepJ xs j).length ≤ xs.length + 1 := by
 unfold stepJ
 split
 ·exact Nat.le_trans (List.eraseIdx_sublist _ _).length_le (Nat.le_succ _)
 ·split
  ·have := posN_le xs j.2
   simp only [List.length_append, List.length_take, List.length_cons, List.length_drop]
   omega
  ·exact Nat.le_succ _
theorem afterL_incr {xs : List Nd} (hi : incr xs = true) (js : List Jb) : incr (afterL xs js) = true := by
 refine snocRec (p := fun js => incr (afterL xs js) = true) hi (fun l j ih => ?_) js
 rw [afterL_snoc]; exact stepJ_incr ih
theorem afterL_len (xs : List Nd) (js : List Jb) : (afterL xs js).length ≤ xs.length + js.length := by
 refine snocRec (p := fun js => (afterL xs js).length ≤ xs.length + js.length) (Nat.le_refl _) (fun l j ih => ?_) js
 rw [afterL_snoc, List.length_append]
 have := stepJ_len (afterL xs l) j
 simp only [List.length_singleton]
 omega
def afterP (w : Wal) (n : Int) : List Nd × Nat := if (wFault w).2 ≠ 0 then ([], (wFault w).2) else if n < 0 ∨ (w.J.length : Int) < n then ([], 2) else (afterL (wFault w).1 (w.J.take n.toNat), 0)
/-- The list of a walk that may be. -/
theorem wFault_list {w : Wal} (h : (wFault w).2 = 0) : okM w.M = true ∧ w.M.F = false ∧ nodesR w.M w.head = some (wFault w).1 ∧ ∃ met, wAll w (wFault w).1 = some met := by
 unfold wFault at h ⊢
 split at h
 ·cases h
 ·rename_i hn
  have hok : okM w.M = true := by
   cases e : okM w.M with
   | true => rfl
   | false => exact absurd (.inl e) hn
  have hF : w.M.F = false := by
   cases e : w.M.F with
   | false => rfl
   | true => exact absurd (.inr e) hn
  rw [if_neg hn]
  refine ⟨hok, hF, ?_⟩
  unfold wNodes at h ⊢
  split at h
  ·rename_i h'; exact absurd h h'
  ·rename_i hE
   have hE0 : (nodesP w.M w.head).2 = 0 := by simpa using hE
   rw [if_neg hE]
   split at h
   ·cases h
   ·rename_i hF'
    rw [if_neg hF']
    split at h
    ·cases h
    ·rename_i hb
     rw [if_neg hb]
     cases hm : wAll w (nodesP w.M w.head).1 with
     | none => rw [hm] at h; cases h
     | some met => exact ⟨(wn_nodesP_ok hE0).2, met, hm⟩
theorem wFault_small {w : Wal} (h : (wFault w).2 = 0) : incr (wFault w).1 = true ∧ (wFault w).1.length ≤ 1023 := by
 obtain ⟨hok, -, hr, -⟩ := wFault_list h
 obtain ⟨h1, h2⟩ := nodesR_some hr
 have := nodesW_len hok h1
 exact ⟨h2, by omega⟩
/-- Into no list. -/
theorem InsNil_any (t : Nd) (vb base : Nat) (V : World) (hv : V.heap[vb]? = some (.cells #[.int .u64 t.1, .int .u64 t.2.1, .int .u64 t.2.2.1, .int .u64 t.2.2.2] 42 (0, 0))) (hbase : base ≤ V.heap.size) :
  Calls Tryz.prog 34 #[.slice none 0 0, .int .i64 0, .slice (some ⟨vb, 0, none⟩) 1 1] V (fun e W => ∃ v, e = .returned v ∧ W.ownsRow base 42 4 v 1 (ndcells [t]) ∧ V.grownBy W none) := by
 have HVC : Hid (∀ (k : Nat) u, (nd4 t)[k]? = some u → V.cell? ⟨vb, k, none⟩ = some u) := hid (fun k u hk => clD hv (by simpa [nd4] using hk))
 clear hv
 go_enter Tryz.func34, Tryz.ntmps34
 go_wp2_with (at_builtin; refine waM elemNd rfl _ _ rfl base _ 0 [] rfl (World.ownsRow_nil _ _ _ _) ⟨vb, 0, none⟩ 1 1 (nd4 t) rfl ?qc1 ?qc2 ?qc3 ?qc4 ?qc5 ?_)
 case qc1 => rfl
 case qc2 =>
  intro j u hj
  rw [Addr.add_lit, Nat.zero_add]
  exact HVC.out j u hj
 case qc3 => exact nd4_one t
 case qc4 => omega
 case qc5 => exact hbase
 intro v' w1 hown hgrow hmv
 have HO := hid hown
 have HG := hid hgrow
 clear hown hgrow hmv
 go_wp2
 go_ret
 exact ⟨v', rfl, HO.out, HG.out⟩
/-- What lies while jobs are gone through. -/
structure Aft (V1 : World) (X : Nat) (xc : Array Value) (v : Value) (L : List Nd) (n : Nat) (W : World) : Prop where
 bx : W.heap[X]? = some (.cells xc 30 (0, 0))
 row : W.ownsRow V1.heap.size 42 4 v n (ndcells L)
 below : Below V1.heap.size V1 W
 len : L.length = n
theorem Aft.grow {V1 : World} {X : Nat} {xc : Array Value} {v : Value} {L : List Nd} {n : Nat} {W W' : World} (h : Aft V1 X xc v L n W) (hb : Below W.heap.size W W') : Aft V1 X xc v L n W' := ⟨klD h.bx hb, ogr h.row hb, step h.below hb, h.len⟩
/-- An insertion, whether there is a row yet or not. -/
theorem InsAny (L : List Nd) (t : Nd) (v : Value) (n i vb X : Nat) (xc : Array Value) (V1 V : World) (h : Aft V1 X xc v L n V) (hn : n ≤ 5000) (hv : V.heap[vb]? = some (.cells #[.int .u64 t.1, .int .u64 t.2.1, .int .u64 t.2.2.1, .int .u64 t.2.2.2] 42 (0, 0))) (hvo : v.ownBlock ≠ some vb) (hi : i ≤ n) :
  Calls Tryz.prog 34 #[v, .int .i64 i, .slice (some ⟨vb, 0, none⟩) 1 1] V (fun e W => ∃ v', e = .returned v' ∧ Aft V1 X xc v' (L.take i ++ t :: L.drop i) (n + 1) W) := by
 have hl1 : (L.take i ++ t :: L.drop i).length = n + 1 := by
  have := h.len
  simp only [List.length_append, List.length_take, List.length_cons, List.length_drop]
  omega
 rcases h.row.2 with ⟨rfl, rfl⟩ | ⟨g, cap, cur, rfl, hg, hh, -⟩
 ·have hL : L = [] := List.eq_nil_of_length_eq_zero h.len
  obtain rfl : i = 0 := by omega
  subst hL
  refine (InsNil_any t vb V1.heap.size V hv h.below.size).mono ?_
  rintro e W ⟨v', rfl, ho, hgr⟩
  exact ⟨v', rfl, kgr h.bx hgr (by simp), ho, h.below.grown hgr h.below.size (fun k e => by cases e), hl1⟩
 ·have hvg : vb ≠ g := fun e => hvo (by rw [e]; rfl)
  refine (Ins_any L t g n cap i vb V1.heap.size V h.row h.len hn hv hvg h.below.size hi).mono ?_
  rintro e W ⟨v', rfl, ho, hgr⟩
  rw [hl1] at ho
  exact ⟨v', rfl, kgr h.bx hgr (fun e => by cases e; rw [h.bx] at hh; cases hh), ho, h.below.grown hgr h.below.size (fun k e => by cases e; exact hg), hl1⟩
theorem DelAny (L : List Nd) (v : Value) (n i X : Nat) (z : Int) (xc : Array Value) (V1 V : World) (h : Aft V1 X xc v L n V) (hn : n ≤ 5000) (hi : i < n) (hz : z = (i : Int) + 1) :
  Calls Tryz.prog 33 #[v, .int .i64 i, .int .i64 z] V (fun e W => ∃ v', e = .returned v' ∧ Aft V1 X xc v' (L.eraseIdx i) (n - 1) W) := by
 have hl1 : (L.eraseIdx i).length = n - 1 := by rw [List.length_eraseIdx_of_lt (by rw [h.len]; exact hi), h.len]
 rcases h.row.2 with ⟨rfl, rfl⟩ | ⟨g, cap, cur, rfl, hg, hh, -⟩
 ·omega
 ·refine (Delete_any L g n (n - 1) cap i V1.heap.size z V h.row hi (by omega) hn hz).mono ?_
  rintro e W ⟨rfl, ho, hk, hb⟩
  exact ⟨_, rfl, hk _ _ (fun e => by cases e; rw [h.bx] at hh; cases hh) h.bx, ho, hb _ _ hg h.below, hl1⟩
set_option maxRecDepth 100000 in
set_option maxHeartbeats 16000000 in
theorem After_any (w : Wal) (n : Int) (wa la ja ka : Option Addr) (wc lc jc kc nj nk : Nat) (V : World) (h : WalL V wa wc la lc ja nj jc ka nk kc w) (hn63 : -9223372036854775808 ≤ n ∧ n ≤ 9223372036854775807) :
  Calls Tryz.prog 8 #[walV wa wc la lc ja nj jc ka nk kc w, .int .i64 n] V (GivesNd (afterP w n) V) := by
 obtain ⟨hd, hhd⟩ := nm (w.head)
 obtain ⟨wl, hwl'⟩ := nm (w.M.W.length)
 obtain ⟨ll, hll'⟩ := nm (w.M.L.length)
 obtain ⟨F, hf⟩ := nm (w.M.F)
 obtain ⟨V1, hV1, hb1, hs1, hl1⟩ := laid V (wal8 wa wl wc la ll lc F hd ja nj jc ka nk kc) 30
 obtain ⟨X, hX⟩ := nm (V.heap.size)
 rw [hX] at hl1
 have HX := hid hl1
 have HB := hid hb1
 have HVX : Hid (V.heap.size ≤ X) := hid (by omega)
 have HWL := hid h
 have HFY := hid (faulty_any w wa la ja ka wc lc jc kc nj nk V1 (h.grow hb1))
 have hjl := h.j.len
 have HNJ := hid h.nj
 obtain ⟨⟨XS, E⟩, hE⟩ : ∃ x, wFault w = x := ⟨_, rfl⟩
 rw [hE] at HFY
 have HE := hid hE
 unfold walV at HFY ⊢
 rw [hhd, hwl', hll', hf] at HFY ⊢
 obtain ⟨RES, hRES⟩ := nm (afterP w n)
 rw [hRES]
 have HRES := hid hRES
 clear h hb1 hs1 hl1 hhd hwl' hll' hf hE hRES
 go_enter Tryz.func8, Tryz.ntmps8
 go_wp2_with (refine wlW rfl 30 (.tmp 2) rfl X _ rfl _ HX.out _ Tryz.underlying30 rfl (by kernel_rfl) ?_; intro v hv; subst hv)
 refine HFY.out.mono ?_
 rintro e w3 ⟨v, rfl, hrow, hb3⟩
 dsimp only at hrow ⊢
 by_cases hE0 : E = 0
 ·have HSM := hid (wFault_small (w := w) (by rw [HE.out]; exact hE0))
  rw [HE.out] at HSM
  obtain ⟨xl, hxl⟩ := nm (XS.length)
  rw [hxl] at hrow
  have H3 : Hid (Aft V1 X (wal8 wa wl wc la ll lc F hd ja nj jc ka nk kc) v (XS) xl w3) := hid ⟨klD HX.out hb3, hrow, hb3, hxl⟩
  have HXL := hid hxl
  have hxl5 : xl ≤ 1023 := by have := HSM.out.2; dsimp only at this; omega
  have tE : (((E : Nat) : Int) != 0) = false := by simp [hE0]
  have x4 : w3.cell? ⟨X, 4, none⟩ = some (.slice ja nj jc) := clD (i := 4) H3.out.bx rfl
  have HEE : Hid (E = 0) := hid hE0
  clear hrow hb3 hxl HX HFY hE0
  by_cases hbad : n < 0 ∨ (nj : Int) < n
  ·have HR : Hid (RES = ([], 2)) := hid (by rw [← HRES.out]; unfold afterP; rw [HE.out, if_neg (by simp [HEE.out]), if_pos (by rw [HNJ.out]; exact hbad)])
   by_cases hn0 : n < 0
   ·have t1 : decide (n < (0 : Int)) = true := decide_eq_true hn0
    clear hbad
    go_wp2
    go_ret2
    rw [HR.out]
    exact ⟨_, rfl, World.ownsRow_nil _ _ _ _, step HB.out H3.out.below⟩
   ·have t1 : decide (n < (0 : Int)) = false := decide_eq_false hn0
    have t2 : decide (((nj : Nat) : Int) < n) = true := decide_eq_true (hbad.resolve_left hn0)
    have t3 : decide (n > ((nj : Nat) : Int)) = true := decide_eq_true (hbad.resolve_left hn0)
    clear hbad
    go_wp2
    go_ret2
    rw [HR.out]
    exact ⟨_, rfl, World.ownsRow_nil _ _ _ _, step HB.out H3.out.below⟩
  ·have HR : Hid (RES = (afterL XS (w.J.take n.toNat), 0)) := hid (by rw [← HRES.out]; unfold afterP; rw [HE.out, if_neg (by simp [HEE.out]), if_neg (by rw [HNJ.out]; exact hbad)])
   obtain ⟨N, hN⟩ : ∃ N : Nat, n = ((N : Nat) : Int) := ⟨n.toNat, by omega⟩
   subst hN
   have hNn : N ≤ nj := by omega
   have hNc : N ≤ jc := by have := (HWL.out.j).1; omega
   have HR2 : Hid (RES = (afterL XS (w.J.take N), 0)) := hid (by rw [HR.out]; rfl)
   have t1 : decide (((N : Nat) : Int) < (0 : Int)) = false := decide_eq_false (by omega)
   have t2 : decide (((nj : Nat) : Int) < ((N : Nat) : Int)) = false := decide_eq_false (by omega)
   have t3 : decide (((N : Nat) : Int) > ((nj : Nat) : Int)) = false := decide_eq_false (by omega)
   have HNJ5 : Hid (nj ≤ 16) := hid (by have := (wFault_ok (w := w) (by rw [HE.out]; exact HEE.out)).2.2.1; rw [HNJ.out] at this; exact this)
   clear hbad HR HRES
   clear x4
   have x4 : w3.cell? ⟨X, 4, none⟩ = some (.slice ja nj jc) := clD (i := 4) H3.out.bx rfl
   go_wp2
   clear x4
   go_loopg [6, 35] N (fun g tr ti wr => ∃ (k m : Nat) (v' : Value), g + k = N ∧ v' = tr ∧ ti = .int .i64 k ∧ Hid (Aft V1 X (wal8 wa wl wc la ll lc F hd ja nj jc ka nk kc) v' (afterL XS (w.J.take k)) m wr))
   case atStart => exact ⟨0, xl, _, rfl, rfl, rfl, hid (by rw [List.take_zero]; exact H3.out)⟩
   case round =>
    clear H3
    obtain ⟨k, m, v', hk, rfl, rfl, hA⟩ := hrel
    have HK := hid hk
    clear hk
    by_cases hlt : k < N
    ·have tl : decide (((k : Nat) : Int) < ((N : Nat) : Int)) = true := decide_eq_true (by omega)
     obtain ⟨⟨cb, n0, n1, n2, n3⟩, hp⟩ : ∃ x, w.J[k]? = some x := ⟨_, List.getElem?_eq_getElem (by rw [HNJ.out]; omega)⟩
     have HP := hid hp
     obtain ⟨b, off, rfl, hcc⟩ : ∃ b o, ja = some ⟨b, o, none⟩ ∧ ∀ i v, (jbcells w.J)[i]? = some v → wr.cell? ⟨b, o + i, none⟩ = some v := by
      obtain ⟨_, _, ⟨q, _⟩ | ⟨b, off, e, _, h4⟩⟩ := (HWL.out.j.grow HB.out).grow hA.out.below
      ·omega
      ·exact ⟨b, off, e, h4⟩
     have hat : ∀ i, i < 5 → (jbcells w.J)[k * 5 + i]? = (jb5 (cb, n0, n1, n2, n3))[i]? := fun i hi => jbcell_at hp i hi
     have c0 : wr.cell? ⟨b, off + k * 5, none⟩ = some (.bool cb) := hcc (k * 5 + 0) _ (hat 0 (by decide))
     have c1 : wr.cell? ⟨b, off + k * 5 + 1, none⟩ = some (.int .u64 n0) := hcc (k * 5 + 1) _ (hat 1 (by decide))
     have c2 : wr.cell? ⟨b, off + k * 5 + 2, none⟩ = some (.int .u64 n1) := hcc (k * 5 + 2) _ (hat 2 (by decide))
     have c3 : wr.cell? ⟨b, off + k * 5 + 3, none⟩ = some (.int .u64 n2) := hcc (k * 5 + 3) _ (hat 3 (by decide))
     have c4 : wr.cell? ⟨b, off + k * 5 + 4, none⟩ = some (.int .u64 n3) := hcc (k * 5 + 4) _ (hat 4 (by decide))
     obtain ⟨ra, rc, rfl, -⟩ := Leads.of_own hA.out.row
     obtain ⟨L, hL⟩ := nm (afterL XS (w.J.take k))
     have HLI : Hid (incr L = true ∧ L.length ≤ 1039) := hid (by
      have h1 := afterL_len XS (w.J.take k)
      have h2 : (w.J.take k).length ≤ 16 := by rw [List.length_take, HNJ.out]; have := HNJ5.out; omega
      have h3 : XS.length ≤ 1023 := HSM.out.2
      rw [hL] at h1
      exact ⟨by rw [← hL]; exact afterL_incr HSM.out.1 _, by omega⟩)
     have HST : Hid (afterL XS (w.J.take (k + 1)) = stepJ L (cb, n0, n1, n2, n3)) := hid (by rw [take_snoc hp, afterL_snoc, hL])
     rw [hL] at hA
     obtain ⟨u1, hu1, hbu, hsu, hlu⟩ := laid wr #[.bool false, .int .u64 0, .int .u64 0, .int .u64 0, .int .u64 0] 66
     obtain ⟨B, hB⟩ := nm (wr.heap.size)
     rw [hB] at hlu
     obtain ⟨u2, hu2, a1, a2, a3, a4⟩ := putN5 hlu (.bool cb) (.int .u64 n0) (.int .u64 n1) (.int .u64 n2) (.int .u64 n3)
     obtain ⟨z0, zf0, z1, zf1, z2, zf2, z3, zf3, z4, zf4⟩ := fcl5 hlu
     have hb12 : Below wr.heap.size wr u2 := a3 _ wr (by omega) hbu
     have HA2 := hid (hA.out.grow hb12)
     have KB2 := hid a1
     have HU2 := hid hu2
     have hml : m ≤ 1039 := by have := HLI.out.2; have := hA.out.len; omega
     obtain ⟨p, hpn⟩ := nm (posN L (n0, n1, n2, n3))
     obtain ⟨hs, hhs⟩ := nm (hasAt L p (n0, n1, n2, n3))
     have hpm : p ≤ m := by rw [← hpn, ← hA.out.len]; exact posN_le _ _
     have HSR := hid (Search_any L (n0, n1, n2, n3) p m rc ra u2 (Leads.of_own1 HA2.out.row) HA2.out.len (by omega) hpm (fun k x hx => by rw [← hpn]; exact posN_at _ HLI.out.1 k x hx))
     rw [hhs] at HSR
     have HPN := hid hpn
     have HHS := hid hhs
     have e0 := clD (i := 0) KB2.out rfl
     have e1 := clD (i := 1) KB2.out rfl
     have e2 := clD (i := 2) KB2.out rfl
     have e3 := clD (i := 3) KB2.out rfl
     have e4 := clD (i := 4) KB2.out rfl
     unfold ndV at HSR
     clear hu2 a1 a2 a3 a4 hbu hsu hlu hcc hat hp hb12 hA hL hpn hhs
     obtain ⟨gm, hgm⟩ : ∃ x, x = gk - 1 := ⟨_, rfl⟩
     have HGM := hid hgm
     clear hgm
     go_upto_region 9 with (fail)
     rw [← HU2.out]
     clear c0 c1 c2 c3 c4 z0 z1 z2 z3 z4 zf0 zf1 zf2 zf3 zf4 HU2 hu1
     go_wp2_with fail
     refine HSR.out.mono ?_
     rintro e w5 ⟨rfl, hb5⟩
     have HA5 := hid (HA2.out.grow hb5)
     have KB5 := hid (klD KB2.out hb5)
     clear hb5 HSR HA2 KB2 e0 e1 e2 e3 e4 hB
     have e0 := clD (i := 0) KB5.out rfl
     have e1 := clD (i := 1) KB5.out rfl
     have e2 := clD (i := 2) KB5.out rfl
     have e3 := clD (i := 3) KB5.out rfl
     have e4 := clD (i := 4) KB5.out rfl
     cases cb
     case' true =>
      cases hs
      case' true =>
       have hpm2 : p < m := by
        have := HHS.out
        unfold hasAt at this
        cases hx : L[p]? with
        | none => rw [hx] at this; cases this
        | some x => have h2 := (List.getElem?_eq_some_iff.1 hx).1; have := HA5.out.len; omega
       obtain ⟨p1, hp1⟩ := nm (p + 1)
       have hpw : IntKind.i64.wrap (((p : Nat) : Int) + 1) = ((p1 : Nat) : Int) := by rw [IntKind.wrap_i64]; omega
       have HDL := hid (DelAny L (.slice ra m rc) m p X ((p1 : Nat) : Int) _ V1 w5 HA5.out (by omega) hpm2 (by omega))
       have HST2 : Hid (afterL XS (w.J.take (k + 1)) = L.eraseIdx p) := hid (by rw [HST.out]; unfold stepJ; rw [HPN.out, HHS.out, if_pos ⟨rfl, rfl⟩])
       clear hp1 HST
       go_wp2_with fail
       refine HDL.out.mono ?_
       rintro e w6 ⟨v2, rfl, hA6⟩
       have HA6 := hid hA6
       clear hA6 HDL HA5 KB5 e0 e1 e2 e3 e4
       go_wp2
       go_roundg gm
       case measure => have := HGM.out; have := HK.out; omega
       case rel => exact ⟨k + 1, m - 1, _, by have := HGM.out; have := HK.out; omega, rfl, rfl, hid (by rw [HST2.out]; exact HA6.out)⟩
      case' false =>
       have HST2 : Hid (afterL XS (w.J.take (k + 1)) = L) := hid (by rw [HST.out]; unfold stepJ; rw [HPN.out, HHS.out, if_neg (by simp), if_neg (by simp)])
       clear HST
       go_wp2
       go_roundg gm
       case measure => have := HGM.out; have := HK.out; omega
       case rel => exact ⟨k + 1, m, _, by have := HGM.out; have := HK.out; omega, rfl, rfl, hid (by rw [HST2.out]; exact HA5.out)⟩
     case' false =>
      cases hs
      case' true =>
       have HST2 : Hid (afterL XS (w.J.take (k + 1)) = L) := hid (by rw [HST.out]; unfold stepJ; rw [HPN.out, HHS.out, if_neg (by simp), if_neg (by simp)])
       clear HST
       go_wp2
       go_roundg gm
       case measure => have := HGM.out; have := HK.out; omega
       case rel => exact ⟨k + 1, m, _, by have := HGM.out; have := HK.out; omega, rfl, rfl, hid (by rw [HST2.out]; exact HA5.out)⟩
      case' false =>
       have HST2 : Hid (afterL XS (w.J.take (k + 1)) = L.take p ++ (n0, n1, n2, n3) :: L.drop p) := hid (by rw [HST.out]; unfold stepJ; rw [HPN.out, HHS.out, if_neg (by simp), if_pos ⟨rfl, rfl⟩])
       obtain ⟨w6, hw6, hbn, hsn, hln⟩ := laid w5 #[.int .u64 n0, .int .u64 n1, .int .u64 n2, .int .u64 n3] 42
       obtain ⟨VB, hVB⟩ := nm (w5.heap.size)
       rw [hVB] at hln
       have HA6 := hid (HA5.out.grow hbn)
       have HIN := hid (InsAny L (n0, n1, n2, n3) (.slice ra m rc) m p VB X _ V1 w6 HA6.out (by omega) hln (fun e => by have := own_lt HA5.out.row VB e; omega) hpm)
       clear HST hbn hsn hln HA5 KB5
       go_wp2_with fail
       refine HIN.out.mono ?_
       rintro e w7 ⟨v2, rfl, hA7⟩
       have HA7 := hid hA7
       clear hA7 HIN HA6 e0 e1 e2 e3 e4 hw6 hVB
       go_wp2
       go_roundg gm
       case measure => have := HGM.out; have := HK.out; omega
       case rel => exact ⟨k + 1, m + 1, _, by have := HGM.out; have := HK.out; omega, rfl, rfl, hid (by rw [HST2.out]; exact HA7.out)⟩
    ·have tl : decide (((k : Nat) : Int) < ((N : Nat) : Int)) = false := decide_eq_false (by omega)
     have HKN : Hid (k = N) := hid (by have := HK.out; omega)
     go_wp2
     go_ret2
     rw [HR2.out, ← HKN.out]
     exact ⟨_, rfl, by dsimp only; rw [hA.out.len]; exact own_base hA.out.row HB.out.size, step HB.out hA.out.below⟩
 ·have tE : (((E : Nat) : Int) != 0) = true := by simp; omega
  have HR : Hid (RES = ([], E)) := hid (by rw [← HRES.out]; unfold afterP; rw [HE.out, if_pos hE0])
  have HB3 := hid (step HB.out hb3)
  clear hrow hb3 hE0
  go_wp2
  go_ret2
  rw [HR.out]
  exact ⟨_, rfl, World.ownsRow_nil _ _ _ _, HB3.out⟩
end Go.Proofs.YtipohagcppfgiaaGreat
namespace Go.Proofs.YtipohagcppfgiaaGreat
open Go.RowKit
open Go.Proofs
set_option linter.unusedVariables false
attribute [local go_sem] Oper.semAt_some
/-- The writer alone. -/
def wIter (J : List Jb) (head : Nat) (g : Gst) : Nat → Gst
 | 0 => g
 | k + 1 => writeG J head (wIter J head g k)
theorem wIter_ok {J : List Jb} {head : Nat} {g : Gst} (hh : head < 18446744073709551616) (hj : ∀ x ∈ J, x.2.Ok) (ho : GOk J g) : ∀ k, GOk J (wIter J head g k)
 | 0 => ho
 | k + 1 => write_ok hh hj (wIter_ok hh hj ho k)
abbrev GoV (V0 : World) (G : Nat) (ja : Option Addr) (nj jc head : Nat) (g : Gst) (W : World) : Prop := GoC V0 V0 (V0.heap.size ≤ ·) G ja nj jc head g W
theorem GoC.start {V0 U : World} {P P' : Nat → Prop} {G : Nat} {ja : Option Addr} {nj jc head : Nat} {g : Gst} {W : World} (h : GoC V0 U P G ja nj jc head g W) : GoC V0 W P' G ja nj jc head g W := by
 obtain ⟨wa, wc, la, lc, ra, rc, h1, h2⟩ := h
 exact ⟨wa, wc, la, lc, ra, rc, h1, h2.mem, h2.rds, h2.below, Tch.refl _ _⟩
theorem GoC.canon {V0 U : World} {P : Nat → Prop} {G : Nat} {ja : Option Addr} {nj jc head : Nat} {g : Gst} {W : World} (h : GoC V0 U P G ja nj jc head g W) : GoV V0 G ja nj jc head g W := by
 obtain ⟨wa, wc, la, lc, ra, rc, h1, h2⟩ := h
 exact ⟨wa, wc, la, lc, ra, rc, h1, h2.mem, h2.rds, h2.below, Tch.of_below h2.below⟩
theorem GoC.turn {V0 U : World} {G : Nat} {ja : Option Addr} {nj jc head : Nat} {g : Gst} {W : World} (h : GoC V0 U (· = G) G ja nj jc head g W) : U.grownBy W (some G) := by
 obtain ⟨wa, wc, la, lc, ra, rc, h1, h2⟩ := h
 exact ⟨h2.tch.os, h2.tch.tape, h2.tch.output, h2.tch.size, fun k hk hne => h2.tch.block k hk (fun e => hne (by rw [e]))⟩
theorem own_keepT {W W' : World} {base size n : Nat} {e T : TypeId} {v : Value} {xs : List Value} {s : Nat} (h : W.ownsRow base e size v n xs) (hk : KeepsC s T W W') (hne : e ≠ T) : W'.ownsRow base e size v n xs :=
 okp h fun k o hk' ho => by
  obtain ⟨c, hc⟩ := own_type h k hk'
  rw [ho] at hc
  cases hc
  exact hk.2 k c e (0, 0) ho hne
theorem GoC.keepC {V0 : World} {G : Nat} {ja : Option Addr} {nj jc head : Nat} {g : Gst} {W W' : World} (h : GoV V0 G ja nj jc head g W) (hk : KeepsC V0.heap.size 3 W W') : GoV V0 G ja nj jc head g W' := by
 obtain ⟨wa, wc, la, lc, ra, rc, h1, h2⟩ := h
 have hb := h2.below.trans hk.1
 exact ⟨wa, wc, la, lc, ra, rc, hk.2 _ _ _ _ h1 (by decide), ⟨own_keepT h2.mem.w hk (by decide), own_keepT h2.mem.l hk (by decide)⟩, own_keepT h2.rds hk (by decide), hb, Tch.of_below hb⟩
theorem GoC.putObj {V0 : World} {G : Nat} {ja : Option Addr} {nj jc head : Nat} {g : Gst} {W : World} {l : Nat} {o : Obj} (h : GoV V0 G ja nj jc head g W) (hl : W.heap[l]? = some o) (ho : o.isCells = false) (hV : V0.heap.size ≤ l) (o' : Obj) : GoV V0 G ja nj jc head g (W.putObj l o') :=
 h.keepC ⟨⟨rfl, rfl, rfl, by simp [World.putObj], fun k hk => World.putObj_heap_other (by omega)⟩, fun k cs T' fr h1 h2 => (World.putObj_heap_other (fun e => by subst e; rw [hl] at h1; cases h1; cases ho)).trans h1⟩
structure RZ (Z G : Nat) (zs cs : Array Value) where
 w : World
 bz : w.heap[Z]? = some (.cells zs 82 (0, 0))
 bg : w.heap[G]? = some (.cells cs 88 (0, 0))
theorem steps_seq (V0 : World) (G Z s0 N : Nat) (ja : Option Addr) (nj jc head : Nat) (J : List Jb) (g : Gst) (hG : V0.heap.size ≤ G) (hh : head < 18446744073709551616) (hj : Leads V0 ja nj jc (jbcells J)) (hn : J.length = nj) (hJ1 : J.length ≤ 1000) (hjo : ∀ x ∈ J, x.2.Ok) (ho : GOk J g)
  (hN : ∀ k, k < N → (wIter J head g k).done < J.length) (hNd : (wIter J head g N).done = J.length) (hNb : N ≤ 1000000) :
  SeqE (Turn G s0) Fence.wide 4 Tryz.prog 57 #[.pointer (some ⟨Z, 0, none⟩)] (fun n : Nat => #[.int .i64 n]) (KeepsC V0.heap.size 3) (fun xs => xs.length = N) (fun _ => True) N
   (fun W => W.heap[Z]? = some (.cells #[.pointer (some ⟨G, 0, none⟩)] 82 (0, 0)) ∧ GoV V0 G ja nj jc head g W)
   (fun pre x W => x = pre.length + 1 ∧ GoV V0 G ja nj jc head (wIter J head g (pre.length + 1)) W) (fun _ W => GoV V0 G ja nj jc head (wIter J head g N) W) := by
 intro l J' Jx W hR hJ hJx hY h0
 obtain ⟨hZ, hGo⟩ := hR
 have HZ := hid hZ
 have HGo := hid hGo
 have HJ := hid hJ
 have HY := hid hY
 have HJ0 := hid h0
 have HLJ := hid hj
 have HNJ := hid hn
 have HJL := hid hJ1
 have HJO := hid hjo
 have HO := hid ho
 have HN := hid hN
 have HND := hid hNd
 clear hZ hGo hJ hJx hY h0 hj hn hJ1 hjo ho hN hNd
 refine callsIn_of_wp Tryz.func57 rfl trivial ?_ rfl
 simp only [Tryz.ntmps57, List.size_toArray, List.length_cons, List.length_nil, Nat.reduceAdd, Nat.reduceSub, Array.replicate_succ, Array.replicate_zero, List.push_toArray, List.append_toArray, List.nil_append, List.cons_append]
 gi_wp2
 gi_loopg [3] N (fun gk t3 wr => ∃ (k : Nat) (pre : List Nat), gk + k = N ∧ pre.length = k ∧ t3 = .int .i64 ((k + 1 : Nat) : Int) ∧ Hid (wr.heap[Z]? = some (.cells #[.pointer (some ⟨G, 0, none⟩)] 82 (0, 0))) ∧ Hid (GoV V0 G ja nj jc head (wIter J head g k) wr) ∧ Hid (J' pre wr))
 case atStart => exact ⟨0, [], rfl, rfl, rfl, HZ, HGo, HJ0⟩
 case round =>
  clear HZ HGo HJ0
  obtain ⟨k, pre, hk, hpl, rfl, hZ, hGo, hJs⟩ := hrel
  have HK := hid hk
  have HPL := hid hpl
  clear hk hpl
  obtain ⟨gs, hgs⟩ := nm (wIter J head g k)
  rw [hgs] at hGo
  have HGS := hid hgs
  obtain ⟨M, d, eb, e, s, R⟩ := gs
  obtain ⟨D, hD⟩ := nm (World.drew wr)
  have hbD : Below wr.heap.size wr D := by rw [← hD]; exact (Below.refl _ _).drew
  have HD := hid hD
  obtain ⟨wa, wc, la, lc, ra, rc, hK, hR⟩ := hGo.out
  have K4 := hid (klD hK hbD)
  have Z4 := hid (klD hZ.out hbD)
  have G4 := hid (hGo.out.grow hbD)
  have J4 := hid (HJ.out _ _ _ hJs.out (Turn.grow (Bs := G) (s0 := s0) hbD))
  clear hD hbD hK hR hGo hZ hJs hgs
  dsimp only at K4
  haveI : Nonempty (RZ Z G #[.pointer (some ⟨G, 0, none⟩)] (g23 wa M.W.length wc la M.L.length lc M.F d eb e s ra R.length rc ja nj jc head)) := ⟨⟨D, Z4.out, K4.out⟩⟩
  have qz : ∀ z : RZ Z G #[.pointer (some ⟨G, 0, none⟩)] (g23 wa M.W.length wc la M.L.length lc M.F d eb e s ra R.length rc ja nj jc head), z.w.cell? ⟨Z, 0, none⟩ = some (.pointer (some ⟨G, 0, none⟩)) := fun z => clD (i := 0) z.bz rfl
  have q3 : ∀ z : RZ Z G #[.pointer (some ⟨G, 0, none⟩)] (g23 wa M.W.length wc la M.L.length lc M.F d eb e s ra R.length rc ja nj jc head), z.w.cell? ⟨G, 3, none⟩ = some (.int .i64 d) := fun z => clD (i := 3) z.bg rfl
  have q21 : ∀ z : RZ Z G #[.pointer (some ⟨G, 0, none⟩)] (g23 wa M.W.length wc la M.L.length lc M.F d eb e s ra R.length rc ja nj jc head), z.w.cell? ⟨G, 21, none⟩ = some (.slice ja nj jc) := fun z => clD (i := 21) z.bg rfl
  gi_wp2
  refine wpIn_region_mixT (fun V => ∃ z : RZ Z G #[.pointer (some ⟨G, 0, none⟩)] (g23 wa M.W.length wc la M.L.length lc M.F d eb e s ra R.length rc ja nj jc head), V = z.w) 11 (.q 0 (.q 1 (.q 2 (.q 3 (.q 4 (.q 5 (.q 6 (.q 7 (.q 8 (.q 9 (.q 10 (.done)))))))))))) (fun ⟨a, w, h⟩ => by obtain ⟨⟨v, e⟩, -⟩ := h; cases e) (by kernel_rfl) (by kernel_rfl) (by rw [HD.out]; exact ⟨⟨D, Z4.out, K4.out⟩, rfl⟩) ?_
  rw [HD.out]
  iterate 11 (refine m2q rfl rfl ?_; go_big_quiet_step (fail); refine wpQuiet_nil ?_)
  refine m2d ?_
  simp only [List.drop_succ_cons, List.drop_nil]
  clear qz q3 q21 HD
  by_cases hlt : k < N
  ·have hdn : d < nj := by have := HN.out k hlt; rw [HGS.out, HNJ.out] at this; exact this
   have zc := clD (i := 0) Z4.out rfl
   have HWR := hid (write_any V0 D (· = G) G ja nj jc head J ⟨M, d, eb, e, s, R⟩ D hG rfl HLJ.out HNJ.out G4.out.start HJL.out HJO.out (by have := wIter_ok hh HJO.out HO.out k; rw [HGS.out] at this; exact this))
   have HNX : Hid (wIter J head g (k + 1) = writeG J head ⟨M, d, eb, e, s, R⟩) := hid (by rw [← HGS.out]; rfl)
   obtain ⟨k1, hk1⟩ := nm (k + 1)
   rw [hk1] at HNX
   obtain ⟨k2, hk2⟩ := nm (k1 + 1)
   have hk2i : IntKind.i64.wrap (((k1 : Nat) : Int) + 1) = ((k2 : Nat) : Int) := by rw [IntKind.wrap_i64]; omega
   have HK1 := hid hk1
   have HK2 := hid hk2
   rw [hk1]
   clear hk1 hk2 HN
   gi_wp2_with fail
   refine ⟨trivial, ?_⟩
   refine (callsIn_wide.2 HWR.out).mono ?_
   rintro e9 w5 ⟨rfl, hgo⟩
   rw [← HNX.out] at hgo
   have HT5 := hid hgo.turn
   have G5 := hid hgo.canon
   have J5 := hid (HJ.out _ _ _ J4.out ⟨_, HT5.out, fun r e => by cases e; exact .inl rfl⟩)
   have hGZ : G ≠ Z := tyN K4.out Z4.out (by decide)
   have Z5 := hid (kgr Z4.out HT5.out (fun e => hGZ (Option.some.inj e)))
   obtain ⟨fn, tmps, assign, body, hy, hR⟩ := HY.out pre k1 w5 J5.out (by have := HPL.out; omega) ⟨by rw [HPL.out]; exact HK1.out.symm, by rw [HPL.out, HK1.out]; exact G5.out⟩
   clear hgo HT5 hGZ HWR K4 Z4 G4 J4 zc
   gi_wp2
   refine hR.mono ?_
   rintro e9 w6 (⟨rfl, hJ6, hk6⟩ | ⟨rfl, hJx6⟩)
   ·have Z6 := hid (hk6.2 _ _ _ _ Z5.out (by decide))
    have G6 := hid (G5.out.keepC hk6)
    have J6 := hid hJ6
    clear hk6 hJ6 hR hy Z5 G5 J5
    gi_wp2
    go_roundg (gk - 1)
    case measure => have := HK.out; omega
    case rel => exact ⟨k1, pre ++ [k1], by have := HK.out; have := HK1.out; omega, by rw [List.length_append, HPL.out]; exact HK1.out, by rw [HK2.out], Z6, G6, J6⟩
   ·have JX := hid hJx6
    clear hJx6 hR hy
    gi_wp2
    refine bodyPost_ret (results_none rfl _ _ _) rfl ?_
    exact ⟨⟨_, rfl⟩, .inr ⟨_, trivial, JX.out⟩⟩
  ·have hkN : k = N := by have := HK.out; omega
   have hdn : ¬ d < nj := by have := HND.out; rw [← hkN, HGS.out, HNJ.out] at this; dsimp only at this; omega
   have HF : Hid (pre.length = N) := hid (by rw [HPL.out]; exact hkN)
   have GF : Hid (GoV V0 G ja nj jc head (wIter J head g N) D) := hid (by rw [← hkN, HGS.out]; exact G4.out)
   clear hkN hlt
   gi_wp2
   go_end0
   exact ⟨⟨_, rfl⟩, .inl ⟨pre, HF.out, J4.out, GF.out⟩⟩
end Go.Proofs.YtipohagcppfgiaaGreat
namespace Go.Proofs.YtipohagcppfgiaaGreat
open Go.RowKit
open Go.Proofs
set_option linter.unusedVariables false
attribute [local go_sem] Oper.semAt_some
theorem steps_any (G : Nat) (V V2 : World) (hV : V.alloc (.cells #[.pointer (some ⟨G, 0, none⟩)] 82) = V2) :
  Calls Tryz.prog 37 #[.pointer (some ⟨G, 0, none⟩)] V (fun e W => e = .returned (.func (.func 57) #[] #[.pointer (some ⟨V.heap.size, 0, none⟩)]) ∧ W = V2) := by
 have hmf : ∀ (fn : Fn) (first cap : Array Value) (w : World), (Instr.makeFunc fn first cap).run Tryz.prog w = .ok (.func fn first cap) w := fun _ _ _ _ => rfl
 have HV := hid hV
 clear hV
 go_enter Tryz.func37, Tryz.ntmps37
 go_wp2
 go_ret
 exact ⟨rfl, HV.out⟩
/-- What all steps of the writer alone come to, N of them. -/
structure AllSteps (w : Wal) (N : Nat) : Prop where
 lt : ∀ k, k < N → (wIter w.J w.head (ofG w) k).done < w.J.length
 dn : (wIter w.J w.head (ofG w) N).done = w.J.length
 ok : ∀ k, k ≤ N → (wIter w.J w.head (ofG w) k).M.F = false
 small : N ≤ 1000000
def wholeP (w : Wal) (N : Nat) : Gst × Nat × Nat := if (wFault w).2 ≠ 0 then (zeroG, 0, (wFault w).2) else (wIter w.J w.head (ofG w) N, N, 0)
structure WhI (V V3 : World) (Y T6 T7 G B : Nat) (k : Nat) (W : World) : Prop where
 by_ : W.heap[Y]? = some (.cells (w21 none 0 0 none 0 0 false 0 false zeroEd zeroSk none 0 0) 49 (0, 0))
 b6 : W.heap[T6]? = some (.cells #[.pointer (some ⟨G, 0, none⟩)] 82 (0, 0))
 b7 : W.heap[T7]? = some (.cells #[.int .i64 k] 3 (0, 0))
 below : Below V.heap.size V W
 sz : B ≤ W.heap.size
theorem WhI.abide {V V3 : World} {Y T6 T7 G B k : Nat} {A C : World} {row : Option Nat} (h : WhI V V3 Y T6 T7 G B k A) (hg : A.grownBy C row) (hr : ∀ r, row = some r → r = G ∨ (B ≤ r ∧ ∃ o, A.heap[r]? = some o ∧ o.isCells = false)) (h1 : Y ≠ G) (h2 : T6 ≠ G) (h3 : T7 ≠ G) (h4 : V.heap.size ≤ G) (h5 : V.heap.size ≤ B) : WhI V V3 Y T6 T7 G B k C :=
 ⟨cells_abide h.by_ hg hr h1, cells_abide h.b6 hg hr h2, cells_abide h.b7 hg hr h3, below_abide h.below hg hr h4 h5, Nat.le_trans h.sz hg.size⟩
theorem Whole_result {W : World} {b : Nat} {vs : Array Value} {u3 u4 : Value} {tmps : Array Value} (h : W.heap[b]? = some (.cells vs 49 (0, 0))) (hs : vs.size = 21) (q2 : tmps[2]?.getD undef = .pointer (some ⟨b, 0, none⟩)) (q3 : tmps[3]?.getD undef = u3) (q4 : tmps[4]?.getD undef = u4) :
  (results Tryz.f11 tmps).run Tryz.prog W = .ok (.tuple #[.agg vs, u3, u4]) W := by
 have hl := run_loadVar_row (P := Tryz.prog) W b 49 49 vs (0, 0) _ h Tryz.underlying49 rfl (by rw [hs]; kernel_rfl)
 have ha : (asAddr (.pointer (some ⟨b, 0, none⟩))).run Tryz.prog W = .ok ⟨b, 0, none⟩ W := rfl
 simp [results, Tryz.results11, q2, q3, q4, ha, hl]
structure RWh (T6 G T7 : Nat) (k : Nat) (cs : Array Value) where
 w : World
 b6 : w.heap[T6]? = some (.cells #[.pointer (some ⟨G, 0, none⟩)] 82 (0, 0))
 bg : w.heap[G]? = some (.cells cs 88 (0, 0))
 b7 : w.heap[T7]? = some (.cells #[.int .i64 k] 3 (0, 0))
set_option maxRecDepth 100000 in
set_option maxHeartbeats 16000000 in
theorem Whole_any (w : Wal) (N : Nat) (wa la ja ka : Option Addr) (wc lc jc kc nj nk : Nat) (V : World) (h : WalL V wa wc la lc ja nj jc ka nk kc w) (hN : (wFault w).2 = 0 → AllSteps w N) :
  Calls Tryz.prog 11 #[walV wa wc la lc ja nj jc ka nk kc w] V (fun e W => ∃ v, e = .returned (.tuple #[v, .int .i64 (((wholeP w N).2.1 : Nat) : Int), .int .i64 (((wholeP w N).2.2 : Nat) : Int)]) ∧ GivesW (wholeP w N).1 V v W) := by
 obtain ⟨hd, hhd⟩ := nm (w.head)
 obtain ⟨wl, hwl'⟩ := nm (w.M.W.length)
 obtain ⟨ll, hll'⟩ := nm (w.M.L.length)
 obtain ⟨F, hf⟩ := nm (w.M.F)
 obtain ⟨V1, hV1, hb1, hs1, hl1⟩ := laid V (wal8 wa wl wc la ll lc F hd ja nj jc ka nk kc) 30
 obtain ⟨X, hX⟩ := nm (V.heap.size)
 rw [hX] at hl1
 obtain ⟨V2, hV2, hb2, hs2, hl2⟩ := laid V1 (w21 none 0 0 none 0 0 false 0 false zeroEd zeroSk none 0 0) 49
 obtain ⟨Y, hY⟩ := nm (V1.heap.size)
 rw [hY] at hl2
 have hXY : X < Y := by omega
 have hVY : V.heap.size ≤ Y := by omega
 have HX := hid (klD hl1 hb2)
 have HY := hid hl2
 have HB := hid (step hb1 hb2)
 have hV2' : V1.alloc (.cells #[.slice none 0 0, .slice none 0 0, .bool false, .int .i64 0, .bool false, .int .i64 0, .bool false, .int .u64 0, .int .u64 0, .int .u64 0, .int .u64 0, .int .u64 0, .int .u64 0, .int .i64 0, .int .u64 0, .int .u64 0, .int .u64 0, .int .u64 0, .int .u64 0, .bool false, .slice none 0 0] 49) = V2 := hV2
 have HWL := hid h
 have HNN := hid hN
 have HC := hid (WCheck_any w wa la ja ka wc lc jc kc nj nk V2 (h.grow HB.out))
 obtain ⟨E, hE⟩ := nm ((wFault w).2)
 rw [hE] at HC
 have HOF := hid (fun (hE0 : E = 0) (V' : World) (hb : Below V2.heap.size V2 V') => of_any w wa la ja ka wc lc jc kc nj nk V' ((h.grow HB.out).grow hb) (by
   have := wFault_ok (w := w) (by rw [hE]; exact hE0); omega) (by have := wFault_ok (w := w) (by rw [hE]; exact hE0); omega) (by have := wFault_ok (w := w) (by rw [hE]; exact hE0); have := h.nj; omega) (by have := wFault_ok (w := w) (by rw [hE]; exact hE0); have := h.nk; omega))
 have HE := hid hE
 have HHD := hid hhd
 unfold walV at HC HOF ⊢
 rw [hhd, hwl', hll', hf] at HC HOF ⊢
 clear hV2 h hb1 hs1 hl1 hb2 hs2 hl2 hhd hwl' hll' hf hE hN
 refine calls_of_wp_marks Tryz.func11 rfl ?_
 simp only [Tryz.ntmps11, List.size_toArray, List.length_cons, List.length_nil, Nat.reduceAdd, Nat.reduceSub, Array.replicate_succ, Array.replicate_zero, List.push_toArray, List.append_toArray, List.nil_append, List.cons_append]
 go_wp2
 go_step3
 go_wp2_with (refine wlW rfl 30 (.tmp 1) rfl X _ rfl _ HX.out _ Tryz.underlying30 rfl (by kernel_rfl) ?_; intro v hv; subst hv)
 refine HC.out.mono ?_
 rintro e w3 ⟨rfl, hb3⟩
 have HX3 := hid (klD HX.out hb3)
 have HY3 := hid (klD HY.out hb3)
 have HB3 := hid (step HB.out hb3)
 have HOF3 := hid (fun hE0 => HOF.out hE0 w3 hb3)
 clear hb3 HX HY HB HC HOF hV1 hX hV2' hY
 by_cases hE0 : E = 0
 ·have tE : (((E : Nat) : Int) != 0) = false := by simp [hE0]
  have HR : Hid (wholeP w N = (wIter w.J w.head (ofG w) N, N, 0)) := hid (by unfold wholeP; rw [HE.out, if_neg (by simp [hE0])])
  have HOF4 := hid (HOF3.out hE0)
  have HJ1 := hid (wFault_jobs HE.out hE0)
  have HAL := hid (HNN.out (by rw [HE.out]; exact hE0))
  clear HOF3
  go_wp2_with (refine wlW rfl 30 (.tmp 1) rfl X _ rfl _ HX3.out _ Tryz.underlying30 rfl (by kernel_rfl) ?_; intro v hv; subst hv)
  refine HOF4.out.mono ?_
  rintro e w4 ⟨G, rfl, hG, hgc⟩
  rw [← HHD.out] at hgc
  have HGC := hid hgc
  have hYw : Y < w3.heap.size := llD HY3.out
  have hb34 : Below w3.heap.size w3 w4 := by obtain ⟨_, _, _, _, _, _, _, h2⟩ := hgc; exact h2.below
  have hG4 : G < w4.heap.size := by obtain ⟨_, _, _, _, _, _, h1, _⟩ := hgc; exact llD h1
  obtain ⟨w5, hw5, hbn5, hsn5, hln5⟩ := laid w4 #[.pointer none] 82
  obtain ⟨T6, hT6⟩ := nm (w4.heap.size)
  rw [hT6] at hln5
  have y0 := clD (i := 0) hln5 rfl
  have yf := flD (i := 0) hln5
  obtain ⟨w6, hw6⟩ : ∃ x, w5.setCell ⟨T6, 0, none⟩ (.pointer (some ⟨G, 0, none⟩)) = x := ⟨_, rfl⟩
  have h66 : w6.heap[T6]? = some (.cells #[.pointer (some ⟨G, 0, none⟩)] 82 (0, 0)) := by rw [← hw6]; exact slD (i := 0) hln5 _
  have hb46 : Below w4.heap.size w4 w6 := by rw [← hw6]; exact hbn5.setCell (by show w4.heap.size ≤ T6; omega) _
  obtain ⟨w7, hw7, hbn7, hsn7, hln7⟩ := laid w6 #[.int .i64 0] 3
  obtain ⟨T7, hT7⟩ := nm (w6.heap.size)
  rw [hT7] at hln7
  have f7 := clD (i := 0) hln7 rfl
  have ff7 := flD (i := 0) hln7
  obtain ⟨w8, hw8⟩ : ∃ x, w7.setCell ⟨T7, 0, none⟩ (.int .i64 0) = x := ⟨_, rfl⟩
  have h88 : w8.heap[T7]? = some (.cells #[.int .i64 0] 3 (0, 0)) := by rw [← hw8]; exact slD (i := 0) hln7 _
  have hb68 : Below w6.heap.size w6 w8 := by rw [← hw8]; exact hbn7.setCell (by show w6.heap.size ≤ T7; omega) _
  have h86 := klD h66 hb68
  obtain ⟨w9, hw9, hbn9, hsn9, hln9⟩ := laid w8 #[.pointer (some ⟨G, 0, none⟩)] 82
  obtain ⟨Z, hZ⟩ := nm (w8.heap.size)
  rw [hZ] at hln9
  have H96 := hid (klD h86 hbn9)
  have H97 := hid (klD h88 hbn9)
  have HZ9 := hid hln9
  have hb49 := step (step hb46 hb68) hbn9
  have HY9 := hid (klD (klD HY3.out hb34) hb49)
  have HG9 := hid ((hgc.grow hb49).canon)
  have HB9 := hid (step (step HB3.out hb34) hb49)
  have hGT6 : G < T6 := by omega
  have hw6s : w4.heap.size ≤ T7 := by have := hb46.size; omega
  have hT67 : T6 < T7 := by have := llD h66; omega
  have hT7Z : T7 < Z := by have := llD h88; omega
  have hZ9 : Z < w9.heap.size := llD hln9
  have hV3s : V.heap.size ≤ w3.heap.size := HB3.out.size
  have HSA := hid (steps_any G w8 w9 hw9)
  rw [hZ] at HSA
  have c86 := clD (i := 0) h86 rfl
  clear hgc HOF4 hE0 tE hb34 hb46 hb68 hb49 h66 h88 h86 hbn5 hsn5 hln5 hbn7 hsn7 hln7 hbn9 hsn9 hln9 hw9 HGC
  go_wp2
  go_step3
  go_wp2_with fail
  refine HSA.out.mono ?_
  rintro e9 W9 ⟨rfl, rfl⟩
  clear HSA c86 y0 yf f7 ff7 hw5 hw6 hw7 hw8 hT6 hT7 hZ
  go_wp2
  have hYG : Y ≠ G := by omega
  have hT6G : T6 ≠ G := by omega
  have hT7G : T7 ≠ G := by omega
  refine wp_rangeE (Bs := G) (s0 := w3.heap.size) (T0 := 3) (gf := 57) (lb := #[.pointer (some ⟨Z, 0, none⟩)]) rfl (enters_of Tryz.func57 (by kernel_rfl) rfl)
   (fun pre x W l o o' hl hlo hc hh => ⟨hh.1, hh.2.putObj hlo hc (by omega) o'⟩) (fun xs W l o o' hl hlo hc hh => hh.putObj hlo hc (by omega) o')
   (steps_seq w3 G Z _ N ja nj jc w.head w.J (ofG w) hG HWL.out.hh (HWL.out.j.grow HB3.out) HWL.out.nj HJ1.out HWL.out.jok (of_ok HWL.out.hh HWL.out.jok HWL.out.kok HWL.out.wok) HAL.out.lt HAL.out.dn HAL.out.small)
   (by omega) (by omega) (fun o o' => ?hR) (fun _ => rfl)
   (fun pre W => WhI V w3 Y T6 T7 G W9.heap.size pre.length W) (fun c pre W => False) ?hI ?hIx ?h0 (fun t y => (t.setIfInBounds 19 (.int .i64 ((y : Nat) : Int))).setIfInBounds 8 (.int .i64 ((y : Nat) : Int))) ?assign ?body ?done ?stop
  case hR =>
   have hb := ((Below.refl W9.heap.size W9).alloc (Nat.le_refl _) o)
   have hb2 := step hb ((Below.refl _ _).alloc (Nat.le_refl _) o')
   exact ⟨klD HZ9.out hb2, HG9.out.grow hb2⟩
  case hI => exact fun s A C row hs hg hr => hs.abide hg hr hYG hT6G hT7G (by omega) (by omega)
  case hIx => exact fun c s A C row hs hg hr => hs
  case h0 => exact ⟨HY9.out, H96.out, H97.out, HB9.out, Nat.le_refl _⟩
  case assign =>
   intro l y W K hK
   gi_wp2
   exact hK
  case body =>
   rintro l pre y W hI hlen ⟨hy, hgo⟩
   have HI := hid hI
   have HY' := hid hy
   obtain ⟨W1, hW1⟩ : ∃ x, W.setCell ⟨T7, 0, none⟩ (.int .i64 y) = x := ⟨_, rfl⟩
   have hkc : KeepsC w3.heap.size 3 W W1 := by
    rw [← hW1]
    refine ⟨(Below.refl _ _).setCell (by show w3.heap.size ≤ T7; omega) _, fun k cs T' fr h1 h2 => ?_⟩
    exact olD h1 (fun e => by subst e; rw [hI.b7] at h1; cases h1; exact h2 rfl) _
   have HKC := hid hkc
   have hgo1 := hgo.keepC hkc
   obtain ⟨wa', wc', la', lc', ra', rc', hK1, -⟩ := hgo1
   have g2 : W1.cell? ⟨G, 2, none⟩ = some (.bool false) := by
    have := clD (i := 2) hK1 rfl
    rw [this]
    have hfk := HAL.out.ok (pre.length + 1) (by omega)
    simp [hfk]
   have c7 := clD (i := 0) HI.out.b7 rfl
   have f7 := flD (i := 0) HI.out.b7
   have c6 : W1.cell? ⟨T6, 0, none⟩ = some (.pointer (some ⟨G, 0, none⟩)) := clD (i := 0) (hkc.2 _ _ _ _ HI.out.b6 (by decide)) rfl
   have HNW : Hid (WhI V w3 Y T6 T7 G W9.heap.size (pre.length + 1) W1) := hid ⟨hkc.2 _ _ _ _ hI.by_ (by decide), hkc.2 _ _ _ _ hI.b6 (by decide), by rw [← hW1, hy]; exact slD (i := 0) hI.b7 _, by rw [← hW1]; exact hI.below.setCell (by show V.heap.size ≤ T7; omega) _, by rw [← hW1]; simpa [World.setCell] using hI.sz⟩
   have HKO : Hid (KeepsOthers W W1) := hid (by rw [← hW1]; exact KeepsOthers.setCell _ _ _)
   clear hkc hK1 hgo hI hy
   gi_wp2
   exact ⟨HKO.out, HKC.out, by dsimp only; rw [List.length_append]; exact HNW.out⟩
  case done =>
   intro D xs W hD hS hI hgo hDD
   obtain ⟨gf, hgf⟩ := nm (wIter w.J w.head (ofG w) N)
   rw [hgf] at hgo
   have HGF := hid hgf
   obtain ⟨M, d, eb, e, s, R⟩ := gf
   obtain ⟨D2, hD2⟩ := nm (World.drew W)
   have hbD : Below W.heap.size W D2 := by rw [← hD2]; exact (Below.refl _ _).drew
   have HD2 := hid hD2
   obtain ⟨wa', wc', la', lc', ra', rc', hK, hR⟩ := hgo.grow hbD
   dsimp only at hK hR
   have KG := hid hK
   have RG := hid hR
   have K6 := hid (klD hI.b6 hbD)
   have K7 := hid (klD hI.b7 hbD)
   have KY := hid (klD hI.by_ hbD)
   have KB := hid (step hI.below hbD)
   have KD := hid (klD hDD hbD)
   have HS := hid hS
   rw [hS] at K7
   clear hI hDD hgo hK hR hbD hgf hD2 hS
   haveI : Nonempty (RWh T6 G T7 N (g23 wa' M.W.length wc' la' M.L.length lc' M.F d eb e s ra' R.length rc' ja nj jc w.head)) := ⟨⟨D2, K6.out, KG.out, K7.out⟩⟩
   have q6 : ∀ z : RWh T6 G T7 N (g23 wa' M.W.length wc' la' M.L.length lc' M.F d eb e s ra' R.length rc' ja nj jc w.head), z.w.cell? ⟨T6, 0, none⟩ = some (.pointer (some ⟨G, 0, none⟩)) := fun z => clD (i := 0) z.b6 rfl
   have q7 : ∀ z : RWh T6 G T7 N (g23 wa' M.W.length wc' la' M.L.length lc' M.F d eb e s ra' R.length rc' ja nj jc w.head), z.w.cell? ⟨T7, 0, none⟩ = some (.int .i64 N) := fun z => clD (i := 0) z.b7 rfl
   go_wp2
   refine rgm2 (fun W => ∃ z : RWh T6 G T7 N (g23 wa' M.W.length wc' la' M.L.length lc' M.F d eb e s ra' R.length rc' ja nj jc w.head), W = z.w) 8 (.q 0 (.q 1 (.q 2 (.q 3 (.q 4 (.h 5 (.q 6 (.q 7 (.done))))))))) (by kernel_rfl) (by kernel_rfl) (by rw [HD2.out]; exact ⟨⟨D2, K6.out, KG.out, K7.out⟩, rfl⟩) ?_
   rw [HD2.out]
   iterate 3 (refine m2q rfl rfl ?_; go_big_quiet_step (fail); refine wpQuiet_nil ?_)
   refine m2q rfl rfl ?_
   refine wpQuiet_loadP rfl 49 (.tmp 29) rfl G 0 (w21 wa' M.W.length wc' la' M.L.length lc' M.F d eb e s ra' R.length rc').toList rfl (by rintro _ ⟨z, rfl⟩; exact rangeAt_part z.bg rfl) _ Tryz.underlying49 rfl (by kernel_rfl) ?_
   intro v hv
   subst hv
   refine wpQuiet_nil ?_
   simp only [Act.put, List.setIfInBounds_toArray, List.set_cons_succ, List.set_cons_zero]
   iterate 1 (refine m2q rfl rfl ?_; go_big_quiet_step (fail); refine wpQuiet_nil ?_)
   refine m2h rfl fun R' hR' hO => ?_
   go_wp2_with (refine wsP rfl 49 (.tmp 2) (.tmp 30) rfl Y 0 _ (w21 wa' M.W.length wc' la' M.L.length lc' M.F d eb e s ra' R.length rc') _ rfl rfl _ KY.out (by kernel_rfl) (Nat.le_of_ble_eq_true rfl) (by kernel_rfl) rfl ?_; intro u9 a1 a2 a3 a4; have KY9 := hid a1; have KG9 := hid (a2 G _ (by omega) KG.out); have K69 := hid (a2 T6 _ (by omega) K6.out); have K79 := hid (a2 T7 _ (by omega) K7.out); have KD9 := hid (a2 D _ (by omega) KD.out); have RM9 := hid (MemO.far2 RG.out.mem KY.out (by decide) (by decide) a2); have RR9 := hid (okp RG.out.rds fun k o hk ho => a2 k o (own_neT RG.out.rds KY.out (by decide) k hk) ho); have RB9 := hid (a3 V.heap.size V hVY KB.out); clear a1 a2 a3 a4 KG RG KY KB K6 K7 KD; (try simp only [Act.put]))
   refine hR' _ _ ⟨⟨u9, K69.out, KG9.out, K79.out⟩, rfl⟩ ?_
   clear hR' hO R'
   iterate 2 (refine m2q rfl rfl ?_; go_big_quiet_step (fail); refine wpQuiet_nil ?_)
   refine m2d ?_
   simp only [List.drop_succ_cons, List.drop_nil]
   clear q6 q7 HD2
   go_wp2
   rw [Exit.noGoto_ret]
   refine leaves_mark KD9.out (Whole_result (mark_other KY9.out KD9.out _) rfl rfl rfl rfl) ?_
   rw [HR.out]
   have hVD : V.heap.size ≤ D := by omega
   have nD : ∀ (k : Nat) (o : Obj), k ≠ D → u9.heap[k]? = some o → (u9.putObj D (.deferred none)).heap[k]? = some o := fun k o h1 h2 => (World.putObj_heap_other h1).trans h2
   have cD : ∀ (k : Nat) (cs : Array Value) (T : TypeId), u9.heap[k]? = some (.cells cs T (0, 0)) → k ≠ D := fun k cs T h1 e => by subst e; rw [KD9.out] at h1; cases h1
   have ownD : ∀ {base size n : Nat} {e : TypeId} {v : Value} {xs : List Value}, u9.ownsRow base e size v n xs → (u9.putObj D (.deferred none)).ownsRow base e size v n xs := fun h => okp h fun k o hk ho => nD k o (by obtain ⟨c, hc⟩ := own_type h k hk; exact cD _ _ _ hc) ho
   exact ⟨_, rfl, by dsimp only; rw [HGF.out]; exact ⟨_, _, _, _, _, _, rfl, ⟨ownD (own_base RM9.out.w hV3s), ownD (own_base RM9.out.l hV3s)⟩, ownD (own_base RR9.out hV3s), below_mark RB9.out hVD KD9.out⟩⟩
  case stop =>
   intro D c pre W hD _ hc
   exact hc.elim
 ·have tE : (((E : Nat) : Int) != 0) = true := by simp; omega
  have HR : Hid (wholeP w N = (zeroG, 0, E)) := hid (by unfold wholeP; rw [HE.out, if_pos hE0])
  clear HOF3 hE0
  go_wp2_with (refine wsP rfl 49 (.tmp 2) (.tmp 13) rfl Y 0 _ (w21 none 0 0 none 0 0 false 0 false zeroEd zeroSk none 0 0) _ rfl rfl _ HY3.out (by kernel_rfl) (Nat.le_of_ble_eq_true rfl) (by kernel_rfl) rfl ?_; intro u9 a1 a2 a3 a4; have KY9 := hid a1; have RB9 := hid (a3 V.heap.size V hVY HB3.out); clear a1 a2 a3 a4 HY3 HB3; (try simp only [Act.put]))
  rw [Exit.noGoto_ret]
  refine leaves_none (Whole_result KY9.out rfl rfl rfl rfl) ?_
  rw [HR.out]
  exact ⟨_, rfl, gives_zero V _ RB9.out⟩
end Go.Proofs.YtipohagcppfgiaaGreat
namespace Go.Proofs.YtipohagcppfgiaaGreat
open Go.RowKit
open Go.Proofs
set_option linter.unusedVariables false
theorem elemJb : Elem Tryz.prog 27 66 5 40 := Elem.mk' (z := .agg #[.bool false, .int .u64 0, .int .u64 0, .int .u64 0, .int .u64 0]) Tryz.underlying27 (by kernel_rfl) rfl (by decide) (by decide)
theorem elemKy : Elem Tryz.prog 28 68 2 16 := Elem.mk' (z := .agg #[.int .u64 0, .int .u64 0]) Tryz.underlying28 (by kernel_rfl) rfl (by decide) (by decide)
theorem jb5_one (j : Jb) : ∀ u ∈ jb5 j, u.oneCell' = true := by
 intro u hu
 simp only [jb5, nd4, List.mem_cons, List.mem_nil_iff, or_false] at hu
 rcases hu with rfl | rfl | rfl | rfl | rfl <;> rfl
theorem ky2_one (k : Nat × Nat) : ∀ u ∈ ky2 k, u.oneCell' = true := by
 intro u hu
 simp only [ky2, List.mem_cons, List.mem_nil_iff, or_false] at hu
 rcases hu with rfl | rfl <;> rfl
theorem jbcells_one (js : List Jb) : ∀ u ∈ jbcells js, u.oneCell' = true := fun u hu => by
 obtain ⟨j, -, h⟩ := List.mem_flatMap.1 hu
 exact jb5_one j u h
theorem kycells_one (ks : List (Nat × Nat)) : ∀ u ∈ kycells ks, u.oneCell' = true := fun u hu => by
 obtain ⟨j, -, h⟩ := List.mem_flatMap.1 hu
 exact ky2_one j u h
theorem jbcells_take (js : List Jb) (k : Nat) : (jbcells js).take (k * 5) = jbcells (js.take k) := by
 induction js generalizing k with
 | nil => simp [jbcells]
 | cons x xs ih =>
  cases k with
  | zero => simp [jbcells]
  | succ k =>
   have e : (k + 1) * 5 = (jb5 x).length + k * 5 := by show _ = 5 + k * 5; omega
   show (jb5 x ++ jbcells xs).take _ = jb5 x ++ jbcells (xs.take k)
   rw [e, List.take_append, List.take_of_length_le (by omega), Nat.add_sub_cancel_left, ih]
theorem kycells_take (js : List (Nat × Nat)) (k : Nat) : (kycells js).take (k * 2) = kycells (js.take k) := by
 induction js generalizing k with
 | nil => simp [kycells]
 | cons x xs ih =>
  cases k with
  | zero => simp [kycells]
  | succ k =>
   have e : (k + 1) * 2 = (ky2 x).length + k * 2 := by show _ = 2 + k * 2; omega
   show (ky2 x ++ kycells xs).take _ = ky2 x ++ kycells (xs.take k)
   rw [e, List.take_append, List.take_of_length_le (by omega), Nat.add_sub_cancel_left, ih]
/-- A row's front. -/
theorem Leads.front {w : World} {a : Option Addr} {n c m : Nat} {l l' : List Value} (h : Leads w a n c l) (hm : m ≤ n) (hp : ∀ (i : Nat) (v : Value), l'[i]? = some v → l[i]? = some v) (h0 : m = 0 → l' = []) : Leads w a m c l' := by
 obtain ⟨h1, h2, ⟨e, e'⟩ | ⟨b, off, e, h3, h4⟩⟩ := h
 ·exact ⟨by omega, h2, .inl ⟨by omega, h0 (by omega)⟩⟩
 ·exact ⟨by omega, h2, .inr ⟨b, off, e, h3, fun i v hv => h4 i v (hp i v hv)⟩⟩
theorem take_front {α : Type} (l : List α) (k : Nat) : ∀ (i : Nat) (v : α), (l.take k)[i]? = some v → l[i]? = some v := fun i v h => by
 rw [List.getElem?_take] at h
 split at h
 ·exact h
 ·cases h
end Go.Proofs.YtipohagcppfgiaaGreat
namespace Go.Proofs.YtipohagcppfgiaaGreat
open Go.RowKit
open Go.Proofs
set_option linter.unusedVariables false
theorem CloneJ_any (a : Option Addr) (n cap : Nat) (cs : List Value) (w : World) (h : Leads w a n cap cs) (hl : cs.length = n * 5) (hn : n ≤ 10000) (h1 : ∀ u ∈ cs, u.oneCell' = true) :
  Calls Tryz.prog 23 #[.slice a n cap] w (Fresh 66 5 n cs w) := by
 have q : ∀ (w : World) (a : Option Addr) (n c n' c' : Nat), (binOp .eql 27 (.slice a n c) (.slice none n' c')).run Tryz.prog w = .ok (.bool a.isNone) w := fun w a n c n' c' => Lib.run_eql_slice_nil w _ _ a n c n' c' Tryz.underlying27
 cases a with
 | none =>
  obtain ⟨_, _, ⟨rfl, rfl⟩ | ⟨b, off, h, _⟩⟩ := h
  ·clear h1 hl
   go_enter Tryz.func23, Tryz.ntmps23
   go_wp2
   go_ret
   exact ⟨_, rfl, World.ownsRow_nil _ _ _ _, Below.refl _ _⟩
  ·cases h
 | some ad =>
  have hc : ∀ j u, cs[j]? = some u → w.cell? (ad.add j) = some u := by
   obtain ⟨_, _, ⟨_, rfl⟩ | ⟨b, off, h, _, h5⟩⟩ := h
   ·intro j u hj; cases hj
   ·cases h
    intro j u hj
    have := h5 j u hj
    rcases j with _ | j
    ·simpa [Addr.add] using this
    ·simpa [Addr.add] using this
  have HC := hid hc
  have HL := hid hl
  have H1 := hid h1
  clear hc hl h1 h
  go_enter Tryz.func23, Tryz.ntmps23
  go_wp2_with (at_builtin; refine waM elemJb rfl _ _ rfl w.heap.size _ _ _ rfl (World.ownsRow_made w #[] 0 (Nat.le_refl _) (Nat.zero_le _) (by simp)) ad n cap cs rfl ?qc1 ?qc2 ?qc3 ?qc4 ?qc5 ?_)
  case qc1 => exact HL.out
  case qc2 =>
   intro j u hj
   exact Lib.cell?_alloc_some _ (HC.out j u hj)
  case qc3 => exact H1.out
  case qc4 => omega
  case qc5 => simp
  intro v' w1 hown hgrow hmv
  have hb : Below w.heap.size w w1 := ((Below.refl _ w).alloc (Nat.le_refl _) _).trans (own_below (size := 5) (World.ownsRow_made w #[] 0 (Nat.le_refl _) (Nat.zero_le _) (by simp)) hgrow (by simp))
  go_wp2
  go_ret
  exact ⟨v', rfl, by simpa using hown, hb⟩
theorem CloneK_any (a : Option Addr) (n cap : Nat) (cs : List Value) (w : World) (h : Leads w a n cap cs) (hl : cs.length = n * 2) (hn : n ≤ 10000) (h1 : ∀ u ∈ cs, u.oneCell' = true) :
  Calls Tryz.prog 24 #[.slice a n cap] w (Fresh 68 2 n cs w) := by
 have q : ∀ (w : World) (a : Option Addr) (n c n' c' : Nat), (binOp .eql 28 (.slice a n c) (.slice none n' c')).run Tryz.prog w = .ok (.bool a.isNone) w := fun w a n c n' c' => Lib.run_eql_slice_nil w _ _ a n c n' c' Tryz.underlying28
 cases a with
 | none =>
  obtain ⟨_, _, ⟨rfl, rfl⟩ | ⟨b, off, h, _⟩⟩ := h
  ·clear h1 hl
   go_enter Tryz.func24, Tryz.ntmps24
   go_wp2
   go_ret
   exact ⟨_, rfl, World.ownsRow_nil _ _ _ _, Below.refl _ _⟩
  ·cases h
 | some ad =>
  have hc : ∀ j u, cs[j]? = some u → w.cell? (ad.add j) = some u := by
   obtain ⟨_, _, ⟨_, rfl⟩ | ⟨b, off, h, _, h5⟩⟩ := h
   ·intro j u hj; cases hj
   ·cases h
    intro j u hj
    have := h5 j u hj
    rcases j with _ | j
    ·simpa [Addr.add] using this
    ·simpa [Addr.add] using this
  have HC := hid hc
  have HL := hid hl
  have H1 := hid h1
  clear hc hl h1 h
  go_enter Tryz.func24, Tryz.ntmps24
  go_wp2_with (at_builtin; refine waM elemKy rfl _ _ rfl w.heap.size _ _ _ rfl (World.ownsRow_made w #[] 0 (Nat.le_refl _) (Nat.zero_le _) (by simp)) ad n cap cs rfl ?qc1 ?qc2 ?qc3 ?qc4 ?qc5 ?_)
  case qc1 => exact HL.out
  case qc2 =>
   intro j u hj
   exact Lib.cell?_alloc_some _ (HC.out j u hj)
  case qc3 => exact H1.out
  case qc4 => omega
  case qc5 => simp
  intro v' w1 hown hgrow hmv
  have hb : Below w.heap.size w w1 := ((Below.refl _ w).alloc (Nat.le_refl _) _).trans (own_below (size := 2) (World.ownsRow_made w #[] 0 (Nat.le_refl _) (Nat.zero_le _) (by simp)) hgrow (by simp))
  go_wp2
  go_ret
  exact ⟨v', rfl, by simpa using hown, hb⟩
end Go.Proofs.YtipohagcppfgiaaGreat
namespace Go.Proofs.YtipohagcppfgiaaGreat
open Go.RowKit
open Go.Proofs
set_option linter.unusedVariables false
def bcell (z : Bool) : Value := .bool z
theorem rep_splice (z : Bool) (n k j : Nat) (hk : k + j ≤ n) : splice (List.replicate k (bcell z) ++ List.replicate (n - k) (bcell false)) k (List.replicate j (bcell z)) = List.replicate (k + j) (bcell z) ++ List.replicate (n - (k + j)) (bcell false) := by
 unfold splice
 rw [List.take_append_of_le_length (by simp), List.take_of_length_le (by simp), List.length_replicate]
 rw [List.drop_append, List.drop_of_length_le (by simp), List.nil_append, List.length_replicate, List.drop_replicate, ← List.append_assoc, List.replicate_append_replicate]
 congr 2
 omega
set_option maxRecDepth 100000 in
set_option maxHeartbeats 1000000 in
theorem RepeatB_any (z : Bool) (n b : Nat) (w : World) (hc : w.cell? ⟨b, 0, none⟩ = some (.bool z)) (hbw : b < w.heap.size) (hn : n ≤ 100000) (hM : ∀ W, Calls Tryz.prog 62 #[.int .u64 1, .int .u64 (n : Nat)] W (fun e W' => e = .returned (.tuple #[.int .u64 0, .int .u64 (n : Nat)]) ∧ W' = W)) :
  Calls Tryz.prog 45 #[.slice (some ⟨b, 0, none⟩) 1 1, .int .i64 (n : Nat)] w (fun e w' => ∃ g, e = .returned (.slice (some ⟨g, 0, none⟩) n n) ∧ w'.ownsRow w.heap.size 4 1 (.slice (some ⟨g, 0, none⟩) n n) n (List.replicate n (bcell z)) ∧ Below w.heap.size w w') := by
 have hmk := make_bools w n hn
 rw [show Value.bool false = bcell false from rfl] at hmk
 obtain ⟨w1, hw1, hb1, hs1, hl1⟩ := laid w (List.replicate n (bcell false)).toArray 4
 rw [hw1] at hmk
 obtain ⟨M, hMs⟩ := nm (w.heap.size)
 rw [hMs] at hmk hl1 hs1
 have HM := hid hM
 have HL1 := hid hl1
 have HC := hid hc
 have hbM : b < M := by omega
 clear hM hl1 hs1 hc
 go_enter Tryz.func45, Tryz.ntmps45
 go_wp2_with fail
 refine (HM.out _).mono ?_
 rintro e w2 ⟨rfl, rfl⟩
 obtain ⟨k0, hk0⟩ := nm (min 1 n)
 have hk0n : k0 ≤ n := by omega
 have hk01 : k0 = 0 → n = 0 := by omega
 have HK01 := hid hk01
 have HK0 := hid hk0
 have hwM : w2.heap.size ≤ M := by omega
 clear hk01 hk0
 go_wp2_with ((with_reducible show wpList _ _ _ _ _ _); refine wpList_copy_splice rfl (.tmp 31) (.tmp 32) 23 23 rfl 4 Tryz.underlying23 (by kernel_rfl) _ _ n n 1 1 rfl rfl M 0 (List.replicate n (bcell false)) 4 HL1.out (List.replicate k0 (bcell z)) ?c1 ?c2 ?c3 ?c4 w2.heap.size w2 hb1 hwM ?c5)
 case c1 => rw [List.length_replicate]; exact HK0.out.symm
 case c2 =>
  intro _ j v hj
  obtain ⟨hj1, hj2⟩ := List.getElem?_eq_some_iff.1 hj
  rw [List.length_replicate] at hj1
  rw [List.getElem_replicate] at hj2
  subst hj2
  obtain rfl : j = 0 := by have := HK0.out; omega
  exact (hb1.cell (p := ⟨b, 0, none⟩) hbw).trans HC.out
 case c3 => simp; exact hk0n
 case c4 => intro v hv; rw [List.eq_of_mem_replicate hv]; rfl
 case c5 =>
  intro w3 hg3 hb3
  have hsp := rep_splice z n 0 k0 (by omega)
  rw [Nat.zero_add] at hsp
  simp only [List.replicate_zero, List.nil_append, Nat.sub_zero] at hsp
  have HG3 : Hid (w3.heap[M]? = some (.cells (List.replicate k0 (bcell z) ++ List.replicate (n - k0) (bcell false)).toArray 4 (0, 0))) := hid (by rw [← hsp]; exact hg3.out)
  clear hg3 hsp
  go_wp2
  go_loopg [8] (n - k0) (fun g t8 wr => ∃ k : Nat, g + k = n ∧ (k = 0 → n = 0) ∧ t8 = .int .i64 (k : Nat) ∧ Hid (wr.heap[M]? = some (.cells (List.replicate k (bcell z) ++ List.replicate (n - k) (bcell false)).toArray 4 (0, 0))) ∧ Below w2.heap.size w2 wr)
  case atStart => exact ⟨k0, by omega, HK01.out, rfl, HG3, hb3.mono hwM⟩
  case round =>
   obtain ⟨k, hk, hk1, rfl, hG, hb⟩ := hrel
   have HK := hid hk
   have HK1 := hid hk1
   clear hk hk1
   by_cases hlt : k < n
   ·have hkp : 0 < k := by have := HK1.out; omega
    obtain ⟨r, hr⟩ := nm (n - k)
    have hkn : k + r = n := by omega
    obtain ⟨j, hj⟩ := nm (min k r)
    have HR := hid hr
    have HJ := hid hj
    have hjr : k + j ≤ n := by omega
    have hj0 : 0 < j := by omega
    have hle1 : ((k : Nat) : Int) ≤ ((n : Nat) : Int) := by omega
    have HKN := hid hkn
    clear hr hj hkn
    go_upto_region 9 with (fail)
    refine rgm2 (fun _ => True) 10 (.q 0 (.q 1 (.q 2 (.q 3 (.q 4 (.q 5 (.q 6 (.h 7 (.q 8 (.q 9 (.done))))))))))) (by kernel_rfl) (by kernel_rfl) trivial ?_
    repeat (refine m2q rfl rfl ?_; go_big_quiet_step (fail); refine wpQuiet_nil ?_)
    refine m2h rfl fun R' hR' hO => ?_
    have hcur : (wr.drew).heap[M]? = some (.cells (List.replicate k (bcell z) ++ List.replicate (n - k) (bcell false)).toArray 4 (0, 0)) := hG.out
    refine wpList_copy_splice rfl (.tmp 41) (.tmp 44) 23 23 rfl 4 Tryz.underlying23 (by kernel_rfl) _ _ (n - k) (n - k) k n rfl rfl M k (List.replicate k (bcell z) ++ List.replicate (n - k) (bcell false)) 4 hcur (List.replicate j (bcell z)) ?d1 ?d2 ?d3 ?d4 w2.heap.size w2 hb.drew hwM ?d5
    case d1 => rw [List.length_replicate, HR.out]; exact HJ.out.symm
    case d2 =>
     intro _
     refine ⟨rfl, _, rfl, fun i v hi => ?_⟩
     obtain ⟨hi1, hi2⟩ := List.getElem?_eq_some_iff.1 hi
     rw [List.length_replicate] at hi1
     rw [List.getElem_replicate] at hi2
     subst hi2
     have hij : i < k := by have := HJ.out; omega
     have h2 : ((List.replicate k (bcell z) ++ List.replicate (n - k) (bcell false)).toArray)[i]? = some (bcell z) := by simp [List.getElem?_append, hij]
     have h3 := (cell_of_row wr.drew M i _ _ (0, 0) hcur).trans h2
     rcases i with _ | i
     ·simpa [Addr.add] using h3
     ·simpa [Addr.add] using h3
    case d3 => simp; omega
    case d4 => intro v hv; rw [List.eq_of_mem_replicate hv]; rfl
    case d5 =>
     intro w4 hg4 hb4
     have HG4 : Hid (w4.heap[M]? = some (.cells (List.replicate (k + j) (bcell z) ++ List.replicate (n - (k + j)) (bcell false)).toArray 4 (0, 0))) := hid (by rw [← rep_splice z n k j hjr]; exact hg4.out)
     have hb4' := hb4
     clear hg4
     rw [List.length_replicate]
     go_wp2
     refine hR' _ _ trivial ?_
     repeat (refine m2q rfl rfl ?_; go_big_quiet_step (fail); refine wpQuiet_nil ?_)
     refine m2d ?_
     simp only [List.drop_succ_cons, List.drop_nil]
     go_wp2
     go_roundg (gk - j)
     case measure => have := HK.out; omega
     case rel => exact ⟨k + j, by have := HK.out; omega, fun h => by omega, by go_num, HG4, hb4'⟩
   ·obtain rfl : k = n := by have := HK.out; omega
    have HG5 : Hid (wr.ownsRow w2.heap.size 4 1 (.slice (some ⟨M, 0, none⟩) k k) k (List.replicate k (bcell z))) := hid (by
     refine ⟨by simp, .inr ⟨M, k, _, rfl, hwM, hG.out, Nat.le_refl _, by unfold maxLen; omega, by simp, ?_⟩⟩
     simp)
    clear HK HK1 hG
    go_wp2
    go_ret
    exact ⟨_, rfl, HG5.out, hb⟩
theorem Mul64_16 (V : World) : Calls Tryz.prog 76 #[.int .u64 1, .int .u64 16] V (fun e W => e = .returned (.tuple #[.int .u64 0, .int .u64 16]) ∧ W = V) := by
 go_enter Tryz.func76, Tryz.ntmps76
 go_wp2
 go_ret2
 exact ⟨rfl, rfl⟩
theorem Mul_16 (V : World) : Calls Tryz.prog 62 #[.int .u64 1, .int .u64 ((16 : Nat) : Int)] V (fun e W => e = .returned (.tuple #[.int .u64 0, .int .u64 ((16 : Nat) : Int)]) ∧ W = V) := by
 have H := hid (Mul64_16 V)
 go_enter Tryz.func62, Tryz.ntmps62
 go_wp2_with fail
 refine H.out.mono ?_
 rintro e W ⟨rfl, rfl⟩
 go_wp2
 go_ret2
 exact ⟨rfl, rfl⟩
end Go.Proofs.YtipohagcppfgiaaGreat
