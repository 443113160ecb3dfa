/- Several texts in one. -/
import Derived.Test.YtahicokokfcieaaGreatDoorTgAa
import Derived.Test.YtahicokokfcieaaGreatDoorTgAe
import Derived.RangeFuncNested
import Derived.RangeFuncCalls
import Derived.TacticsInMore
import Derived.LoopNIn
import Derived.LoopIn
import Derived.OneCell
import Derived.Test.YtahicokokfcieaaGreatDoorTb3
import Derived.Test.YtahicokokfcieaaGreatDoorTgAf
import Derived.RecoverIn
namespace Go.Proofs.YtahicokokfcieaaGreatDoor
open Go.RowKit
set_option linter.unusedVariables false
section
variable {P : Program} {ops : Array Oper} {Q : Exit → Act → World → Prop}
def noDefer (ops : Array Oper) : Bool := ops.toList.all fun o => match o.op with | .defer _ => false | _ => true
theorem noDefer_spec (h : noDefer ops = true) {i : Nat} {o : Oper} (ho : ops[i]? = some o) (c : Call) : o.op ≠ .defer c := by
  intro e
  have := List.all_eq_true.1 h o (List.mem_of_getElem? (by simpa using ho))
  rw [e] at this
  cases this
theorem rowsIn_round {l n : Nat} {row : String} {args : Array Value} {w : World} {R : Value → World → Prop} (h : Rows P row args w R) : RowsIn (Fence.wide.inRound l) n P row args w R :=
  fun c cs _ => let ⟨v, w', r, s⟩ := h c cs; ⟨v, w', r, stepsIn_wide.2 s⟩
theorem wpOpsIn_round {l n : Nat} (hq : ¬ LetsOut Q) (hnd : noDefer ops = true) : ∀ (is : List Nat) (a : Act) (w : World), wpOps P ops Q is a w → wpOpsIn (Fence.wide.inRound l) n P ops Q is a w
  | [], a, w, h => h
  | i :: rest, a, w, h => by
    unfold wpOps at h
    unfold wpOpsIn
    cases ho : ops[i]? with
    | none =>
      rw [ho] at h
      exact wpOpsIn_round hq hnd rest a w h
    | some o =>
      rw [ho] at h
      dsimp only at h ⊢
      split at h
      · rename_i hw
        rw [if_pos hw]
        rcases h with h | ⟨_, h⟩
        · refine ⟨fun f _ => trivial, ?_⟩
          rw [Fence.inRound_round, Oper.semAt_some _ _ _ (noDefer_spec hnd ho)]
          unfold Oper.wp at h
          generalize (execOp a.eval o).run P w = r at h ⊢
          cases r with
          | halt x w' => cases x <;> first | exact h | exact h.elim
          | ok x w' =>
            cases x with
            | value v => exact wpOpsIn_round hq hnd rest _ _ h
            | skip => exact wpOpsIn_round hq hnd rest _ _ h
            | defer d => exact wpOpsIn_round hq hnd rest _ _ h
            | enter f args =>
              refine ⟨fun hd => (by cases hd), (callsIn_wide.2 (Calls.mono h fun e w'' he => ?_) : CallsIn Fence.wide (n - 1) P f args w' _)⟩
              cases e with
              | returned v => exact wpOpsIn_round hq hnd rest _ _ he
              | panicked c => exact he
              | outgrown => exact he
            | row row args => exact ⟨fun hd => (by cases hd), rowsIn_round (Rows.mono h fun v w'' hv => wpOpsIn_round hq hnd rest _ _ hv)⟩
            | round l f t c d => exact h.elim
            | _ => exact h.elim
        · exact (hq h).elim
      · rename_i hw
        rw [if_neg hw]
        exact ⟨fun f _ => trivial, wpOpsIn_round hq hnd rest _ _ h⟩
/-- As wp_region_mix2, in the body of a round. -/
theorem wpIn_region_mix2 {l nF id : Nat} {a : Act} {w : World} {os : List Oper} (C : World → Prop) (n : Nat) (plan : MPlan) (hq : ¬ LetsOut Q) (hm : P.follows .mixedOrders = true) (hnd : noDefer os.toArray = true) (hB : mixB2 .any os.toArray n plan = true) (hC : C w.drew)
    (h : wpMix2 P os.toArray C Q (fun a' w' => wpList P os.toArray Q (os.drop n) a' w') plan a w.drew) : (Code.region id os.toArray true).wpIn (Fence.wide.inRound l) nF P Q a w := by
  simp only [mixB2, Bool.and_eq_true, Bool.or_eq_true, decide_eq_true_eq] at hB
  obtain ⟨⟨⟨hsel, hn⟩, hsc⟩, hplan⟩ := hB
  have htw : ∀ listed i, i < n → HeadInv .any os.toArray n listed → listed.getD i true = false → ∀ t, n ≤ t → t ∉ Region.ready .any os.toArray listed := by
    intro listed i hi inv hu t ht hr
    rcases hsc with hsc | ⟨hs, hc⟩
    · obtain ⟨_, ot, hot, _⟩ := mem_ready.1 hr
      have := (Array.getElem?_eq_some_iff.1 hot).1
      omega
    · obtain ⟨_, ot, hot, _⟩ := mem_ready.1 hr
      have hlt := (Array.getElem?_eq_some_iff.1 hot).1
      exact tail_waits hs hc (by omega) inv (n - i) i rfl hi hu t ht hr
  have inv0 : HeadInv .any os.toArray n (Array.replicate os.toArray.size false) :=
    ⟨by simp, fun j oj _ hl => (by rw [getD_replicate_false] at hl; cases hl), fun t _ ht => getD_in (by simpa using ht) (getD_replicate_false _ _)⟩
  have H := wpAnyM_plan2 (md := .any) hsel htw n plan _ a w.drew hC inv0 hplan h
  refine wpIn_region_draw fun t => ?_
  refine wpOpsIn_round hq hnd _ _ _ ?_
  simp only [Region.schedule, hm, Bool.true_or, if_true]
  refine wpAny_sound os.toArray.size t _ a _ ?_
  have := wpAny_of_headM (Q := Q) (g := os.toArray.size - n) (fun listed a' w' _ hL => by
    have := wpAny_of_seq (md := .any) (Q' := Q) (os.drop n) n listed a' w' (fun j => by simp [List.getElem?_drop]) (by simpa using hL.1) hL.2
    simpa using this) _ _ _ _ hC H
  rw [show n + (os.toArray.size - n) = os.toArray.size by omega] at this
  exact this
end
end Go.Proofs.YtahicokokfcieaaGreatDoor
namespace Go.Proofs.YtahicokokfcieaaGreatDoor
open Go.RowKit
set_option linter.unusedVariables false
section
variable {P : Program} {ops : Array Oper} {md : Region.Mode} {C : World → Prop} {Q : Exit → Act → World → Prop}
theorem rowsIn_wide {n : Nat} {row : String} {args : Array Value} {w : World} {R : Value → World → Prop} (h : Rows P row args w R) : RowsIn Fence.wide n P row args w R :=
  fun c cs _ => let ⟨v, w', r, s⟩ := h c cs; ⟨v, w', r, stepsIn_wide.2 s⟩
theorem wpOpIn_of {nF i : Nat} {K : Act → World → Prop} {a : Act} {w : World} (hq : ¬ LetsOut Q) (h : wpOp P ops (outQ (fun _ _ => False) Q) i K a w) : wpOpIn Fence.wide nF P ops Q i K a w := by
  unfold wpOp at h
  unfold wpOpIn
  cases ho : ops[i]? with
  | none => rw [ho] at h; exact h
  | some o =>
    rw [ho] at h
    dsimp only at h ⊢
    split at h
    · rename_i hw
      rw [if_pos hw]
      rcases h with h | ⟨_, h⟩
      · refine ⟨fun f _ => trivial, ?_⟩
        rw [show (Fence.wide).round = none from rfl, Oper.semAt_none]
        unfold Oper.wp at h
        generalize (execOp a.eval o).run P w = r at h ⊢
        cases r with
        | halt x w' => cases x <;> first | exact h | exact h.elim
        | ok x w' =>
          cases x with
          | value v => exact h
          | skip => exact h
          | defer d => exact h
          | enter f args =>
            refine ⟨fun hd => (by cases hd), (callsIn_wide.2 (Calls.mono h fun e w'' he => ?_) : CallsIn Fence.wide (nF - 1) P f args w' _)⟩
            cases e with
            | returned v => exact he
            | panicked c => exact he.elim
            | outgrown => exact (hq (let ⟨a, w, h⟩ := he; ⟨a, w, h⟩)).elim
          | row row args => exact ⟨fun hd => (by cases hd), rowsIn_wide h⟩
          | round l f t c d => exact h.elim
          | _ => exact h.elim
      · exact (hq (let ⟨a, w, h⟩ := h; ⟨a, w, h⟩)).elim
    · rename_i hw
      rw [if_neg hw]
      exact ⟨fun f _ => trivial, h⟩
theorem wpAnyIn_of_headM {nF n g : Nat} (hq : ¬ LetsOut Q) {L : Array Bool → Act → World → Prop} (hL : ∀ listed a w, C w → L listed a w → wpAnyIn Fence.wide nF P md ops Q g listed a w) :
    ∀ (f : Nat) (listed : Array Bool) (a : Act) (w : World), C w → wpAnyM P md ops C Q n L f listed a w → wpAnyIn Fence.wide nF P md ops Q (f + g) listed a w
  | 0, listed, a, w, hC, h => by rw [Nat.zero_add]; exact hL _ _ _ hC h
  | f + 1, listed, a, w, hC, h => by
    rw [show f + 1 + g = (f + g) + 1 by omega]
    exact ⟨fun h0 => absurd h0 h.1, fun i hi => wpOpIn_of hq (wpOp_mono (fun a' w' h' => wpAnyIn_of_headM hq hL f _ a' w' h'.1 h'.2) (h.2 i hi).2)⟩
theorem wpAnyIn_of_seq {nF : Nat} : ∀ (l : List Oper) (k : Nat) (listed : Array Bool) (a : Act) (w : World), (∀ j, l[j]? = ops[k + j]?) →
    Region.seqB md ops l.length k listed = true → wpListIn Fence.wide nF P ops Q l a w → wpAnyIn Fence.wide nF P md ops Q l.length listed a w
  | [], _, _, _, _, _, hB, h => ⟨by simpa [Region.seqB] using hB, h⟩
  | o :: l, k, listed, a, w, hl, hB, h => by
    have h0 : ops[k]? = some o := by simpa using (hl 0).symm
    simp only [List.length_cons, Region.seqB, Bool.and_eq_true, decide_eq_true_eq] at hB
    refine ⟨fun h1 => (by rw [hB.1] at h1; cases h1), fun i hi => ?_⟩
    rw [hB.1] at hi
    obtain rfl : i = k := by simpa using hi
    have hrest : ∀ a' w', wpListIn Fence.wide nF P ops Q l a' w' → wpAnyIn Fence.wide nF P md ops Q l.length (listed.setIfInBounds i true) a' w' := fun a' w' h' =>
      wpAnyIn_of_seq l (i + 1) _ a' w' (fun j => by rw [show i + 1 + j = i + (j + 1) by omega, ← hl (j + 1)]; rfl) hB.2 h'
    unfold wpOpIn
    rw [h0]
    dsimp only
    unfold wpListIn at h
    split at h
    · rename_i hw
      rw [if_pos hw]
      exact Oper.wpIn_mono hrest h
    · rename_i hw
      rw [if_neg hw]
      exact ⟨h.1, hrest _ _ h.2⟩
/-- As wp_region_mix2, inside a fence that bars nothing. -/
theorem wpIn_region_mixT {nF id : Nat} {a : Act} {w : World} {os : List Oper} (C : World → Prop) (n : Nat) (plan : MPlan) (hq : ¬ LetsOut Q) (hm : P.follows .mixedOrders = true) (hB : mixB2 .any os.toArray n plan = true) (hC : C w.drew)
    (h : wpMix2 P os.toArray C Q (fun a' w' => wpListIn Fence.wide nF P os.toArray Q (os.drop n) a' w') plan a w.drew) : (Code.region id os.toArray true).wpIn Fence.wide nF P Q a w := by
  simp only [mixB2, Bool.and_eq_true, Bool.or_eq_true, decide_eq_true_eq] at hB
  obtain ⟨⟨⟨hsel, hn⟩, hsc⟩, hplan⟩ := hB
  have htw : ∀ listed i, i < n → HeadInv .any os.toArray n listed → listed.getD i true = false → ∀ t, n ≤ t → t ∉ Region.ready .any os.toArray listed := by
    intro listed i hi inv hu t ht hr
    rcases hsc with hsc | ⟨hs, hc⟩
    · obtain ⟨_, ot, hot, _⟩ := mem_ready.1 hr
      have := (Array.getElem?_eq_some_iff.1 hot).1
      omega
    · obtain ⟨_, ot, hot, _⟩ := mem_ready.1 hr
      have hlt := (Array.getElem?_eq_some_iff.1 hot).1
      exact tail_waits hs hc (by omega) inv (n - i) i rfl hi hu t ht hr
  have inv0 : HeadInv .any os.toArray n (Array.replicate os.toArray.size false) :=
    ⟨by simp, fun j oj _ hl => (by rw [getD_replicate_false] at hl; cases hl), fun t _ ht => getD_in (by simpa using ht) (getD_replicate_false _ _)⟩
  have H := wpAnyM_plan2 (md := .any) hsel htw n plan _ a w.drew hC inv0 hplan h
  refine wpIn_region_any hm ?_
  have := wpAnyIn_of_headM (Q := Q) (g := os.toArray.size - n) hq (fun listed a' w' _ hL => by
    have := wpAnyIn_of_seq (md := .any) (nF := nF) (os.drop n) n listed a' w' (fun j => by simp [List.getElem?_drop]) (by simpa using hL.1) hL.2
    simpa using this) _ _ _ _ hC H
  rw [show n + (os.toArray.size - n) = os.toArray.size by omega] at this
  exact this
end
end Go.Proofs.YtahicokokfcieaaGreatDoor
namespace Go.Proofs.YtahicokokfcieaaGreatDoor
open Go.RowKit
open Go.Proofs
set_option linter.unusedVariables false
attribute [local go_sem] Oper.semAt_some
/-- A node: where it is, its key, its value, its hash. -/
abbrev Nd := Nat × Nat × Nat × Nat
def nd4 (t : Nd) : List Value := [.int .u64 ((t.1 : Nat) : Int), .int .u64 ((t.2.1 : Nat) : Int), .int .u64 ((t.2.2.1 : Nat) : Int), .int .u64 ((t.2.2.2 : Nat) : Int)]
def ndV (t : Nd) : Value := .agg #[.int .u64 ((t.1 : Nat) : Int), .int .u64 ((t.2.1 : Nat) : Int), .int .u64 ((t.2.2.1 : Nat) : Int), .int .u64 ((t.2.2.2 : Nat) : Int)]
def Nd.Ok (t : Nd) : Prop := t.1 < 18446744073709551616 ∧ t.2.1 < 18446744073709551616 ∧ t.2.2.1 < 18446744073709551616 ∧ t.2.2.2 < 18446744073709551616
def wAt (M : Mem) (p k : Nat) : Nat := M.W.getD (posL p k) 0
theorem wAt_eq {M : Mem} {p k x : Nat} (h : M.W[posL p k]? = some x) : wAt M p k = x := by unfold wAt; rw [List.getD_eq_getElem?_getD, h]; rfl
theorem w_ex {M : Mem} {n p k : Nat} (hn : M.W.length = n) (hm : M.L.length = n) (h : liveN M (posL p k) = true) : M.W[posL p k]? = some (wAt M p k) := by
  have := live_lt h
  rw [hm, ← hn] at this
  rw [wAt_eq (List.getElem?_eq_getElem this)]
  exact List.getElem?_eq_getElem this
theorem wAt_lt {M : Mem} (hW : ∀ x ∈ M.W, x < 18446744073709551616) (p k : Nat) : wAt M p k < 18446744073709551616 := by
  unfold wAt
  rw [List.getD_eq_getElem?_getD]
  cases h : M.W[posL p k]? with
  | none => simp
  | some x => exact hW x (List.mem_of_getElem? h)
def ndAt (M : Mem) (p : Nat) : Nd := (p, wAt M p 0, wAt M p 1, wAt M p 3)
def goW (M : Mem) : Nat → Nat → List Nat → List Nd → Option (List Nd)
  | 0, _, _, _ => none
  | f + 1, place, met, out => if place = 0 then some out else
    match takeP M place (List.range 4) met with
    | none => none
    | some met' => goW M f (wAt M place 2) met' (out ++ [ndAt M place])
/-- The nodes that the words lead to, whatever their order. -/
def nodesW (M : Mem) (head : Nat) : Option (List Nd) :=
  match takeP M head [0] [] with
  | none => none
  | some m0 => goW M 4101 (wAt M head 0) m0 []
theorem nodesW_none {M : Mem} {head : Nat} (h : takeP M head [0] [] = none) : nodesW M head = none := by unfold nodesW; rw [h]
theorem nodesW_some {M : Mem} {head : Nat} {m0 : List Nat} (h : takeP M head [0] [] = some m0) : nodesW M head = goW M 4101 (wAt M head 0) m0 [] := by unfold nodesW; rw [h]
theorem goW_zero {M : Mem} {f : Nat} {met : List Nat} {out : List Nd} : goW M (f + 1) 0 met out = some out := by unfold goW; rw [if_pos rfl]
theorem goW_none {M : Mem} {f place : Nat} {met : List Nat} {out : List Nd} (hp : place ≠ 0) (h : takeP M place (List.range 4) met = none) : goW M (f + 1) place met out = none := by unfold goW; rw [if_neg hp, h]
theorem goW_some {M : Mem} {f place : Nat} {met met' : List Nat} {out : List Nd} (hp : place ≠ 0) (h : takeP M place (List.range 4) met = some met') : goW M (f + 1) place met out = goW M f (wAt M place 2) met' (out ++ [ndAt M place]) := by
  conv => lhs; unfold goW
  rw [if_neg hp, h]
theorem goW_prefix {M : Mem} : ∀ (f place : Nat) (met : List Nat) (out xs : List Nd), goW M f place met out = some xs → out <+: xs
  | 0, place, met, out, xs, h => by unfold goW at h; cases h
  | f + 1, place, met, out, xs, h => by
    by_cases h0 : place = 0
    · subst h0; rw [goW_zero] at h; cases h; exact List.prefix_rfl
    · cases ht : takeP M place (List.range 4) met with
      | none => rw [goW_none h0 ht] at h; cases h
      | some m2 =>
        rw [goW_some h0 ht] at h
        exact (List.prefix_append out [ndAt M place]).trans (goW_prefix f _ _ _ _ h)
theorem Turn.grown2 {Bs mb s0 : Nat} {A B : World} (h : A.grownBy B (some mb)) (hs : s0 ≤ mb) (hm : ∃ o, A.heap[mb]? = some o ∧ o.isCells = false) : Turn Bs s0 A B := ⟨some mb, h, fun r e => by cases e; exact .inr ⟨hs, hm⟩⟩
theorem ids_map {V : World} {mb : Nat} {l : List (Nat × Nat)} (h : IdsJ V mb l) : ∃ o, V.heap[mb]? = some o ∧ o.isCells = false := by
  obtain ⟨es, clock, hb, -⟩ := h
  exact ⟨_, hb, rfl⟩
/-- The iterator's variables, and its memory. -/
structure Itr (X H : Nat) (wa : Option Addr) (wc : Nat) (la : Option Addr) (lc n head : Nat) (M : Mem) (V : World) : Prop where
  x : V.heap[X]? = some (.cells #[.slice wa n wc, .slice la n lc, .bool M.F] 25 (0, 0))
  h : V.heap[H]? = some (.cells #[.int .u64 ((head : Nat) : Int)] 26 (0, 0))
  mem : MemL V wa wc la lc M
theorem Itr.grow {X H : Nat} {wa : Option Addr} {wc : Nat} {la : Option Addr} {lc n head : Nat} {M : Mem} {V V' : World} (h : Itr X H wa wc la lc n head M V) (hb : Below V.heap.size V V') : Itr X H wa wc la lc n head M V' := ⟨keep_laid h.x hb, keep_laid h.h hb, h.mem.grow hb⟩
theorem ids_ne {V : World} {mb X : Nat} {l : List (Nat × Nat)} {cs : Array Value} {e : TypeId} (h : IdsJ V mb l) (hx : V.heap[X]? = some (.cells cs e (0, 0))) : some mb ≠ some X := by
  intro e'
  cases e'
  obtain ⟨es, clock, hb, -⟩ := h
  rw [hb] at hx
  cases hx
theorem Itr.put {X H : Nat} {wa : Option Addr} {wc : Nat} {la : Option Addr} {lc n head mb : Nat} {l : List (Nat × Nat)} {M : Mem} {V V' : World} (h : Itr X H wa wc la lc n head M V) (hi : IdsJ V mb l) (hg : V.grownBy V' (some mb)) : Itr X H wa wc la lc n head M V' :=
  ⟨keep_grown h.x hg (ids_ne hi h.x), keep_grown h.h hg (ids_ne hi h.h), ⟨h.mem.w.grownM hi hg, h.mem.l.grownM hi hg⟩⟩
theorem Itr.keeps {X H : Nat} {wa : Option Addr} {wc : Nat} {la : Option Addr} {lc n head : Nat} {M : Mem} {V V' : World} {kept : Nat → Prop} (h : Itr X H wa wc la lc n head M V) (hk : Keeps kept V V') (h1 : kept X) (h2 : kept H) (h3 : ∀ b off, wa = some ⟨b, off, none⟩ → kept b) (h4 : ∀ b off, la = some ⟨b, off, none⟩ → kept b) : Itr X H wa wc la lc n head M V' := by
  have hlead : ∀ {a : Option Addr} {n cap : Nat} {cs : List Value}, Leads V a n cap cs → (∀ b off, a = some ⟨b, off, none⟩ → kept b) → Leads V' a n cap cs := by
    rintro a n cap cs ⟨q1, q2, ⟨q3, q4⟩ | ⟨b, off, q3, q4, q5⟩⟩ hka
    · exact ⟨q1, q2, .inl ⟨q3, q4⟩⟩
    · have hb := hk b (hka b off q3)
      refine ⟨q1, q2, .inr ⟨b, off, q3, ?_, fun i v hv => ?_⟩⟩
      · have : V'.heap[b]? = some V.heap[b] := by rw [hb]; exact Array.getElem?_eq_getElem q4
        exact lt_laid this
      · have := q5 i v hv
        unfold World.cell? at this ⊢
        rw [hb]
        exact this
  exact ⟨(hk _ h1).trans h.x, (hk _ h2).trans h.h, ⟨hlead h.mem.w h3, hlead h.mem.l h4⟩⟩
end Go.Proofs.YtahicokokfcieaaGreatDoor
namespace Go.Proofs.YtahicokokfcieaaGreatDoor
open Go.RowKit
open Go.Proofs
set_option linter.unusedVariables false
attribute [local go_sem] Oper.semAt_some
/-- Worlds in which the iterator's variables lie so. -/
structure RIt (X H : Nat) (wa : Option Addr) (wc : Nat) (la : Option Addr) (lc n head : Nat) (M : Mem) where
  v : World
  i : Itr X H wa wc la lc n head M v
theorem Itr.word {X H wb wo wc lc n head : Nat} {la : Option Addr} {M : Mem} {V : World} (h : Itr X H (some ⟨wb, wo, none⟩) wc la lc n head M V) {q x : Nat} (hx : M.W[q]? = some x) : V.cell? ⟨wb, wo + q, none⟩ = some (.int .u64 ((x : Nat) : Int)) := by
  have hlt := (List.getElem?_eq_some_iff.1 hx).1
  obtain ⟨b, off, e, -, hc⟩ := h.mem.w.at hlt (wcell_at hx)
  simp only [Option.some.injEq, Addr.mk.injEq, and_true] at e
  obtain ⟨rfl, rfl⟩ := e
  exact hc _ (Below.refl _ _)
theorem ids_keep {V V' : World} {mb s0 : Nat} {l : List (Nat × Nat)} {kept : Nat → Prop} (h : IdsJ V mb l) (hk : KeepsM kept s0 V V') (hs : s0 ≤ mb) : IdsJ V' mb l := by
  obtain ⟨es, clock, hb, F, hq, hD⟩ := h
  exact ⟨es, clock, hk.2 _ _ hs hb rfl, F, hq, hD⟩
theorem posL_add (p k : Nat) : posL p k = posL p 0 + k := by unfold posL; omega
set_option maxRecDepth 100000 in
set_option maxHeartbeats 8000000 in
theorem nodes_seq (X H Bs s0 head n : Nat) (wa : Option Addr) (wc : Nat) (la : Option Addr) (lc : Nat) (M : Mem) (kept : Nat → Prop) (hn : M.W.length = n) (hm : M.L.length = n) (hn1 : 1 ≤ n) (hn4 : n ≤ 4096) (hh : head < 18446744073709551616) (hW : ∀ x ∈ M.W, x < 18446744073709551616)
    (k1 : kept X) (k2 : kept H) (k4 : ∀ b off, wa = some ⟨b, off, none⟩ → kept b) (k5 : ∀ b off, la = some ⟨b, off, none⟩ → kept b) :
    SeqQ (Turn Bs s0) Fence.wide 4 Tryz.prog 131 #[.pointer (some ⟨X, 0, none⟩), .pointer (some ⟨H, 0, none⟩)] (fun t : Nd => #[ndV t]) (KeepsM kept s0)
      (fun xs => nodesW M head = some xs) (fun pre => ∀ xs, nodesW M head = some xs → pre <+: xs) (fun pre c => nodesW M head = none ∧ c = brk) 5000
      (fun W => Itr X H wa wc la lc n head M W ∧ s0 ≤ W.heap.size) := by
  intro l J Jx W hR hJ hJx hY h0
  obtain ⟨hI, hs0⟩ := hR
  have HN := hid hn
  have HM := hid hm
  have HJ0 := hid h0
  have HJ := hid hJ
  have HY := hid hY
  have HK := hid (show ∀ (A B : World), Itr X H wa wc la lc n head M A → KeepsM kept s0 A B → Itr X H wa wc la lc n head M B from fun A B h hk => h.keeps hk.1 k1 k2 k4 k5)
  have HW := hid hW
  obtain ⟨RES, hRES⟩ : ∃ R, nodesW M head = R := ⟨_, rfl⟩
  rw [hRES]
  have HRES := hid hRES
  obtain ⟨wb, wo, rfl⟩ : ∃ wb wo, wa = some ⟨wb, wo, none⟩ := by
    obtain ⟨_, _, ⟨q, _⟩ | ⟨b', o', q, _⟩⟩ := hI.mem.w
    · omega
    · exact ⟨b', o', q⟩
  obtain ⟨V1, hV1⟩ : ∃ V1, W.alloc (.map #[] 0) = V1 := ⟨_, rfl⟩
  have hb1 : Below W.heap.size W V1 := by rw [← hV1]; exact (Below.refl _ _).alloc (Nat.le_refl _) _
  have hi1 : IdsJ V1 W.heap.size (ones []) := by rw [← hV1]; exact IdsJ.made W
  obtain ⟨mb, hmb⟩ : ∃ X, W.heap.size = X := ⟨_, rfl⟩
  rw [hmb] at hi1
  have hsm : s0 ≤ mb := by omega
  have HI1 := hid (hI.grow hb1)
  have HD1 := hid hi1
  have HJ1 := hid (hJ _ _ _ h0 (Turn.grow (Bs := Bs) (s0 := s0) hb1))
  have hwl := hI.mem.w.len
  have hll := hI.mem.l.len
  rw [hn] at hwl
  rw [hm] at hll
  have hmm := @run_makeMap Tryz.prog
  have HCL : Hid (∀ V, Itr X H (some ⟨wb, wo, none⟩) wc la lc n head M V → ∃ z : RIt X H (some ⟨wb, wo, none⟩) wc la lc n head M, V = z.v) := hid (fun V h => ⟨⟨V, h⟩, rfl⟩)
  haveI : Nonempty (RIt X H (some ⟨wb, wo, none⟩) wc la lc n head M) := ⟨⟨W, hI⟩⟩
  have r0 : ∀ z : RIt X H (some ⟨wb, wo, none⟩) wc la lc n head M, z.v.cell? ⟨X, 0, none⟩ = some (.slice (some ⟨wb, wo, none⟩) n wc) := fun z => cell_laid z.i.x rfl
  have r1 : ∀ z : RIt X H (some ⟨wb, wo, none⟩) wc la lc n head M, z.v.cell? ⟨X, 1, none⟩ = some (.slice la n lc) := fun z => cell_laid z.i.x rfl
  have r2 : ∀ z : RIt X H (some ⟨wb, wo, none⟩) wc la lc n head M, z.v.cell? ⟨X, 2, none⟩ = some (.bool M.F) := fun z => cell_laid z.i.x rfl
  have r3 : ∀ z : RIt X H (some ⟨wb, wo, none⟩) wc la lc n head M, z.v.cell? ⟨H, 0, none⟩ = some (.int .u64 ((head : Nat) : Int)) := fun z => cell_laid z.i.h rfl
  have HMT : Hid (∀ (ws met : List Nat) (b : Option Addr) (m c : Nat) (V : World), Itr X H (some ⟨wb, wo, none⟩) wc la lc n head M V → IdsJ V mb (ones met) → Leads V b m c (mcells ws) → ws.length = m → (∀ w ∈ ws, w ≤ 1000000) → met.length + m ≤ 10000 → Calls Tryz.prog 132 #[.map (some mb), .agg #[.slice (some ⟨wb, wo, none⟩) n wc, .slice la n lc, .bool M.F], .slice b m c] V (fun e V' => V.grownBy V' (some mb) ∧
      ((∃ met', meetP M ws met = some met' ∧ e = .returned (.tuple #[]) ∧ IdsJ V' mb (ones met')) ∨ (meetP M ws met = none ∧ e = .panicked brk)))) := hid (fun ws met b m c V h1 h2 h3 h4 h5 h6 => by
    have := meet_any M (some ⟨wb, wo, none⟩) la wc lc mb ws b m c met V h1.mem (by rw [HM.out, HN.out]) h2 h3 h4 h5 h6
    unfold memV at this
    rw [HN.out, HM.out] at this
    exact this)
  clear hI hb1 hi1 h0 hJ hY hn hm hRES k1 k2 k4 k5 hW
  refine callsIn_of_wp Tryz.func131 rfl trivial ?_ rfl
  simp only [Tryz.ntmps131, List.size_toArray, List.length_cons, List.length_nil, Nat.reduceAdd, Nat.reduceSub, Array.replicate_succ, Array.replicate_zero, List.push_toArray, List.append_toArray, List.nil_append, List.cons_append]
  gi_wp2
  obtain ⟨D, hD⟩ : ∃ DX, V1.drew = DX := ⟨_, rfl⟩
  have hbD : Below V1.heap.size V1 D := by rw [← hD]; exact (Below.refl _ _).drew
  have HD := hid hD
  have HI2 := hid (HI1.out.grow hbD)
  have HD2 := hid (HD1.out.grow hbD)
  have HJ2 := hid (HJ.out _ _ _ HJ1.out (Turn.grow (Bs := Bs) (s0 := s0) hbD))
  clear hD hbD
  refine wpIn_region_mixT (fun V => ∃ z : RIt X H (some ⟨wb, wo, none⟩) wc la lc n head M, V = z.v) 5 (.q 0 (.q 1 (.q 2 (.h 3 (.h 4 .done))))) (fun ⟨a, w, h⟩ => by rcases h with ⟨⟨v, e⟩, -⟩ | ⟨c, pre, e, -⟩ <;> cases e) (by kernel_rfl) (by kernel_rfl) (by rw [HD.out]; exact HCL.out _ HI2.out) ?_
  rw [HD.out]
  repeat (refine wpMix2_q rfl rfl ?_; go_big_quiet_step (fail); refine wpQuiet_nil ?_)
  obtain ⟨q0, hq0⟩ : ∃ q, posL head 0 = q := ⟨_, rfl⟩
  have HQ0 := hid hq0
  have hq06 : q0 ≤ 1000000 := by rw [← hq0]; unfold posL; omega
  have HAT := hid (fun V => at_any head 0 V hh (by decide))
  rw [hq0] at HAT
  clear hq0
  refine wpMix2_h rfl fun R' hR' hO => ?_
  go_wp2_with fail
  refine (HAT.out D).mono ?_
  rintro e w2 ⟨rfl, hw2⟩
  subst hw2
  go_wp2
  refine hR' _ _ (HCL.out _ HI2.out) ?_
  clear hR' hO R'
  refine wpMix2_h rfl fun R' hR' hO => ?_
  obtain ⟨w3, hw3, hb3, hs3, hl3⟩ := laid w2 #[.int .i64 ((q0 : Nat) : Int)] 3
  obtain ⟨B3, hB3⟩ : ∃ X, w2.heap.size = X := ⟨_, rfl⟩
  rw [hB3] at hl3
  have HI3 := hid (HI2.out.grow hb3)
  have HD3 := hid (HD2.out.grow hb3)
  have HJ3 := hid (HJ.out _ _ _ HJ2.out (Turn.grow (Bs := Bs) (s0 := s0) hb3))
  have HL3 : Hid (Leads w3 (some ⟨B3, 0, none⟩) 1 1 (mcells [q0])) := hid ⟨Nat.le_refl _, by decide, .inr ⟨B3, 0, rfl, lt_laid hl3, fun i v hv => by
    match i, hv with
    | 0, hv => simp [mcells] at hv; subst hv; exact cell_laid hl3 rfl⟩⟩
  clear hb3 hs3 hl3
  go_wp2
  refine hR' _ _ (HCL.out _ HI3.out) ?_
  clear hR' hO R'
  refine wpMix2_done ?_
  simp only [List.drop_succ_cons, List.drop_zero]
  gi_wp2_with fail
  refine ⟨trivial, ?_⟩
  refine (callsIn_wide.2 (HMT.out [q0] [] (some ⟨B3, 0, none⟩) 1 1 w3 HI3.out HD3.out HL3.out rfl (fun w hw => by rw [List.mem_singleton] at hw; omega) (by decide))).mono ?_
  rintro e w4 ⟨hg4, ⟨m0, hm0, rfl, hi4⟩ | ⟨hno, rfl⟩⟩
  case' inr =>
    have HE : Hid (RES = none) := hid (by rw [← HRES.out]; exact nodesW_none (by rw [takeP_meet]; simp only [List.map_cons, List.map_nil]; rw [HQ0.out]; exact hno))
    exact ⟨rfl, .inr ⟨brk, [], rfl, ⟨HE.out, rfl⟩, HJ.out _ _ _ HJ3.out (Turn.grown2 hg4 hsm (ids_map HD3.out))⟩⟩
  case' inl =>
    have HTK : Hid (takeP M head [0] [] = some m0) := hid (by rw [takeP_meet]; simp only [List.map_cons, List.map_nil]; rw [HQ0.out]; exact hm0)
    have HI4 := hid (HI3.out.put HD3.out hg4)
    have HD4 := hid hi4
    have HJ4 := hid (HJ.out _ _ _ HJ3.out (Turn.grown2 (Bs := Bs) (s0 := s0) hg4 hsm (ids_map HD3.out)))
    obtain ⟨s1, s2, s3, s4⟩ := takeP_spec M head _ _ _ HTK.out
    have HM0 := hid (show m0.Nodup ∧ ∀ x ∈ m0, x < n from ⟨s2 List.nodup_nil, fun x hx => (s4 x hx).elim (fun h => nomatch h) (fun h => by have := live_lt h; rwa [HM.out] at this)⟩)
    have HM2 : Hid (m0.length = 1) := hid (by rw [s3]; rfl)
    obtain ⟨P0, hP0⟩ : ∃ P, wAt M head 0 = P := ⟨_, rfl⟩
    have HP0 : Hid (M.W[q0]? = some P0) := hid (by rw [← hP0, ← HQ0.out]; exact w_ex HN.out HM.out (s1 0 (by decide)))
    have hP0l : P0 < 18446744073709551616 := by rw [← hP0]; exact wAt_lt HW.out _ _
    have HR2 : Hid (goW M 4101 P0 m0 [] = RES) := hid (by rw [← HRES.out, nodesW_some HTK.out, hP0])
    have hq0n : q0 < n := by rw [← HN.out]; exact (List.getElem?_eq_some_iff.1 HP0.out).1
    have f0 : ∀ z : RIt X H (some ⟨wb, wo, none⟩) wc la lc n head M, z.v.cell? ⟨wb, wo + q0, none⟩ = some (.int .u64 ((P0 : Nat) : Int)) := fun z => z.i.word HP0.out
    clear hg4 hi4 hm0 s1 s2 s3 s4 hP0
    gi_wp2
    obtain ⟨D', hD'⟩ : ∃ DX, w4.drew = DX := ⟨_, rfl⟩
    have hbD : Below w4.heap.size w4 D' := by rw [← hD']; exact (Below.refl _ _).drew
    have HD' := hid hD'
    have HI5 := hid (HI4.out.grow hbD)
    have HD5 := hid (HD4.out.grow hbD)
    have HJ5 := hid (HJ.out _ _ _ HJ4.out (Turn.grow (Bs := Bs) (s0 := s0) hbD))
    clear hD' hbD
    refine wpIn_region_mixT (fun V => ∃ z : RIt X H (some ⟨wb, wo, none⟩) wc la lc n head M, V = z.v) 7 (.q 0 (.q 1 (.q 2 (.h 3 (.q 4 (.q 5 (.q 6 .done))))))) (fun ⟨a, w, h⟩ => by rcases h with ⟨⟨v, e⟩, -⟩ | ⟨c, pre, e, -⟩ <;> cases e) (by kernel_rfl) (by kernel_rfl) (by rw [HD'.out]; exact HCL.out _ HI5.out) ?_
    rw [HD'.out]
    repeat (refine wpMix2_q rfl rfl ?_; go_big_quiet_step (fail); refine wpQuiet_nil ?_)
    refine wpMix2_h rfl fun R' hR' hO => ?_
    go_wp2_with fail
    refine (HAT.out D').mono ?_
    rintro e w6 ⟨rfl, hw6⟩
    subst hw6
    go_wp2
    refine hR' _ _ (HCL.out _ HI5.out) ?_
    clear hR' hO R'
    repeat (refine wpMix2_q rfl rfl ?_; go_big_quiet_step (fail); refine wpQuiet_nil ?_)
    refine wpMix2_done ?_
    simp only [List.drop_succ_cons, List.drop_nil]
    clear f0
    gi_wp2
    gi_loopw [5] (fun t5 wr => ∃ (f place : Nat) (met : List Nat) (pre : List Nd), t5 = .int .u64 ((place : Nat) : Int) ∧ place < 18446744073709551616 ∧ Hid (Itr X H (some ⟨wb, wo, none⟩) wc la lc n head M wr) ∧ Hid (IdsJ wr mb (ones met)) ∧ Hid (J pre wr) ∧ Hid (goW M f place met pre = RES) ∧ Hid (met.Nodup ∧ ∀ x ∈ met, x < n) ∧ Hid (4101 ≤ f + met.length) ∧ Hid (4 * pre.length + 1 ≤ met.length)) (fun _ wr => 5000 - metLen mb wr)
    case atStart => exact ⟨4101, P0, m0, [], rfl, hP0l, HI5, HD5, HJ5, HR2, HM0, hid (by omega), hid (by rw [HM2.out]; simp)⟩
    case round =>
      clear HI1 HD1 HJ1 HI2 HD2 HJ2 HI3 HD3 HJ3 HI4 HD4 HJ4 HI5 HD5 HJ5 HJ0 HD HD' HR2 HM0 HM2 HP0 HTK HL3
      obtain ⟨f, place, met, pre, rfl, hpl, hI, hIM, hJs, hR, hmet, hf, hpre⟩ := hrel
      have hlen := nodup_lt hmet.out.1 hmet.out.2
      obtain ⟨f1, hf1⟩ : ∃ f1, f = f1 + 1 := ⟨f - 1, by have := hf.out; omega⟩
      have HLEN := hid hlen
      have HF1 := hid hf1
      clear hlen hf1
      by_cases h0 : place = 0
      · subst h0
        have HR3 : Hid (some pre = RES) := hid (by rw [← hR.out, HF1.out, goW_zero])
        gi_wp2
        go_end0
        exact .inl ⟨⟨_, rfl⟩, .inl ⟨pre, HR3.out.symm, hJs.out⟩⟩
      · have t0 : (((place : Nat) : Int) != 0) = true := by simp; omega
        have HP0n := hid h0
        obtain ⟨q, hq⟩ : ∃ q, posL place 0 = q := ⟨_, rfl⟩
        have HAT := hid (fun V => at_any place 0 V hpl (by decide))
        rw [hq] at HAT
        have hq6 : q ≤ 5000 := by rw [← hq]; unfold posL; omega
        have HQ := hid hq
        have HP : Hid (∀ k, posL place k = q + k) := hid (fun k => by rw [← hq]; exact posL_add place k)
        clear h0 hq
        gi_wp2_with fail
        refine ⟨trivial, ?_⟩
        refine (callsIn_wide.2 (HAT.out wr)).mono ?_
        rintro e w5 ⟨rfl, hw5⟩
        subst hw5
        obtain ⟨w6, hw6, hb6, hs6, hl6⟩ := laid w5 #[.int .i64 ((q : Nat) : Int), .int .i64 (((q : Nat) : Int) + 1), .int .i64 (((q : Nat) : Int) + 2), .int .i64 (((q : Nat) : Int) + 3)] 3
        obtain ⟨B6, hB6⟩ : ∃ X, w5.heap.size = X := ⟨_, rfl⟩
        rw [hB6] at hl6
        have HI6 := hid (hI.out.grow hb6)
        have HD6 := hid (hIM.out.grow hb6)
        have HJ6 := hid (HJ.out _ _ _ hJs.out (Turn.grow (Bs := Bs) (s0 := s0) hb6))
        have HL6 : Hid (Leads w6 (some ⟨B6, 0, none⟩) 4 4 (mcells [q, q + 1, q + 2, q + 3])) := hid ⟨Nat.le_refl _, by decide, .inr ⟨B6, 0, rfl, lt_laid hl6, fun i v hv => by
          match i, hv with
          | 0, hv => simp [mcells] at hv; subst hv; exact cell_laid hl6 rfl
          | 1, hv => simp [mcells] at hv; subst hv; exact cell_laid hl6 rfl
          | 2, hv => simp [mcells] at hv; subst hv; exact cell_laid hl6 rfl
          | 3, hv => simp [mcells] at hv; subst hv; exact cell_laid hl6 rfl⟩⟩
        have x0 := cell_laid (i := 0) HI6.out.x rfl
        have x1 := cell_laid (i := 1) HI6.out.x rfl
        have x2 := cell_laid (i := 2) HI6.out.x rfl
        have x0' := cell_laid (i := 0) hI.out.x rfl
        have x1' := cell_laid (i := 1) hI.out.x rfl
        have x2' := cell_laid (i := 2) hI.out.x rfl
        clear hb6 hs6 hl6
        gi_wp2_with fail
        refine ⟨trivial, ?_⟩
        refine (callsIn_wide.2 (HMT.out [q, q + 1, q + 2, q + 3] _ (some ⟨B6, 0, none⟩) 4 4 w6 HI6.out HD6.out HL6.out rfl (fun w hw => by simp at hw; omega) (by have := HLEN.out; omega))).mono ?_
        rintro e w7 ⟨hg7, ⟨met', hm', rfl, hi7⟩ | ⟨hno, rfl⟩⟩
        case' inr =>
          have HTN : Hid (takeP M place (List.range 4) met = none) := hid (by rw [takeP_meet]; show meetP M [posL place 0, posL place 1, posL place 2, posL place 3] met = none; rw [HP.out 0, HP.out 1, HP.out 2, HP.out 3]; exact hno)
          have HE : Hid (RES = none) := hid (by rw [← hR.out, HF1.out, goW_none HP0n.out HTN.out])
          exact ⟨rfl, .inr ⟨brk, pre, rfl, ⟨HE.out, rfl⟩, HJ.out _ _ _ HJ6.out (Turn.grown2 hg7 hsm (ids_map HD6.out))⟩⟩
        case' inl =>
          have HTK : Hid (takeP M place (List.range 4) met = some met') := hid (by rw [takeP_meet]; show meetP M [posL place 0, posL place 1, posL place 2, posL place 3] met = some met'; rw [HP.out 0, HP.out 1, HP.out 2, HP.out 3]; exact hm')
          have HI7 := hid (HI6.out.put HD6.out hg7)
          have HD7 := hid hi7
          have HJ7 := hid (HJ.out _ _ _ HJ6.out (Turn.grown2 (Bs := Bs) (s0 := s0) hg7 hsm (ids_map HD6.out)))
          obtain ⟨s1, s2, s3, s4⟩ := takeP_spec M place _ _ _ HTK.out
          have HM7 := hid (show met'.Nodup ∧ ∀ x ∈ met', x < n from ⟨s2 hmet.out.1, fun x hx => (s4 x hx).elim (fun h => hmet.out.2 x h) (fun h => by have := live_lt h; rwa [HM.out] at this)⟩)
          have HLEN7 : Hid (met'.length = met.length + 4) := hid (by rw [s3]; rfl)
          obtain ⟨A0, hA0⟩ : ∃ P, wAt M place 0 = P := ⟨_, rfl⟩
          have HA0 : Hid (M.W[q + 0]? = some A0) := hid (by rw [← hA0, ← HP.out 0]; exact w_ex HN.out HM.out (s1 0 (by decide)))
          have hqn0 : q + 0 < n := by rw [← HN.out]; exact (List.getElem?_eq_some_iff.1 HA0.out).1
          have g0 : ∀ z : RIt X H (some ⟨wb, wo, none⟩) wc la lc n head M, z.v.cell? ⟨wb, wo + q, none⟩ = some (.int .u64 ((A0 : Nat) : Int)) := fun z => z.i.word HA0.out
          obtain ⟨A1, hA1⟩ : ∃ P, wAt M place 1 = P := ⟨_, rfl⟩
          have HA1 : Hid (M.W[q + 1]? = some A1) := hid (by rw [← hA1, ← HP.out 1]; exact w_ex HN.out HM.out (s1 1 (by decide)))
          have hqn1 : q + 1 < n := by rw [← HN.out]; exact (List.getElem?_eq_some_iff.1 HA1.out).1
          have g1 : ∀ z : RIt X H (some ⟨wb, wo, none⟩) wc la lc n head M, z.v.cell? ⟨wb, wo + (q + 1), none⟩ = some (.int .u64 ((A1 : Nat) : Int)) := fun z => z.i.word HA1.out
          obtain ⟨A2, hA2⟩ : ∃ P, wAt M place 2 = P := ⟨_, rfl⟩
          have HA2 : Hid (M.W[q + 2]? = some A2) := hid (by rw [← hA2, ← HP.out 2]; exact w_ex HN.out HM.out (s1 2 (by decide)))
          have hqn2 : q + 2 < n := by rw [← HN.out]; exact (List.getElem?_eq_some_iff.1 HA2.out).1
          have g2 : ∀ z : RIt X H (some ⟨wb, wo, none⟩) wc la lc n head M, z.v.cell? ⟨wb, wo + (q + 2), none⟩ = some (.int .u64 ((A2 : Nat) : Int)) := fun z => z.i.word HA2.out
          obtain ⟨A3, hA3⟩ : ∃ P, wAt M place 3 = P := ⟨_, rfl⟩
          have HA3 : Hid (M.W[q + 3]? = some A3) := hid (by rw [← hA3, ← HP.out 3]; exact w_ex HN.out HM.out (s1 3 (by decide)))
          have hqn3 : q + 3 < n := by rw [← HN.out]; exact (List.getElem?_eq_some_iff.1 HA3.out).1
          have g3 : ∀ z : RIt X H (some ⟨wb, wo, none⟩) wc la lc n head M, z.v.cell? ⟨wb, wo + (q + 3), none⟩ = some (.int .u64 ((A3 : Nat) : Int)) := fun z => z.i.word HA3.out
          have HR7 : Hid (goW M f1 A2 met' (pre ++ [(place, A0, A1, A3)]) = RES) := hid (by rw [← hR.out, HF1.out, goW_some HP0n.out HTK.out]; unfold ndAt; rw [hA0, hA1, hA2, hA3])
          have hA2l : A2 < 18446744073709551616 := by rw [← hA2]; exact wAt_lt HW.out _ _
          clear hg7 hi7 hm' s1 s2 s3 s4 hA0 hA1 hA2 hA3 x0 x1 x2 x0' x1' x2'
          gi_wp2
          obtain ⟨D7, hD7⟩ : ∃ DX, w7.drew = DX := ⟨_, rfl⟩
          have hbD : Below w7.heap.size w7 D7 := by rw [← hD7]; exact (Below.refl _ _).drew
          have HDD := hid hD7
          have HI8 := hid (HI7.out.grow hbD)
          have HD8 := hid (HD7.out.grow hbD)
          have HJ8 := hid (HJ.out _ _ _ HJ7.out (Turn.grow (Bs := Bs) (s0 := s0) hbD))
          clear hD7 hbD
          refine wpIn_region_mixT (fun V => ∃ z : RIt X H (some ⟨wb, wo, none⟩) wc la lc n head M, V = z.v) 21 (.q 0 (.q 1 (.q 2 (.q 3 (.q 4 (.q 5 (.q 6 (.q 7 (.q 8 (.q 9 (.q 10 (.q 11 (.q 12 (.q 13 (.q 14 (.q 15 (.q 16 (.q 17 (.q 18 (.q 19 (.q 20 .done))))))))))))))))))))) (fun ⟨a, w, h⟩ => by rcases h with ⟨⟨v, e⟩, -⟩ | ⟨c, pre, e, -⟩ <;> cases e) (by kernel_rfl) (by kernel_rfl) (by rw [HDD.out]; exact HCL.out _ HI8.out) ?_
          rw [HDD.out]
          repeat (refine wpMix2_q rfl rfl ?_; go_big_quiet_step (fail); refine wpQuiet_nil ?_)
          refine wpMix2_done ?_
          simp only [List.drop_succ_cons, List.drop_zero]
          obtain ⟨fn, tmps, assign, body, hy, hRR⟩ := HY.out pre (place, A0, A1, A3) D7 HJ8.out (by have := hpre.out; have := HLEN.out; omega)
          have hy' : (Instr.yield l #[.agg #[.int .u64 ((place : Nat) : Int), .int .u64 ((A0 : Nat) : Int), .int .u64 ((A1 : Nat) : Int), .int .u64 ((A3 : Nat) : Int)]]).run Tryz.prog D7 = _ := hy
          clear hy
          gi_wp2
          refine hRR.mono ?_
          rintro e w9 (⟨rfl, hJ9, hk9⟩ | ⟨rfl, hJx9⟩)
          case' inr =>
            have HSP : Hid (∀ xs, RES = some xs → pre ++ [(place, A0, A1, A3)] <+: xs) := hid (fun xs h => goW_prefix _ _ _ _ _ (by rw [HR7.out]; exact h))
            clear hy' hRR
            gi_wp2
            refine bodyPost_ret (results_none rfl _ _ _) rfl ?_
            exact .inl ⟨⟨_, rfl⟩, .inr ⟨_, HSP.out, hJx9⟩⟩
          case' inl =>
            have HI9 := hid (HK.out _ _ HI8.out hk9)
            have HD9 := hid (ids_keep HD8.out hk9 hsm)
            have HJ9 := hid hJ9
            have x0 := cell_laid (i := 0) HI9.out.x rfl
            have g2 := HI9.out.word HA2.out
            clear hy' hRR hJ9 hk9
            gi_wp2
            go_roundw
            case rel => exact ⟨f1, A2, met', _, rfl, hA2l, HI9, HD9, HJ9, HR7, HM7, hid (by have := hf.out; have := HF1.out; have := HLEN7.out; omega), hid (by have := hpre.out; have := HLEN7.out; simp only [List.length_append, List.length_singleton]; omega)⟩
            case measure =>
              have e1 := metLen_eq HD9.out HM7.out.1 (fun x hx => by have := HM7.out.2 x hx; omega)
              have e2 := metLen_eq hIM.out hmet.out.1 (fun x hx => by have := hmet.out.2 x hx; omega)
              have e3 := nodup_lt HM7.out.1 HM7.out.2
              have e4 := HLEN7.out
              rw [e1, e2]
              omega
end Go.Proofs.YtahicokokfcieaaGreatDoor
namespace Go.Proofs.YtahicokokfcieaaGreatDoor
open Go.RowKit
open Go.Proofs
set_option linter.unusedVariables false
attribute [local go_sem] Oper.semAt_some
abbrev tbkV : Value := .iface 131 (.agg #[])
abbrev tbk : List PanicEntry := [{ v := tbkV, recovered := false }]
/-- Words are taken, one behind the other. -/
def takeN (M : Mem) : Nat → Nat → List Nat → Option (List Nat)
  | _, 0, met => some met
  | p, k + 1, met => if freeB M met p = true then takeN M (p + 1) k (met ++ [p]) else none
def tmeet (M : Mem) (p k : Nat) (met : List Nat) : Option (List Nat) := if 4096 < p then none else takeN M p k met
theorem atMI_ones (met : List Nat) (w : Nat) : atM (ones met) w = if w ∈ met then 1 else 0 := by
  refine snocRec (p := fun l => atM (ones l) w = if w ∈ l then 1 else 0) rfl (fun l x h => ?_) met
  unfold ones at h ⊢
  rw [List.map_append, List.map_singleton, atM_snoc, h]
  by_cases e : x = w
  · subst e; simp
  · simp only [if_neg e, List.mem_append, List.mem_singleton]
    by_cases hm : w ∈ l
    · simp [hm]
    · rw [if_neg hm, if_neg]
      rintro (h | h)
      · exact hm h
      · exact e h.symm
theorem IdsI.run {w : World} {b k : Nat} {l : List (Nat × Nat)} (h : IdsI w b l) (hk : k < 18446744073709551616) {t : TypeId} (ht : Tryz.prog.underlying t = some (.map 26 3)) :
    (Instr.lookup t (.map (some b)) (.int .u64 ((k : Nat) : Int)) false).run Tryz.prog w = .ok (.int .i64 ((atM l k : Nat) : Int)) w := by
  obtain ⟨c, hrun, hat, -⟩ := World.ownsMap.lookup_int h keyedU ht Tryz.underlying3 (by kernel_rfl) (keyU hk)
  rw [mapD_atI] at hat
  obtain rfl : c = ((atM l k : Nat) : Int) := by simp at hat; omega
  exact hrun
theorem map_cellI {V : World} {mb : Nat} {l : List (Nat × Nat)} (h : IdsI V mb l) (i : Nat) : V.cell? ⟨mb, i, none⟩ = none := by
  obtain ⟨es, clock, hb, -⟩ := h
  simp [World.cell?, hb]
theorem Leads.grownI {V V' : World} {a : Option Addr} {n cap mb : Nat} {cs : List Value} {l : List (Nat × Nat)} (h : Leads V a n cap cs) (hm : IdsI V mb l) (hg : V.grownBy V' (some mb)) : Leads V' a n cap cs := by
  obtain ⟨h1, h2, ⟨h3, h4⟩ | ⟨b, off, h3, h4, h5⟩⟩ := h
  · exact ⟨h1, h2, .inl ⟨h3, h4⟩⟩
  · refine ⟨h1, h2, .inr ⟨b, off, h3, Nat.lt_of_lt_of_le h4 hg.size, fun i v hv => ?_⟩⟩
    have hc := h5 i v hv
    by_cases e : mb = b
    · subst e; rw [map_cellI hm] at hc; cases hc
    · have := hg.block b h4 (fun e' => e (Option.some.inj e').symm)
      unfold World.cell? at hc ⊢
      rw [this]
      exact hc
theorem wp_putGI {w : World} {ops : Array Oper} {rest : List Oper} {o : Oper} {a : Act} {Q : Exit → Act → World → Prop} (hg : o.guard = none) (m x v : Operand) (t : TypeId) (hop : o.op = Op.mapUpdate t m x v) (ht : Tryz.prog.underlying t = some (.map 26 3))
    (b k u : Nat) (l : List (Nat × Nat)) (hm : a.eval m = .map (some b)) (hown : IdsI w b l) (hl : l.length ≤ 100000) (hx : a.eval x = .int .u64 ((k : Nat) : Int)) (hv : a.eval v = .int .i64 ((u : Nat) : Int)) (hk : k < 18446744073709551616) (hu : u < 1000)
    (h : ∀ w', IdsI w' b (l ++ [(k, u)]) → w.grownBy w' (some b) → wpList Tryz.prog ops Q rest (a.put o.dst undef) w') : wpList Tryz.prog ops Q (o :: rest) a w := by
  refine wpList_mapUpdate_own w hg m x v t hop 26 3 keyedU ht (plainElem Tryz.prog 3) b l.length (mapDI l) hm hown (by unfold maxLen; omega) _ _ _ hx hv (keyU hk) _ [] (plainElem_int Tryz.underlying3 (wfI hu)) ?_
  intro w' h1 h2
  refine h w' ?_ h2
  unfold IdsI
  rw [mapD_snocI, List.length_append]
  exact h1
set_option maxRecDepth 100000 in
set_option maxHeartbeats 2000000 in
theorem tmeet_any (M : Mem) (wa la : Option Addr) (wc lc mb p many : Nat) (met : List Nat) (V : World) (h : MemL V wa wc la lc M) (hm : M.L.length = M.W.length) (hi : IdsI V mb (ones met)) (hp : p < 18446744073709551616) (h0 : 1 ≤ many) (hk : many ≤ 16) (hmm : met.length ≤ 10000) :
    Calls Tryz.prog 43 #[.map (some mb), memV wa wc la lc M, .int .u64 ((p : Nat) : Int), .int .i64 ((many : Nat) : Int)] V (fun e V' => V.grownBy V' (some mb) ∧
      ((∃ met', tmeet M p many met = some met' ∧ e = .returned (.tuple #[]) ∧ IdsI V' mb (ones met')) ∨ (tmeet M p many met = none ∧ e = .panicked tbk))) := by
  obtain ⟨V1, hV1, hb1, hs1, hl1⟩ := laid V #[.slice wa M.W.length wc, .slice la M.L.length lc, .bool M.F] 25
  obtain ⟨X, hX⟩ : ∃ X, V.heap.size = X := ⟨_, rfl⟩
  rw [hX] at hl1
  have HX1 := hid hl1
  have HM1 := hid (h.grow hb1)
  have HI1 := hid (hi.grow hb1)
  have HG1 := hid (grownBy_below hb1 (some mb))
  have HNX : Hid (mb ≠ X) := hid (by
    rintro rfl
    obtain ⟨es, clock, hb, -⟩ := hi
    have := lt_laid hb
    omega)
  have hwl := h.w.len
  have hll := h.l.len
  obtain ⟨RES, hRES⟩ : ∃ R, tmeet M p many met = R := ⟨_, rfl⟩
  rw [hRES]
  unfold tmeet at hRES
  unfold memV
  rw [hm] at hV1 hll HX1 ⊢
  have HMM := hid hm
  obtain ⟨n, hn⟩ : ∃ n, M.W.length = n := ⟨_, rfl⟩
  rw [hn] at hV1 hwl hll HX1 HMM ⊢
  have HN := hid hn
  by_cases hpb : 4096 < p
  · rw [if_pos hpb] at hRES
    have HRES := hid hRES
    have t0 : (4096 : Int) < ((p : Nat) : Int) := by omega
    have t2 : (0 : Int) < ((many : Nat) : Int) := by omega
    clear h hi hb1 hs1 hl1 hRES hm hn
    go_enter Tryz.func43, Tryz.ntmps43
    go_wp2
    go_loopg [12] 0 (fun g i wr => i = .int .u64 0 ∧ V1.grownBy wr (some mb))
    case atStart => exact ⟨rfl, grownBy_refl _ _⟩
    case round =>
      obtain ⟨rfl, hG⟩ := hrel
      have HG2 := hid (grownBy_trans HG1.out hG)
      clear hG
      go_wp2
      exact ⟨rfl, HG2.out, .inr ⟨HRES.out.symm, rfl⟩⟩
  · rw [if_neg hpb] at hRES
    have HRES := hid hRES
    have t0 : ¬ (4096 : Int) < ((p : Nat) : Int) := by omega
    have t0' : p ≤ 4096 := by omega
    clear h hi hb1 hs1 hl1 hRES hm hn hpb
    go_enter Tryz.func43, Tryz.ntmps43
    go_wp2
    go_loopg [12] many (fun g i wr => ∃ (k : Nat) (met2 : List Nat), g + k = many ∧ i = .int .u64 ((k : Nat) : Int) ∧ Hid (V1.grownBy wr (some mb)) ∧ Hid (IdsI wr mb (ones met2)) ∧ Hid (takeN M (p + k) g met2 = RES) ∧ Hid (met2.length = met.length + k))
    case atStart => exact ⟨0, met, rfl, rfl, hid (grownBy_refl _ _), HI1, HRES, hid rfl⟩
    case round =>
      obtain ⟨k, met2, hk, rfl, hG, hI, hR, hlen⟩ := hrel
      have HK := hid hk
      clear hk
      by_cases hlt : k < many
      · obtain ⟨g1, hg1⟩ : ∃ g1, gk = g1 + 1 := ⟨gk - 1, by have := HK.out; omega⟩
        have hR2 := hR.out
        rw [hg1] at hR2
        unfold takeN at hR2
        have HR2 := hid hR2
        have HG1' := hid hg1
        obtain ⟨s, hs⟩ : ∃ x, p + k = x := ⟨_, rfl⟩
        have hsi : IntKind.u64.wrap (((p : Nat) : Int) + ((k : Nat) : Int)) = ((s : Nat) : Int) := by rw [IntKind.wrap_u64]; omega
        have HS := hid hs
        rw [hs] at HR2
        obtain ⟨x0, x1, x2⟩ := cells3 (keep_grown HX1.out hG.out (fun e => HNX.out (Option.some.inj e)))
        have hs5 : s ≤ 5000 := by omega
        have hrun := hI.out.run (k := s) (by omega) (t := 77) Tryz.underlying77
        rw [atMI_ones] at hrun
        clear hR2 hR hg1 hs
        by_cases hwn : s < n
        · have t1 : decide (((n : Nat) : Int) ≤ ((s : Nat) : Int)) = false := decide_eq_false (by omega)
          have t1' : ¬ ((n : Nat) : Int) ≤ ((s : Nat) : Int) := by omega
          obtain ⟨bv, hbv⟩ : ∃ x, M.L[s]? = some x := ⟨_, List.getElem?_eq_getElem (by rw [HMM.out]; exact hwn)⟩
          have hML := HM1.out.l.grownI HI1.out hG.out
          rw [HMM.out] at hML
          obtain ⟨lb, lo, rfl, -, hc⟩ := hML.at hwn (bcell_at hbv)
          have f1 := hc _ (Below.refl _ _)
          have HBV := hid hbv
          clear hc hbv hML
          cases bv
          case' false =>
            have HF : Hid (freeB M met2 s = false) := hid (by unfold freeB liveN; rw [HBV.out]; rfl)
            go_wp2
            exact ⟨rfl, grownBy_trans HG1.out hG.out, .inr ⟨by rw [← HR2.out, HF.out]; rfl, rfl⟩⟩
          case' true =>
            by_cases hmem : s ∈ met2
            · rw [if_pos hmem] at hrun
              have HF : Hid (freeB M met2 s = false) := hid (by unfold freeB liveN; rw [HBV.out, decide_eq_true hmem]; rfl)
              clear hmem
              go_wp2
              exact ⟨rfl, grownBy_trans HG1.out hG.out, .inr ⟨by rw [← HR2.out, HF.out]; rfl, rfl⟩⟩
            · rw [if_neg hmem] at hrun
              have HF : Hid (freeB M met2 s = true) := hid (by unfold freeB liveN; rw [HBV.out, decide_eq_false hmem]; rfl)
              have HR3 : Hid (takeN M (s + 1) g1 (met2 ++ [s]) = RES) := hid (by have := HR2.out; rwa [if_pos HF.out] at this)
              have HI2 := hI
              clear hmem hI
              have q1 : (ones met2).length ≤ 100000 := by simp [ones]; have := hlen.out; have := HK.out; have := HG1'.out; omega
              go_wp2_with (at_mapUpdate; refine wp_putGI rfl _ _ _ 77 rfl Tryz.underlying77 mb s 1 (ones met2) rfl HI2.out q1 rfl rfl ?c2 (by decide) ?c4)
              case c2 => omega
              case c4 =>
                intro w3 hi hg
                rw [ones_snoc] at hi
                have HI3 := hid hi
                have HG3 := hid (grownBy_trans hG.out hg)
                clear hi hg hrun x0 x1 x2 f1
                go_wp2
                go_roundg g1
                case measure => have := HG1'.out; omega
                case rel => exact ⟨k + 1, _, by have := HK.out; have := HG1'.out; omega, by go_num, HG3, HI3, hid (by rw [show p + (k + 1) = s + 1 by have := HS.out; omega]; exact HR3.out), hid (by rw [List.length_append, hlen.out]; simp; omega)⟩
        · have t1 : decide (((n : Nat) : Int) ≤ ((s : Nat) : Int)) = true := decide_eq_true (by omega)
          have HF : Hid (freeB M met2 s = false) := hid (by unfold freeB liveN; rw [List.getElem?_eq_none (by rw [HMM.out]; omega)]; rfl)
          go_wp2
          exact ⟨rfl, grownBy_trans HG1.out hG.out, .inr ⟨by rw [← HR2.out, HF.out]; rfl, rfl⟩⟩
      · have HE : Hid (RES = some met2) := hid (by
          have e1 := HK.out
          have e4 : gk = 0 := by omega
          rw [← hR.out, e4]; rfl)
        go_wp2
        go_end0
        exact ⟨grownBy_trans HG1.out hG.out, .inl ⟨met2, HE.out, rfl, hI.out⟩⟩
end Go.Proofs.YtahicokokfcieaaGreatDoor
namespace Go.Proofs.YtahicokokfcieaaGreatDoor
open Go.RowKit
open Go.Proofs
set_option linter.unusedVariables false
attribute [local go_sem] Oper.semAt_some
theorem as_tbk (v : Value) (w : World) : (Instr.typeAssert (.iface 131 v) 20 131 true).run Tryz.prog w = .ok (.tuple #[v, .bool true]) w := by kernel_rfl
attribute [local go_sem] as_tbk
theorem tr1_idle (Z : Nat) (w : World) :
    CallsDIn Fence.wide 4 Tryz.prog 69 #[.pointer (some ⟨Z, 0, none⟩)] .returning w (fun e u' w' => e = .returned (.tuple #[]) ∧ u' = .returning ∧ w' = w) := by
  refine callsDIn_of_wpSIn Tryz.func69 rfl trivial fun c₀ cs hu => ?_
  apply wpSIn_seq
  apply wpSIn_region
  simp [wpOpsSIn, go_sem, recoverD, hu, Tryz.ntmps69, Exit.thenS]
  refine wpSIn_of_wpIn rfl ?_
  refine wpIn_wide.2 ?_
  simp only [Array.replicate_succ, Array.replicate_zero, List.push_toArray, List.append_toArray, List.nil_append, List.cons_append, List.setIfInBounds_toArray, List.set_cons_succ, List.set_cons_zero]
  go_wp2
  cases c₀
  simp_all [bodyPostS, results, Tryz.results69]
set_option maxRecDepth 100000 in
set_option maxHeartbeats 2000000 in
theorem tr1_caught (Z : Nat) (v0 : Value) (older : List PanicEntry) (w : World) (b4 : w.heap[Z]? = some (.cells #[v0] 4 (0, 0))) :
    CallsDIn Fence.wide 4 Tryz.prog 69 #[.pointer (some ⟨Z, 0, none⟩)] (.panicking ({ v := tbkV, recovered := false } :: older)) w (fun e u' w' => e = .returned (.tuple #[]) ∧ u' = .panicking ({ v := tbkV, recovered := true } :: older) ∧
      w'.heap[Z]? = some (.cells #[.bool false] 4 (0, 0)) ∧ w.grownBy w' (some Z)) := by
  obtain ⟨w1, hw1, hb1, hs1, -⟩ := laid w #[] 131
  have k4 := keep_laid b4 hb1
  have f0 := free_laid (i := 0) k4
  have h0 := cell_laid (i := 0) k4 rfl
  have H4 := hid (set_laid (i := 0) k4 (.bool false))
  have HG : Hid (w.grownBy (w1.setCell ⟨Z, 0, none⟩ (.bool false)) (some Z)) := hid (grownBy_trans (grownBy_below hb1 _) (grownBy_setCell _ _ _ _))
  clear b4 k4 hb1 hs1
  refine callsDIn_of_wpSIn Tryz.func69 rfl trivial fun c₀ cs hu => ?_
  apply wpSIn_seq
  apply wpSIn_region
  simp [wpOpsSIn, go_sem, recoverD, hu, Tryz.ntmps69, Exit.thenS]
  refine wpSIn_of_wpIn rfl ?_
  refine wpIn_wide.2 ?_
  simp only [Array.replicate_succ, Array.replicate_zero, List.push_toArray, List.append_toArray, List.nil_append, List.cons_append, List.setIfInBounds_toArray, List.set_cons_succ, List.set_cons_zero]
  go_wp2
  exact ⟨rfl, _, rfl, _, results_none rfl _ _ _, rfl, rfl, H4.out, HG.out⟩
theorem tr_result {W : World} {a : Nat} {v0 : Value} {tmps : Array Value} (h0 : W.heap[a]? = some (.cells #[v0] 4 (0, 0))) (q0 : tmps[2]?.getD undef = .pointer (some ⟨a, 0, none⟩)) :
    (results Tryz.f41 tmps).run Tryz.prog W = .ok v0 W := by
  have c0 := cell_laid (i := 0) (v := v0) h0 rfl
  simp [results, Tryz.results41, go_sem, q0, c0]
theorem tr1_invoke (Z : Nat) (W : World) : (invoke (Target.fn (Fn.func 69) #[.pointer (some ⟨Z, 0, none⟩)]) #[]).run Tryz.prog W = .ok (.enter 69 #[.pointer (some ⟨Z, 0, none⟩)]) W := by
  simp [invoke, go_sem]
abbrev trDefs (Z : Nat) : List Deferred := [{ target := .fn (.func 69) #[.pointer (some ⟨Z, 0, none⟩)], args := #[] }]
theorem leaves_caughtB {W : World} {Z : Nat} {v0 : Value} {tmps : Array Value} {R : Ending → World → Prop} (c4 : W.heap[Z]? = some (.cells #[v0] 4 (0, 0)))
    (q0 : tmps[2]?.getD undef = .pointer (some ⟨Z, 0, none⟩)) (hR : ∀ W', W.grownBy W' (some Z) → ∀ e, e = Ending.returned (.bool false) → R e W') :
    LeavesInM Fence.wide 5 Tryz.prog Tryz.f41 tmps R (trDefs Z) (.panicking tbk) W := by
  refine ⟨by simp, .inr ⟨(fun h => by cases h), _, _, _, _, rfl, tr1_invoke _ _, fun _ _ => trivial, ?_⟩⟩
  refine (tr1_caught Z v0 [] _ c4).mono ?_
  rintro e u W' ⟨rfl, rfl, d4, g⟩
  exact ⟨_, tr_result d4 q0, hR W' g _ rfl⟩
theorem leaves_idleB {W : World} {Z : Nat} {v0 : Value} {tmps : Array Value} {R : Ending → World → Prop} (c4 : W.heap[Z]? = some (.cells #[v0] 4 (0, 0)))
    (q0 : tmps[2]?.getD undef = .pointer (some ⟨Z, 0, none⟩)) (hR : ∀ e, e = Ending.returned v0 → R e W) :
    LeavesInM Fence.wide 5 Tryz.prog Tryz.f41 tmps R (trDefs Z) .returning W := by
  refine ⟨by simp, .inr ⟨(fun h => by cases h), _, _, _, _, rfl, tr1_invoke _ _, fun _ _ => trivial, ?_⟩⟩
  refine (tr1_idle Z _).mono ?_
  rintro e u W' ⟨rfl, rfl, rfl⟩
  exact ⟨_, tr_result c4 q0, hR _ rfl⟩
/-- A function is tried: what it does, A (it comes back) or B (it leaves, and is caught), is done; behind that a variable of tries' own (Z) is written. -/
def GivesTry (V : World) (A B : World → World → Prop) (e : Ending) (W2 : World) : Prop :=
  ∃ (Z : Nat) (W W1 : World), Below V.heap.size V W ∧ V.heap.size ≤ Z ∧ Z < W.heap.size ∧ W1.grownBy W2 (some Z) ∧ ((e = .returned (.bool true) ∧ A W W1) ∨ (e = .returned (.bool false) ∧ B W W1))
set_option maxRecDepth 100000 in
set_option maxHeartbeats 2000000 in
theorem tries_any (fk : Nat) (cap : Array Value) (A B : World → World → Prop) (V : World) (hcf : ∀ (a : Array Value) (w : World), (callFunc fk a).run Tryz.prog w = .ok (.enter fk a) w)
    (hdo : ∀ W, Below V.heap.size V W → Calls Tryz.prog fk cap W (fun e W' => (e = .returned (.tuple #[]) ∧ A W W') ∨ (e = .panicked tbk ∧ B W W')))
    (hk : ∀ W W' Z, Below V.heap.size V W → V.heap.size ≤ Z → Z < W.heap.size → A W W' ∨ B W W' → W'.heap[Z]? = W.heap[Z]?) :
    Calls Tryz.prog 41 #[.func (.func fk) #[] cap] V (GivesTry V A B) := by
  obtain ⟨V1, hV1, hb1, hs1, hl1⟩ := laid V #[.bool false] 4
  obtain ⟨Z, hZ⟩ : ∃ X, V.heap.size = X := ⟨_, rfl⟩
  have HZ1 : Hid (Z < V1.heap.size) := hid (by omega)
  rw [hZ] at hl1
  have KZ := hid hl1
  have HB := hid hb1
  have HZ := hid hZ
  have HD := hid (hdo V1 hb1)
  have HK := hid hk
  have hmf : ∀ (fn : Fn) (first cap : Array Value) (w : World), (Instr.makeFunc fn first cap).run Tryz.prog w = .ok (.func fn first cap) w := fun _ _ _ _ => rfl
  clear hdo hk hb1 hs1 hl1
  refine calls_of_wp_marks Tryz.func41 rfl ?_
  simp only [Tryz.ntmps41, List.size_toArray, List.length_cons, List.length_nil, Nat.reduceAdd, Nat.reduceSub, Array.replicate_succ, Array.replicate_zero, List.push_toArray, List.append_toArray, List.nil_append, List.cons_append]
  go_wp2_with fail
  refine HD.out.mono ?_
  rintro e w2 (⟨rfl, hA⟩ | ⟨rfl, hB⟩)
  · have KZ2 := hid ((HK.out V1 w2 Z HB.out (Nat.le_of_eq HZ.out) HZ1.out (.inl hA)).trans KZ.out)
    have HA := hid hA
    have x0 := cell_laid (i := 0) KZ2.out rfl
    have f0 := free_laid (i := 0) KZ2.out
    have KZ3 := hid (set_laid (i := 0) KZ2.out (.bool true))
    clear hA
    go_wp2
    refine leaves_idleB KZ3.out rfl ?_
    intro e he
    subst he
    exact ⟨Z, V1, w2, HB.out, Nat.le_of_eq HZ.out, HZ1.out, grownBy_setCell _ _ _ _, .inl ⟨rfl, HA.out⟩⟩
  · have KZ2 := hid ((HK.out V1 w2 Z HB.out (Nat.le_of_eq HZ.out) HZ1.out (.inr hB)).trans KZ.out)
    have HB2 := hid hB
    clear hB
    go_wp2
    refine leaves_caughtB KZ2.out rfl ?_
    intro W' hg e he
    subst he
    exact ⟨Z, V1, w2, HB.out, Nat.le_of_eq HZ.out, HZ1.out, hg, .inr ⟨rfl, HB2.out⟩⟩
end Go.Proofs.YtahicokokfcieaaGreatDoor
