/- A region that draws its order, inside a fence that bars nothing: what comes last may give a value to the caller's round. No program in sight. -/
import Derived.Test.YtipohagcppfgiaaGreatRegion3
namespace Go.Proofs.YtipohagcppfgiaaGreat
open Go.RowKit
set_option linter.unusedVariables false
section
variable {P : Program} {ops : Array Oper} {md : Region.Mode} {C : World → Prop} {Q : Exit → Act → World → Prop}
theorem rowsIn_wide {n : Nat} {row : String} {args : Array Value} {w : World} {R : Value → World → Prop} (h : Rows P row args w R) : RowsIn Fence.wide n P row args w R :=
 fun c cs _ => let ⟨v, w', r, s⟩ := h c cs; ⟨v, w', r, stepsIn_wide.2 s⟩
theorem wpOpIn_of {nF i : Nat} {K : Act → World → Prop} {a : Act} {w : World} (hq : ¬ LetsOut Q) (h : wpOp P ops (outQ (fun _ _ => False) Q) i K a w) : wpOpIn Fence.wide nF P ops Q i K a w := by
 unfold wpOp at h
 unfold wpOpIn
 cases ho : ops[i]? with
 | none => rw [ho] at h; exact h
 | some o =>
  rw [ho] at h
  dsimp only at h ⊢
  split at h
  ·rename_i hw
   rw [if_pos hw]
   rcases h with h | ⟨_, h⟩
   ·refine ⟨fun f _ => trivial, ?_⟩
    rw [show (Fence.wide).round = none from rfl, Oper.semAt_none]
    unfold Oper.wp at h
    generalize (execOp a.eval o).run P w = r at h ⊢
    cases r with
    | halt x w' => cases x <;> first | exact h | exact h.elim
    | ok x w' =>
     cases x with
     | value v => exact h
     | skip => exact h
     | defer d => exact h
     | enter f args =>
      refine ⟨fun hd => (by cases hd), (callsIn_wide.2 (Calls.mono h fun e w'' he => ?_) : CallsIn Fence.wide (nF - 1) P f args w' _)⟩
      cases e with
      | returned v => exact he
      | panicked c => exact he.elim
      | outgrown => exact (hq (let ⟨a, w, h⟩ := he; ⟨a, w, h⟩)).elim
     | row row args => exact ⟨fun hd => (by cases hd), rowsIn_wide h⟩
     | round l f t c d => exact h.elim
     | _ => exact h.elim
   ·exact (hq (let ⟨a, w, h⟩ := h; ⟨a, w, h⟩)).elim
  ·rename_i hw
   rw [if_neg hw]
   exact ⟨fun f _ => trivial, h⟩
theorem wpAnyIn_of_headM {nF n g : Nat} (hq : ¬ LetsOut Q) {L : Array Bool → Act → World → Prop} (hL : ∀ listed a w, C w → L listed a w → wpAnyIn Fence.wide nF P md ops Q g listed a w) :
  ∀ (f : Nat) (listed : Array Bool) (a : Act) (w : World), C w → wpAnyM P md ops C Q n L f listed a w → wpAnyIn Fence.wide nF P md ops Q (f + g) listed a w
 | 0, listed, a, w, hC, h => by rw [Nat.zero_add]; exact hL _ _ _ hC h
 | f + 1, listed, a, w, hC, h => by
  rw [show f + 1 + g = (f + g) + 1 by omega]
  exact ⟨fun h0 => absurd h0 h.1, fun i hi => wpOpIn_of hq (wpOp_mono (fun a' w' h' => wpAnyIn_of_headM hq hL f _ a' w' h'.1 h'.2) (h.2 i hi).2)⟩
theorem wpAnyIn_of_seq {nF : Nat} : ∀ (l : List Oper) (k : Nat) (listed : Array Bool) (a : Act) (w : World), (∀ j, l[j]? = ops[k + j]?) →
  Region.seqB md ops l.length k listed = true → wpListIn Fence.wide nF P ops Q l a w → wpAnyIn Fence.wide nF P md ops Q l.length listed a w
 | [], _, _, _, _, _, hB, h => ⟨by simpa [Region.seqB] using hB, h⟩
 | o :: l, k, listed, a, w, hl, hB, h => by
  have h0 : ops[k]? = some o := by simpa using (hl 0).symm
  simp only [List.length_cons, Region.seqB, Bool.and_eq_true, decide_eq_true_eq] at hB
  refine ⟨fun h1 => (by rw [hB.1] at h1; cases h1), fun i hi => ?_⟩
  rw [hB.1] at hi
  obtain rfl : i = k := by simpa using hi
  have hrest : ∀ a' w', wpListIn Fence.wide nF P ops Q l a' w' → wpAnyIn Fence.wide nF P md ops Q l.length (listed.setIfInBounds i true) a' w' := fun a' w' h' =>
   wpAnyIn_of_seq l (i + 1) _ a' w' (fun j => by rw [show i + 1 + j = i + (j + 1) by omega, ← hl (j + 1)]; rfl) hB.2 h'
  unfold wpOpIn
  rw [h0]
  dsimp only
  unfold wpListIn at h
  split at h
  ·rename_i hw
   rw [if_pos hw]
   exact Oper.wpIn_mono hrest h
  ·rename_i hw
   rw [if_neg hw]
   exact ⟨h.1, hrest _ _ h.2⟩
/-- As rgm2, inside a fence that bars nothing. -/
theorem wpIn_region_mixT {nF id : Nat} {a : Act} {w : World} {os : List Oper} (C : World → Prop) (n : Nat) (plan : MPlan) (hq : ¬ LetsOut Q) (hm : P.follows .mixedOrders = true) (hB : mixB2 .any os.toArray n plan = true) (hC : C w.drew)
  (h : wpMix2 P os.toArray C Q (fun a' w' => wpListIn Fence.wide nF P os.toArray Q (os.drop n) a' w') plan a w.drew) : (Code.region id os.toArray true).wpIn Fence.wide nF P Q a w := by
 simp only [mixB2, Bool.and_eq_true, Bool.or_eq_true, decide_eq_true_eq] at hB
 obtain ⟨⟨⟨hsel, hn⟩, hsc⟩, hplan⟩ := hB
 have htw : ∀ listed i, i < n → HeadInv .any os.toArray n listed → listed.getD i true = false → ∀ t, n ≤ t → t ∉ Region.ready .any os.toArray listed := by
  intro listed i hi inv hu t ht hr
  rcases hsc with hsc | ⟨hs, hc⟩
  ·obtain ⟨_, ot, hot, _⟩ := mem_ready.1 hr
   have := (Array.getElem?_eq_some_iff.1 hot).1
   omega
  ·obtain ⟨_, ot, hot, _⟩ := mem_ready.1 hr
   have hlt := (Array.getElem?_eq_some_iff.1 hot).1
   exact tail_waits hs hc (by omega) inv (n - i) i rfl hi hu t ht hr
 have inv0 : HeadInv .any os.toArray n (Array.replicate os.toArray.size false) :=
  ⟨by simp, fun j oj _ hl => (by rw [getD_replicate_false] at hl; cases hl), fun t _ ht => getD_in (by simpa using ht) (getD_replicate_false _ _)⟩
 have H := wpAnyM_plan2 (md := .any) hsel htw n plan _ a w.drew hC inv0 hplan h
 refine wpIn_region_any hm ?_
 have := wpAnyIn_of_headM (Q := Q) (g := os.toArray.size - n) hq (fun listed a' w' _ hL => by
  have := wpAnyIn_of_seq (md := .any) (nF := nF) (os.drop n) n listed a' w' (fun j => by simp [List.getElem?_drop]) (by simpa using hL.1) hL.2
  simpa using this) _ _ _ _ hC H
 rw [show n + (os.toArray.size - n) = os.toArray.size by omega] at this
 exact this
end
end Go.Proofs.YtipohagcppfgiaaGreat
