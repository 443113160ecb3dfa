/- A region that draws its order, in the body of a round: walked as outside of it. No program in sight. -/
import Derived.Test.YtipohagcppfgiaaGreatRegion2
import Derived.Test.YtipohagcppfgiaaGreatRange
namespace Go.Proofs.YtipohagcppfgiaaGreat
open Go.RowKit
set_option linter.unusedVariables false
section
variable {P : Program} {ops : Array Oper} {Q : Exit → Act → World → Prop}
def noDefer (ops : Array Oper) : Bool := ops.toList.all fun o => match o.op with | .defer _ => false | _ => true
theorem noDefer_spec (h : noDefer ops = true) {i : Nat} {o : Oper} (ho : ops[i]? = some o) (c : Call) : o.op ≠ .defer c := by
 intro e
 have := List.all_eq_true.1 h o (List.mem_of_getElem? (by simpa using ho))
 rw [e] at this
 cases this
theorem rowsIn_round {l n : Nat} {row : String} {args : Array Value} {w : World} {R : Value → World → Prop} (h : Rows P row args w R) : RowsIn (Fence.wide.inRound l) n P row args w R :=
 fun c cs _ => let ⟨v, w', r, s⟩ := h c cs; ⟨v, w', r, stepsIn_wide.2 s⟩
theorem wpOpsIn_round {l n : Nat} (hq : ¬ LetsOut Q) (hnd : noDefer ops = true) : ∀ (is : List Nat) (a : Act) (w : World), wpOps P ops Q is a w → wpOpsIn (Fence.wide.inRound l) n P ops Q is a w
 | [], a, w, h => h
 | i :: rest, a, w, h => by
  unfold wpOps at h
  unfold wpOpsIn
  cases ho : ops[i]? with
  | none =>
   rw [ho] at h
   exact wpOpsIn_round hq hnd rest a w h
  | some o =>
   rw [ho] at h
   dsimp only at h ⊢
   split at h
   ·rename_i hw
    rw [if_pos hw]
    rcases h with h | ⟨_, h⟩
    ·refine ⟨fun f _ => trivial, ?_⟩
     rw [Fence.inRound_round, Oper.semAt_some _ _ _ (noDefer_spec hnd ho)]
     unfold Oper.wp at h
     generalize (execOp a.eval o).run P w = r at h ⊢
     cases r with
     | halt x w' => cases x <;> first | exact h | exact h.elim
     | ok x w' =>
      cases x with
      | value v => exact wpOpsIn_round hq hnd rest _ _ h
      | skip => exact wpOpsIn_round hq hnd rest _ _ h
      | defer d => exact wpOpsIn_round hq hnd rest _ _ h
      | enter f args =>
       refine ⟨fun hd => (by cases hd), (callsIn_wide.2 (Calls.mono h fun e w'' he => ?_) : CallsIn Fence.wide (n - 1) P f args w' _)⟩
       cases e with
       | returned v => exact wpOpsIn_round hq hnd rest _ _ he
       | panicked c => exact he
       | outgrown => exact he
      | row row args => exact ⟨fun hd => (by cases hd), rowsIn_round (Rows.mono h fun v w'' hv => wpOpsIn_round hq hnd rest _ _ hv)⟩
      | round l f t c d => exact h.elim
      | _ => exact h.elim
    ·exact (hq h).elim
   ·rename_i hw
    rw [if_neg hw]
    exact ⟨fun f _ => trivial, wpOpsIn_round hq hnd rest _ _ h⟩
/-- As rgm2, in the body of a round. -/
theorem wpIn_region_mix2 {l nF id : Nat} {a : Act} {w : World} {os : List Oper} (C : World → Prop) (n : Nat) (plan : MPlan) (hq : ¬ LetsOut Q) (hm : P.follows .mixedOrders = true) (hnd : noDefer os.toArray = true) (hB : mixB2 .any os.toArray n plan = true) (hC : C w.drew)
  (h : wpMix2 P os.toArray C Q (fun a' w' => wpList P os.toArray Q (os.drop n) a' w') plan a w.drew) : (Code.region id os.toArray true).wpIn (Fence.wide.inRound l) nF P Q a w := by
 simp only [mixB2, Bool.and_eq_true, Bool.or_eq_true, decide_eq_true_eq] at hB
 obtain ⟨⟨⟨hsel, hn⟩, hsc⟩, hplan⟩ := hB
 have htw : ∀ listed i, i < n → HeadInv .any os.toArray n listed → listed.getD i true = false → ∀ t, n ≤ t → t ∉ Region.ready .any os.toArray listed := by
  intro listed i hi inv hu t ht hr
  rcases hsc with hsc | ⟨hs, hc⟩
  ·obtain ⟨_, ot, hot, _⟩ := mem_ready.1 hr
   have := (Array.getElem?_eq_some_iff.1 hot).1
   omega
  ·obtain ⟨_, ot, hot, _⟩ := mem_ready.1 hr
   have hlt := (Array.getElem?_eq_some_iff.1 hot).1
   exact tail_waits hs hc (by omega) inv (n - i) i rfl hi hu t ht hr
 have inv0 : HeadInv .any os.toArray n (Array.replicate os.toArray.size false) :=
  ⟨by simp, fun j oj _ hl => (by rw [getD_replicate_false] at hl; cases hl), fun t _ ht => getD_in (by simpa using ht) (getD_replicate_false _ _)⟩
 have H := wpAnyM_plan2 (md := .any) hsel htw n plan _ a w.drew hC inv0 hplan h
 refine wpIn_region_draw fun t => ?_
 refine wpOpsIn_round hq hnd _ _ _ ?_
 simp only [Region.schedule, hm, Bool.true_or, if_true]
 refine wpAny_sound os.toArray.size t _ a _ ?_
 have := wpAny_of_headM (Q := Q) (g := os.toArray.size - n) (fun listed a' w' _ hL => by
  have := wpAny_of_seq (md := .any) (Q' := Q) (os.drop n) n listed a' w' (fun j => by simp [List.getElem?_drop]) (by simpa using hL.1) hL.2
  simpa using this) _ _ _ _ hC H
 rw [show n + (os.toArray.size - n) = os.toArray.size by omega] at this
 exact this
end
end Go.Proofs.YtipohagcppfgiaaGreat
