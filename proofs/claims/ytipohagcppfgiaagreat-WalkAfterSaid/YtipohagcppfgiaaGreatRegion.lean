/- A region that draws its order, with operations that write, make memory or call: the quiet ones in whatever order, the others one behind the other. No program in sight. -/
import Derived.StillTail
import Derived.Test.YtipohagcppfgiaaGreatKit
namespace Go.Proofs.YtipohagcppfgiaaGreat
open Go.RowKit
section
variable {P : Program} {ops : Array Oper} {md : Region.Mode} {C : World → Prop} {Q : Exit → Act → World → Prop}
/-- An operation that enters no function. -/
def noGo (o : Oper) : Bool := match o.op with
 | .move _ | .assign _ | .pick _ _ _ | .load _ _ | .nilCheck _ | .binOp _ _ _ _ _ | .unOp _ _ _ | .convert _ _ _ | .slice _ _ _ _ _ | .fieldAddr _ _ _ | .field _ _ _ | .indexAddr _ _ _ | .index _ _ _ | .build _ _ | .sliceToArrayPointer _ _ | .makeInterface _ _ | .makeFunc _ _ _ | .lookup _ _ _ _ | .extract _ _ | .typeAssert _ _ _ _ => true
 | .call c => match c.callee with
  | .builtin .len | .builtin .cap | .builtin .min | .builtin .max => true
  | _ => false
 | _ => false
theorem never_bind {α : Type} (s : Sem α) (k : α → Sem Next) (f : FuncId) (args : Array Value) (w w' : World) (h : ∀ a w, (k a).run P w ≠ .ok (.enter f args) w') : (s >>= k).run P w ≠ .ok (.enter f args) w' := by
 rw [Sem.run_bind]
 cases s.run P w with
 | ok a w1 => exact h a w1
 | halt x w1 => simp [Result.andThen]
theorem never_v (s : Sem Value) (w : World) (f : FuncId) (args : Array Value) (w' : World) : (s >>= fun v => (pure (.value v) : Sem Next)).run P w ≠ .ok (.enter f args) w' :=
 never_bind s _ f args w w' fun a w => by simp
theorem noGo_enter {o : Oper} {ρ : Operand → Value} {w w' : World} {f : FuncId} {args : Array Value} (h : noGo o = true) : (execOp ρ o).run P w ≠ .ok (.enter f args) w' := by
 unfold noGo at h
 unfold execOp
 cases ho : o.op <;> simp only [ho] at h ⊢ <;> first | exact absurd h (by decide) | exact never_v _ _ _ _ _ | skip
 case move => simp
 case assign => simp
 case pick c a b => exact never_bind _ _ _ _ _ _ fun a w => by simp
 case nilCheck x =>
  split
  ·simp [go_sem]
  ·simp [go_sem]
  ·simp [go_sem]
  ·split
   ·simp [go_sem]
   ·refine never_bind _ _ _ _ _ _ fun a w => never_bind _ _ _ _ _ _ fun b w => ?_
    split
    ·exact never_bind _ _ _ _ _ _ fun b w => by simp
    ·simp
   ·simp
  ·simp
 case call c =>
  unfold resolve
  split at h <;> rename_i hc <;> first | (cases h; done) | skip
  all_goals simp only [hc, invoke, builtin]
  ·exact never_v (Builtin.len_ c.argTypes o.type (c.args.map ρ)) _ _ _ _
  ·exact never_v (Builtin.cap_ c.argTypes o.type (c.args.map ρ)) _ _ _ _
  ·exact never_v (Builtin.min_ c.argTypes o.type (c.args.map ρ)) _ _ _ _
  ·exact never_v (Builtin.max_ c.argTypes o.type (c.args.map ρ)) _ _ _ _
/-- In every world of the class the operation leaves this value, and the world as it is. -/
def StillIn (P : Program) (ops : Array Oper) (C : World → Prop) (o : Oper) (v : Value) (a : Act) : Prop :=
 (Region.wanted o (yielded ops a.tmps) = true ∧ ∀ w, C w → (execOp a.eval o).run P w = .ok (.value v) w ∨ ((execOp a.eval o).run P w = .ok .skip w ∧ v = undef)) ∨
 (Region.wanted o (yielded ops a.tmps) = false ∧ v = undef)
theorem stillIn_of_quiet {o : Oper} {a : Act} {K : Act → Prop} (hg : noGo o = true) (h : wpQuiet P ops C K [o] a) : ∃ v, StillIn P ops C o v a ∧ K (a.put o.dst v) := by
 unfold wpQuiet at h
 by_cases hw : Region.wanted o (yielded ops a.tmps) = true
 ·rw [if_pos hw] at h
  obtain ⟨v, h1, h2⟩ := h
  refine ⟨v, .inl ⟨hw, fun w hC => ?_⟩, h2⟩
  have h3 := h1 w hC
  unfold Oper.quietAt at h3
  have h4 := fun f args w' => noGo_enter (P := P) (ρ := a.eval) (w := w) (w' := w') (f := f) (args := args) hg
  generalize (execOp a.eval o).run P w = r at *
  cases r with
  | ok n w' =>
   cases n <;> simp only [Oper.quietUpon] at h3
   case value u => obtain ⟨rfl, rfl⟩ := h3; exact .inl rfl
   case skip => obtain ⟨rfl, rfl⟩ := h3; exact .inr ⟨rfl, rfl⟩
   case enter f args => exact absurd rfl (h4 f args w')
  | halt x w' => simp only [Oper.quietUpon] at h3
 ·rw [if_neg hw] at h
  exact ⟨undef, .inr ⟨by simpa using hw, rfl⟩, h⟩
theorem StillIn.of_same {o : Oper} {v : Value} {a a' : Act} (hy : StillIn P ops C o v a) (he : execOp a'.eval o = execOp a.eval o)
  (hw : Region.wanted o (yielded ops a'.tmps) = Region.wanted o (yielded ops a.tmps)) : StillIn P ops C o v a' := by
 unfold StillIn at *
 rw [he, hw]
 exact hy
/-- Where a region's operation goes on; what else it may come to: to have no room. -/
def outQ (K : Act → World → Prop) (Q : Exit → Act → World → Prop) : Exit → Act → World → Prop
 | .normal, a, w => K a w
 | .outgrown, a, w => Q .outgrown a w
 | _, _, _ => False
theorem StillIn.wpOp {i : Nat} {o : Oper} {v : Value} {a : Act} {w : World} {Q' : Exit → Act → World → Prop} (hi : ops[i]? = some o) (hC : C w) (hy : StillIn P ops C o v a) {K : Act → World → Prop} (h : K (a.put o.dst v) w) : wpOp P ops Q' i K a w := by
 unfold Go.wpOp
 simp only [hi]
 rcases hy with ⟨hw, hv⟩ | ⟨hw, rfl⟩
 ·rw [if_pos hw]
  left
  unfold Oper.wp
  rcases hv w hC with e | ⟨e, rfl⟩
  ·rw [e]; exact h
  ·rw [e]; exact h
 ·rw [if_neg (by rw [hw]; exact Bool.false_ne_true)]; exact h
/-- One operation oj, apart from oi: whether oi's value is already there makes no difference to it, and it makes none to oi. -/
theorem wpOp_put {j : Nat} {oi oj : Oper} {v : Value} (hj : ops[j]? = some oj) (hap : oi.apart ops oj = true)
  (hsi : ∀ cs b, oi.op ≠ .select cs b) (hsj : ∀ cs b, oj.op ≠ .select cs b) {K K' : Act → World → Prop} {R : Act → World → Prop} {a : Act} {w : World}
  (hy : StillIn P ops C oi v a) (hK : ∀ a' w', StillIn P ops C oi v a' → K (a'.put oi.dst v) w' → K' a' w') (h : wpOp P ops (outQ R Q) j K (a.put oi.dst v) w) :
  wpOp P ops (outQ R Q) j K' a w := by
 obtain ⟨h1, h2, h3⟩ := Oper.apart_spec hap
 have keep : ∀ u, StillIn P ops C oi v (a.put oj.dst u) := fun u =>
  hy.of_same (execOp_put oi hsi a oj.dst u h3) (wanted_put oi a oj.dst u h3)
 have go : ∀ u w', K ((a.put oi.dst v).put oj.dst u) w' → K' (a.put oj.dst u) w' := fun u w' h => hK _ _ (keep u) (by rw [← Act.put_comm a v u h2]; exact h)
 unfold wpOp at *
 simp only [hj] at *
 rw [wanted_put oj a oi.dst v h1] at h
 split
 ·rename_i hw
  simp only [hw, if_true] at h
  rcases h with h | ⟨h, hl⟩
  ·left
   unfold Oper.wp at *
   rw [execOp_put oj hsj a oi.dst v h1] at h
   generalize (execOp a.eval oj).run P w = r at *
   cases r with
   | ok n w' =>
    cases n <;> simp only [Oper.upon] at h ⊢
    case value u => exact go _ _ h
    case skip => exact go _ _ h
    case enter f args =>
     refine Calls.mono h fun e w'' he => ?_
     cases e with
     | returned u => exact go _ _ he
     | panicked c => exact he
     | outgrown => exact he
    case row r args => exact Rows.mono h fun u w'' he => go _ _ he
    case defer d =>
     have ev : ∀ (b : Act) (ds : List Deferred), ({ b with defers := ds } : Act).eval = b.eval := fun b ds => by funext x; cases x <;> rfl
     have hb : StillIn P ops C oi v { a with defers := d :: a.defers } := hy.of_same (by rw [ev]) rfl
     refine hK _ _ (hb.of_same (execOp_put oi hsi _ oj.dst _ h3) (wanted_put oi _ oj.dst _ h3)) ?_
     rw [← Act.put_comm _ v undef h2]
     have e : ({ a with defers := d :: a.defers } : Act).put oi.dst v = { a.put oi.dst v with defers := d :: (a.put oi.dst v).defers } := by cases hd : oi.dst <;> rfl
     rw [e]
     exact h
   | halt x w' => cases x <;> simp only [Oper.upon] at h ⊢ <;> exact h
  ·right
   refine ⟨?_, hl⟩
   unfold Oper.asks at *
   rwa [execOp_put oj hsj a oi.dst v h1] at h
 ·rename_i hw
  simp only [hw] at h
  exact go _ _ h
/-- Whatever order is picked for the operations ahead of number n: each step leaves a world of the class. -/
def wpAnyM (P : Program) (md : Region.Mode) (ops : Array Oper) (C : World → Prop) (Q : Exit → Act → World → Prop) (n : Nat) (L : Array Bool → Act → World → Prop) : Nat → Array Bool → Act → World → Prop
 | 0, listed, a, w => L listed a w
 | f + 1, listed, a, w =>
  Region.ready md ops listed ≠ [] ∧ ∀ i ∈ Region.ready md ops listed, i < n ∧ wpOp P ops (outQ (fun _ _ => False) Q) i (fun a' w' => C w' ∧ wpAnyM P md ops C Q n L f (listed.setIfInBounds i true) a' w') a w
theorem wpOp_exit {i : Nat} {K : Act → World → Prop} {Q₁ Q₂ : Exit → Act → World → Prop} {a : Act} {w : World} (hp : ∀ c a w, Q₁ (.panic c) a w → Q₂ (.panic c) a w) (hl : LetsOut Q₁ → LetsOut Q₂) (h : wpOp P ops Q₁ i K a w) : wpOp P ops Q₂ i K a w := by
 unfold wpOp at *
 split
 ·rename_i ho; simp only [ho] at h; exact h
 ·rename_i o ho
  simp only [ho] at h
  split
  ·rename_i hw
   simp only [hw, if_true] at h
   refine h.imp (fun h => ?_) fun h => ⟨h.1, hl h.2⟩
   unfold Oper.wp at *
   generalize (execOp a.eval o).run P w = r at *
   cases r with
   | ok n w' =>
    cases n <;> simp only [Oper.upon] at h ⊢ <;> try exact h
    case enter f args =>
     refine Calls.mono h fun e w'' he => ?_
     cases e with
     | returned u => exact he
     | panicked c => exact hp _ _ _ he
     | outgrown => exact hl he
   | halt x w' => cases x <;> simp only [Oper.upon] at h ⊢; exact hp _ _ _ h
  ·rename_i hw; simp only [hw] at h; exact h
theorem wpAny_of_headM {n g : Nat} {L : Array Bool → Act → World → Prop} (hL : ∀ listed a w, C w → L listed a w → wpAny P md ops Q g listed a w) :
  ∀ (f : Nat) (listed : Array Bool) (a : Act) (w : World), C w → wpAnyM P md ops C Q n L f listed a w → wpAny P md ops Q (f + g) listed a w
 | 0, listed, a, w, hC, h => by rw [Nat.zero_add]; exact hL _ _ _ hC h
 | f + 1, listed, a, w, hC, h => by
  rw [show f + 1 + g = (f + g) + 1 by omega]
  exact ⟨fun h0 => absurd h0 h.1, fun i hi => wpOp_exit (Q₁ := outQ (fun _ _ => False) Q) (fun _ _ _ (h : False) => h.elim) (fun ⟨a, w, h⟩ => ⟨a, w, h⟩) (wpOp_mono (fun a' w' h' => wpAny_of_headM hL f _ a' w' h'.1 h'.2) (h.2 i hi).2)⟩
theorem wpAnyM_first {n i : Nat} {oi : Oper} {v : Value} {L : Array Bool → Act → World → Prop} (hi : ops[i]? = some oi) (hsel : ∀ (j : Nat) (o : Oper) cs b, ops[j]? = some o → o.op ≠ .select cs b)
  (hin : i < n) (htw : ∀ listed, HeadInv md ops n listed → listed.getD i true = false → ∀ t, n ≤ t → t ∉ Region.ready md ops listed)
  (hdone : ∀ listed a w, L listed a w → ∀ j ∈ Region.ready md ops listed, n ≤ j) :
  ∀ (f : Nat) (listed : Array Bool) (a : Act) (w : World), C w → HeadInv md ops n listed →
   (∀ j oj, ops[j]? = some oj → j ≠ i → listed.getD j true = false → (∀ e ∈ oj.after, Region.binds md e = true → e.on ≠ i) → oi.apart ops oj = true) →
   i ∈ Region.ready md ops listed → StillIn P ops C oi v a →
   wpAnyM P md ops C Q n L f (listed.setIfInBounds i true) (a.put oi.dst v) w → wpAnyM P md ops C Q n L (f + 1) listed a w := by
 intro f
 induction f with
 | zero =>
  intro listed a w hC inv _ hr hy H
  have hun := (mem_ready.1 hr).1
  refine ⟨fun h => (by rw [h] at hr; cases hr), fun j hj => ?_⟩
  have hjn : j < n := by
   rcases Nat.lt_or_ge j n with h | h
   ·exact h
   ·exact absurd hj (htw listed inv hun j h)
  refine ⟨hjn, ?_⟩
  by_cases hji : j = i
  ·subst hji; exact hy.wpOp hi hC ⟨hC, H⟩
  ·have := hdone _ _ _ H j (ready_mono hj hji)
   omega
 | succ f ih =>
  intro listed a w hC inv hfree hr hy H
  have hun := (mem_ready.1 hr).1
  refine ⟨fun h => (by rw [h] at hr; cases hr), fun j hj => ?_⟩
  have hjn : j < n := by
   rcases Nat.lt_or_ge j n with h | h
   ·exact h
   ·exact absurd hj (htw listed inv hun j h)
  refine ⟨hjn, ?_⟩
  by_cases hji : j = i
  ·subst hji; exact hy.wpOp hi hC ⟨hC, H⟩
  ·have h1 := (H.2 j (ready_mono hj hji)).2
   obtain ⟨hjun, oj, hoj, hall⟩ := mem_ready.1 hj
   have hnot : ∀ e ∈ oj.after, Region.binds md e = true → e.on ≠ i := fun e he hb heq => by
    have h1 := hall e he hb
    rw [heq, getD_both hun] at h1
    cases h1
   have hfree' : ∀ k ok, ops[k]? = some ok → k ≠ i → (listed.setIfInBounds j true).getD k true = false →
     (∀ e ∈ ok.after, Region.binds md e = true → e.on ≠ i) → oi.apart ops ok = true := fun k ok hk hki hun hno => by
    refine hfree k ok hk hki ?_ hno
    by_cases hjk : j = k
    ·subst hjk; exact hjun
    ·rw [getD_set_ne true hjk] at hun; exact hun
   refine wpOp_put hoj (hfree j oj hoj hji hjun hnot) (fun cs b => hsel i oi cs b hi) (fun cs b => hsel j oj cs b hoj) hy (fun a' w' hy' h3 => ?_) h1
   refine ⟨h3.1, ih (listed.setIfInBounds j true) a' w' h3.1 (inv.set hj hjn) hfree' (ready_mono hr (Ne.symm hji)) hy' ?_⟩
   rw [Array.setIfInBounds_comm _ _ hji]
   exact h3.2
/-- The operations in a given order: the quiet ones (false), and those that write, make memory or call (true). -/
def wpMix (P : Program) (ops : Array Oper) (C : World → Prop) (Q : Exit → Act → World → Prop) (K : Act → World → Prop) : List (Nat × Bool) → Act → World → Prop
 | [], a, w => K a w
 | (k, true) :: rest, a, w => ∃ o, ops.toList[k]? = some o ∧ ∀ R : Exit → Act → World → Prop, (∀ a' w', C w' → wpMix P ops C Q K rest a' w' → R .normal a' w') → (∀ a w, Q .outgrown a w → R .outgrown a w) → wpList P ops R [o] a w
 | (k, false) :: rest, a, w => ∃ o, ops.toList[k]? = some o ∧ noGo o = true ∧ wpQuiet P ops C (fun a' => wpMix P ops C Q K rest a' w) [o] a
def planB (md : Region.Mode) (ops : Array Oper) (n : Nat) : List (Nat × Bool) → Array Bool → Bool
 | [], listed => Region.seqB md ops (ops.size - n) n listed
 | (k, true) :: rest, listed => decide (k < n) && decide (Region.ready md ops listed = [k]) && planB md ops n rest (listed.setIfInBounds k true)
 | (k, false) :: rest, listed => decide (k < n) && (Region.ready md ops listed).contains k && Region.free md ops listed k && planB md ops n rest (listed.setIfInBounds k true)
theorem wpAnyM_plan {n : Nat} {K : Act → World → Prop} (hsel : Region.noSelect ops = true) (htw : ∀ listed i, i < n → HeadInv md ops n listed → listed.getD i true = false → ∀ t, n ≤ t → t ∉ Region.ready md ops listed) :
  ∀ (plan : List (Nat × Bool)) (listed : Array Bool) (a : Act) (w : World), C w → HeadInv md ops n listed → planB md ops n plan listed = true → wpMix P ops C Q K plan a w →
  wpAnyM P md ops C Q n (fun listed' a' w' => Region.seqB md ops (ops.size - n) n listed' = true ∧ K a' w') plan.length listed a w
 | [], listed, a, w, _, _, hB, h => ⟨hB, h⟩
 | (k, true) :: rest, listed, a, w, hC, inv, hB, h => by
  simp only [planB, Bool.and_eq_true, decide_eq_true_eq] at hB
  obtain ⟨⟨hk, hr⟩, hB⟩ := hB
  obtain ⟨o, ho, h⟩ := h
  refine ⟨by rw [hr]; simp, fun i hi => ?_⟩
  have hi' := hi
  rw [hr] at hi
  obtain rfl : i = k := by simpa using hi
  refine ⟨hk, ?_⟩
  have h1 := h (outQ (fun a' w' => C w' ∧ wpMix P ops C Q K rest a' w') Q) (fun a' w' hC h => ⟨hC, h⟩) (fun a w h => h)
  have h2 : wpOp P ops (outQ (fun a' w' => C w' ∧ wpMix P ops C Q K rest a' w') Q) i (fun a' w' => C w' ∧ wpMix P ops C Q K rest a' w') a w := by
   unfold wpOp
   have ho' : ops[i]? = some o := by simpa using ho
   simp only [ho']
   exact h1
  exact wpOp_mono (fun a' w' h' => ⟨h'.1, wpAnyM_plan hsel htw rest _ a' w' h'.1 (inv.set hi' hk) hB h'.2⟩) (wpOp_exit (Q₁ := outQ (fun a' w' => C w' ∧ wpMix P ops C Q K rest a' w') Q) (Q₂ := outQ (fun _ _ => False) Q) (fun _ _ _ h => h) (fun ⟨a, w, h⟩ => ⟨a, w, h⟩) h2)
 | (k, false) :: rest, listed, a, w, hC, inv, hB, h => by
  simp only [planB, Bool.and_eq_true, decide_eq_true_eq] at hB
  obtain ⟨⟨⟨hk, hr⟩, hf⟩, hB⟩ := hB
  obtain ⟨o, ho, hg, h⟩ := h
  have ho' : ops[k]? = some o := by simpa using ho
  have hr' : k ∈ Region.ready md ops listed := by simpa using hr
  obtain ⟨v, hy, hK⟩ := stillIn_of_quiet hg h
  exact wpAnyM_first ho' (Region.noSelect_spec hsel) hk (fun listed inv hu => htw listed k hk inv hu) (fun listed' a' w' hL => seqB_ready hL.1) rest.length listed a w hC inv (Region.free_spec ho' hf) hr' hy
   (wpAnyM_plan hsel htw rest _ _ w hC (inv.set hr' hk) hB hK)
/-- The order is one that the region's edges allow; number n and what stands behind come last. -/
def mixB (md : Region.Mode) (ops : Array Oper) (n : Nat) (plan : List (Nat × Bool)) : Bool :=
 Region.noSelect ops && decide (plan.length = n) && decide (n ≤ ops.size) && (decide (n = ops.size) || (Region.sinkB md ops n && Region.chainB md ops n)) && planB md ops n plan (Array.replicate ops.size false)
/-- ONE WALK SERVES EVERY ORDER: the quiet operations of the region yield one value in every world of the class C; the others are carried out in one order that is forced, each leaves a world of the class; from number n on they come last. -/
theorem wp_region_mix {id : Nat} {a : Act} {w : World} {l : List Oper} (C : World → Prop) (n : Nat) (plan : List (Nat × Bool)) (hm : P.follows .mixedOrders = true) (hB : mixB .any l.toArray n plan = true) (hC : C w.drew)
  (h : wpMix P l.toArray C Q (fun a' w' => wpList P l.toArray Q (l.drop n) a' w') plan a w.drew) : (Code.region id l.toArray true).wp P Q a w := by
 simp only [mixB, Bool.and_eq_true, Bool.or_eq_true, decide_eq_true_eq] at hB
 obtain ⟨⟨⟨⟨hsel, hpl⟩, hn⟩, hsc⟩, hplan⟩ := hB
 have htw : ∀ listed i, i < n → HeadInv .any l.toArray n listed → listed.getD i true = false → ∀ t, n ≤ t → t ∉ Region.ready .any l.toArray listed := by
  intro listed i hi inv hu t ht hr
  rcases hsc with hsc | ⟨hs, hc⟩
  ·obtain ⟨_, ot, hot, _⟩ := mem_ready.1 hr
   have := (Array.getElem?_eq_some_iff.1 hot).1
   omega
  ·obtain ⟨_, ot, hot, _⟩ := mem_ready.1 hr
   have hlt := (Array.getElem?_eq_some_iff.1 hot).1
   exact tail_waits hs hc (by omega) inv (n - i) i rfl hi hu t ht hr
 have inv0 : HeadInv .any l.toArray n (Array.replicate l.toArray.size false) :=
  ⟨by simp, fun j oj _ hl => (by rw [getD_replicate_false] at hl; cases hl), fun t _ ht => getD_in (by simpa using ht) (getD_replicate_false _ _)⟩
 have H := wpAnyM_plan (md := .any) hsel htw plan _ a w.drew hC inv0 hplan h
 refine wp_region_any hm ?_
 have := wpAny_of_headM (Q := Q) (g := l.toArray.size - n) (fun listed a' w' _ hL => by
  have := wpAny_of_seq (md := .any) (Q' := Q) (l.drop n) n listed a' w' (fun j => by simp [List.getElem?_drop]) (by simpa using hL.1) hL.2
  simpa using this) _ _ _ _ hC H
 rw [hpl, show n + (l.toArray.size - n) = l.toArray.size by omega] at this
 exact this
end
end Go.Proofs.YtipohagcppfgiaaGreat
