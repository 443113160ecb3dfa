/- A region that draws its order, in which two, or three, heavy operations may stand open at once: each order is walked. No program in sight. -/
import Derived.Test.YtipohagcppfgiaaGreatRegion2
namespace Go.Proofs.YtipohagcppfgiaaGreat
open Go.RowKit
inductive MPlan3
 | done
 | q (k : Nat) (rest : MPlan3)
 | h (k : Nat) (rest : MPlan3)
 | h2 (k : Nat) (r1 : MPlan3) (k' : Nat) (r2 : MPlan3)
 | h3 (k : Nat) (r1 : MPlan3) (k' : Nat) (r2 : MPlan3) (k2 : Nat) (r3 : MPlan3)
section
variable {P : Program} {ops : Array Oper} {md : Region.Mode} {C : World → Prop} {Q : Exit → Act → World → Prop}
/-- The operations in an order; where two are open: in each. -/
def wpMix3 (P : Program) (ops : Array Oper) (C : World → Prop) (Q : Exit → Act → World → Prop) (K : Act → World → Prop) : MPlan3 → Act → World → Prop
 | .done, a, w => K a w
 | .h k rest, a, w => ∃ o, ops.toList[k]? = some o ∧ ∀ R : Exit → Act → World → Prop, (∀ a' w', C w' → wpMix3 P ops C Q K rest a' w' → R .normal a' w') → (∀ a w, Q .outgrown a w → R .outgrown a w) → wpList P ops R [o] a w
 | .q k rest, a, w => ∃ o, ops.toList[k]? = some o ∧ noGo o = true ∧ wpQuiet P ops C (fun a' => wpMix3 P ops C Q K rest a' w) [o] a
 | .h2 k r1 k' r2, a, w =>
  (∃ o, ops.toList[k]? = some o ∧ ∀ R : Exit → Act → World → Prop, (∀ a' w', C w' → wpMix3 P ops C Q K r1 a' w' → R .normal a' w') → (∀ a w, Q .outgrown a w → R .outgrown a w) → wpList P ops R [o] a w) ∧
  (∃ o, ops.toList[k']? = some o ∧ ∀ R : Exit → Act → World → Prop, (∀ a' w', C w' → wpMix3 P ops C Q K r2 a' w' → R .normal a' w') → (∀ a w, Q .outgrown a w → R .outgrown a w) → wpList P ops R [o] a w)
 | .h3 k r1 k' r2 k2 r3, a, w =>
  (∃ o, ops.toList[k]? = some o ∧ ∀ R : Exit → Act → World → Prop, (∀ a' w', C w' → wpMix3 P ops C Q K r1 a' w' → R .normal a' w') → (∀ a w, Q .outgrown a w → R .outgrown a w) → wpList P ops R [o] a w) ∧
  (∃ o, ops.toList[k']? = some o ∧ ∀ R : Exit → Act → World → Prop, (∀ a' w', C w' → wpMix3 P ops C Q K r2 a' w' → R .normal a' w') → (∀ a w, Q .outgrown a w → R .outgrown a w) → wpList P ops R [o] a w) ∧
  (∃ o, ops.toList[k2]? = some o ∧ ∀ R : Exit → Act → World → Prop, (∀ a' w', C w' → wpMix3 P ops C Q K r3 a' w' → R .normal a' w') → (∀ a w, Q .outgrown a w → R .outgrown a w) → wpList P ops R [o] a w)
theorem m3q {K : Act → World → Prop} {k : Nat} {rest : MPlan3} {a : Act} {w : World} {o : Oper} (ho : ops.toList[k]? = some o) (hg : noGo o = true)
  (h : wpQuiet P ops C (fun a' => wpMix3 P ops C Q K rest a' w) [o] a) : wpMix3 P ops C Q K (.q k rest) a w := ⟨o, ho, hg, h⟩
theorem m3h {K : Act → World → Prop} {k : Nat} {rest : MPlan3} {a : Act} {w : World} {o : Oper} (ho : ops.toList[k]? = some o)
  (h : ∀ R : Exit → Act → World → Prop, (∀ a' w', C w' → wpMix3 P ops C Q K rest a' w' → R .normal a' w') → (∀ a w, Q .outgrown a w → R .outgrown a w) → wpList P ops R [o] a w) : wpMix3 P ops C Q K (.h k rest) a w := ⟨o, ho, h⟩
theorem wpMix3_h2 {K : Act → World → Prop} {k k' : Nat} {r1 r2 : MPlan3} {a : Act} {w : World} (h1 : wpMix3 P ops C Q K (.h k r1) a w) (h2 : wpMix3 P ops C Q K (.h k' r2) a w) : wpMix3 P ops C Q K (.h2 k r1 k' r2) a w := ⟨h1, h2⟩
theorem wpMix3_h3 {K : Act → World → Prop} {k k' k2 : Nat} {r1 r2 r3 : MPlan3} {a : Act} {w : World} (h1 : wpMix3 P ops C Q K (.h k r1) a w) (h2 : wpMix3 P ops C Q K (.h k' r2) a w) (h3 : wpMix3 P ops C Q K (.h k2 r3) a w) : wpMix3 P ops C Q K (.h3 k r1 k' r2 k2 r3) a w := ⟨h1, h2, h3⟩
theorem m3d {K : Act → World → Prop} {a : Act} {w : World} (h : K a w) : wpMix3 P ops C Q K .done a w := h
def planB3 (md : Region.Mode) (ops : Array Oper) (n : Nat) : Nat → MPlan3 → Array Bool → Bool
 | 0, .done, listed => Region.seqB md ops (ops.size - n) n listed
 | f + 1, .h k rest, listed => decide (k < n) && decide (Region.ready md ops listed = [k]) && planB3 md ops n f rest (listed.setIfInBounds k true)
 | f + 1, .q k rest, listed => decide (k < n) && (Region.ready md ops listed).contains k && Region.free md ops listed k && planB3 md ops n f rest (listed.setIfInBounds k true)
 | f + 1, .h2 k r1 k' r2, listed => decide (k < n) && decide (k' < n) && decide (Region.ready md ops listed = [k, k']) && planB3 md ops n f r1 (listed.setIfInBounds k true) && planB3 md ops n f r2 (listed.setIfInBounds k' true)
 | f + 1, .h3 k r1 k' r2 k2 r3, listed => decide (k < n) && decide (k' < n) && decide (k2 < n) && decide (Region.ready md ops listed = [k, k', k2]) && planB3 md ops n f r1 (listed.setIfInBounds k true) && planB3 md ops n f r2 (listed.setIfInBounds k' true) && planB3 md ops n f r3 (listed.setIfInBounds k2 true)
 | _, _, _ => false
theorem wpAnyM_plan3 {n : Nat} {K : Act → World → Prop} (hsel : Region.noSelect ops = true) (htw : ∀ listed i, i < n → HeadInv md ops n listed → listed.getD i true = false → ∀ t, n ≤ t → t ∉ Region.ready md ops listed) :
  ∀ (f : Nat) (plan : MPlan3) (listed : Array Bool) (a : Act) (w : World), C w → HeadInv md ops n listed → planB3 md ops n f plan listed = true → wpMix3 P ops C Q K plan a w →
  wpAnyM P md ops C Q n (fun listed' a' w' => Region.seqB md ops (ops.size - n) n listed' = true ∧ K a' w') f listed a w
 | 0, .done, listed, a, w, _, _, hB, h => ⟨by simpa [planB3] using hB, h⟩
 | 0, .q _ _, _, _, _, _, _, hB, _ => by simp [planB3] at hB
 | 0, .h _ _, _, _, _, _, _, hB, _ => by simp [planB3] at hB
 | 0, .h2 _ _ _ _, _, _, _, _, _, hB, _ => by simp [planB3] at hB
 | 0, .h3 _ _ _ _ _ _, _, _, _, _, _, hB, _ => by simp [planB3] at hB
 | f + 1, .done, _, _, _, _, _, hB, _ => by simp [planB3] at hB
 | f + 1, .h k rest, listed, a, w, hC, inv, hB, h => by
  simp only [planB3, Bool.and_eq_true, decide_eq_true_eq] at hB
  obtain ⟨⟨hk, hr⟩, hB⟩ := hB
  obtain ⟨o, ho, h⟩ := h
  refine ⟨by rw [hr]; simp, fun i hi => ?_⟩
  have hi' := hi
  rw [hr] at hi
  obtain rfl : i = k := by simpa using hi
  refine ⟨hk, ?_⟩
  exact wpOp_mono (fun a' w' h' => ⟨h'.1, wpAnyM_plan3 hsel htw f rest _ a' w' h'.1 (inv.set hi' hk) hB h'.2⟩) (wpOp_heavy ho h)
 | f + 1, .h2 k r1 k' r2, listed, a, w, hC, inv, hB, h => by
  simp only [planB3, Bool.and_eq_true, decide_eq_true_eq] at hB
  obtain ⟨⟨⟨⟨hk, hk'⟩, hr⟩, hB1⟩, hB2⟩ := hB
  obtain ⟨⟨o1, ho1, h1⟩, ⟨o2, ho2, h2⟩⟩ := h
  refine ⟨by rw [hr]; simp, fun i hi => ?_⟩
  have hi' := hi
  rw [hr] at hi
  have hi2 : i = k ∨ i = k' := by simpa using hi
  rcases hi2 with rfl | rfl
  ·refine ⟨hk, ?_⟩
   exact wpOp_mono (fun a' w' h' => ⟨h'.1, wpAnyM_plan3 hsel htw f r1 _ a' w' h'.1 (inv.set hi' hk) hB1 h'.2⟩) (wpOp_heavy ho1 h1)
  ·refine ⟨hk', ?_⟩
   exact wpOp_mono (fun a' w' h' => ⟨h'.1, wpAnyM_plan3 hsel htw f r2 _ a' w' h'.1 (inv.set hi' hk') hB2 h'.2⟩) (wpOp_heavy ho2 h2)
 | f + 1, .h3 k r1 k' r2 k2 r3, listed, a, w, hC, inv, hB, h => by
  simp only [planB3, Bool.and_eq_true, decide_eq_true_eq] at hB
  obtain ⟨⟨⟨⟨⟨⟨hk, hk'⟩, hk2⟩, hr⟩, hB1⟩, hB2⟩, hB3⟩ := hB
  obtain ⟨⟨o1, ho1, h1⟩, ⟨o2, ho2, h2⟩, ⟨o3, ho3, h3⟩⟩ := h
  refine ⟨by rw [hr]; simp, fun i hi => ?_⟩
  have hi' := hi
  rw [hr] at hi
  have hi2 : i = k ∨ i = k' ∨ i = k2 := by simpa using hi
  rcases hi2 with rfl | rfl | rfl
  ·refine ⟨hk, ?_⟩
   exact wpOp_mono (fun a' w' h' => ⟨h'.1, wpAnyM_plan3 hsel htw f r1 _ a' w' h'.1 (inv.set hi' hk) hB1 h'.2⟩) (wpOp_heavy ho1 h1)
  ·refine ⟨hk', ?_⟩
   exact wpOp_mono (fun a' w' h' => ⟨h'.1, wpAnyM_plan3 hsel htw f r2 _ a' w' h'.1 (inv.set hi' hk') hB2 h'.2⟩) (wpOp_heavy ho2 h2)
  ·refine ⟨hk2, ?_⟩
   exact wpOp_mono (fun a' w' h' => ⟨h'.1, wpAnyM_plan3 hsel htw f r3 _ a' w' h'.1 (inv.set hi' hk2) hB3 h'.2⟩) (wpOp_heavy ho3 h3)
 | f + 1, .q k rest, listed, a, w, hC, inv, hB, h => by
  simp only [planB3, Bool.and_eq_true, decide_eq_true_eq] at hB
  obtain ⟨⟨⟨hk, hr⟩, hf⟩, hB⟩ := hB
  obtain ⟨o, ho, hg, h⟩ := h
  have ho' : ops[k]? = some o := by simpa using ho
  have hr' : k ∈ Region.ready md ops listed := by simpa using hr
  obtain ⟨v, hy, hK⟩ := stillIn_of_quiet hg h
  exact wpAnyM_first ho' (Region.noSelect_spec hsel) hk (fun listed inv hu => htw listed k hk inv hu) (fun listed' a' w' hL => seqB_ready hL.1) f listed a w hC inv (Region.free_spec ho' hf) hr' hy
   (wpAnyM_plan3 hsel htw f rest _ _ w hC (inv.set hr' hk) hB hK)
/-- The order is one that the region's edges allow; number n and what stands behind come last. -/
def mixB3 (md : Region.Mode) (ops : Array Oper) (n : Nat) (plan : MPlan3) : Bool :=
 Region.noSelect ops && decide (n ≤ ops.size) && (decide (n = ops.size) || (Region.sinkB md ops n && Region.chainB md ops n)) && planB3 md ops n n plan (Array.replicate ops.size false)
/-- As wp_region_mix, where two heavy operations may be open at once. -/
theorem rgm3 {id : Nat} {a : Act} {w : World} {l : List Oper} (C : World → Prop) (n : Nat) (plan : MPlan3) (hm : P.follows .mixedOrders = true) (hB : mixB3 .any l.toArray n plan = true) (hC : C w.drew)
  (h : wpMix3 P l.toArray C Q (fun a' w' => wpList P l.toArray Q (l.drop n) a' w') plan a w.drew) : (Code.region id l.toArray true).wp P Q a w := by
 simp only [mixB3, Bool.and_eq_true, Bool.or_eq_true, decide_eq_true_eq] at hB
 obtain ⟨⟨⟨hsel, hn⟩, hsc⟩, hplan⟩ := hB
 have htw : ∀ listed i, i < n → HeadInv .any l.toArray n listed → listed.getD i true = false → ∀ t, n ≤ t → t ∉ Region.ready .any l.toArray listed := by
  intro listed i hi inv hu t ht hr
  rcases hsc with hsc | ⟨hs, hc⟩
  ·obtain ⟨_, ot, hot, _⟩ := mem_ready.1 hr
   have := (Array.getElem?_eq_some_iff.1 hot).1
   omega
  ·obtain ⟨_, ot, hot, _⟩ := mem_ready.1 hr
   have hlt := (Array.getElem?_eq_some_iff.1 hot).1
   exact tail_waits hs hc (by omega) inv (n - i) i rfl hi hu t ht hr
 have inv0 : HeadInv .any l.toArray n (Array.replicate l.toArray.size false) :=
  ⟨by simp, fun j oj _ hl => (by rw [getD_replicate_false] at hl; cases hl), fun t _ ht => getD_in (by simpa using ht) (getD_replicate_false _ _)⟩
 have H := wpAnyM_plan3 (md := .any) hsel htw n plan _ a w.drew hC inv0 hplan h
 refine wp_region_any hm ?_
 have := wpAny_of_headM (Q := Q) (g := l.toArray.size - n) (fun listed a' w' _ hL => by
  have := wpAny_of_seq (md := .any) (Q' := Q) (l.drop n) n listed a' w' (fun j => by simp [List.getElem?_drop]) (by simpa using hL.1) hL.2
  simpa using this) _ _ _ _ hC H
 rw [show n + (l.toArray.size - n) = l.toArray.size by omega] at this
 exact this
end
end Go.Proofs.YtipohagcppfgiaaGreat
