/- Several texts in one. -/
import Derived.Test.YtahicokokfcieaaDoorTgAa
import Derived.Laws.AppendOwn
import Derived.Laws.OwnMore
import Derived.Laws.CopyOwn
import Derived.Deep.LoopGhost
import Derived.Deep.DeepCutAuto
import Derived.Deep.CutBlock
import Derived.Test.YtahicokokfcieaaDoorProg
namespace Go.Proofs.YtahicokokfcieaaDoor
open Go.RowKit

inductive MPlan3
  | done
  | q (k : Nat) (rest : MPlan3)
  | h (k : Nat) (rest : MPlan3)
  | h2 (k : Nat) (r1 : MPlan3) (k' : Nat) (r2 : MPlan3)
  | h3 (k : Nat) (r1 : MPlan3) (k' : Nat) (r2 : MPlan3) (k2 : Nat) (r3 : MPlan3)

section
variable {P : Program} {ops : Array Oper} {md : Region.Mode} {C : World → Prop} {Q : Exit → Act → World → Prop}

/-- The operations in an order; where two are open: in each. -/
def wpMix3 (P : Program) (ops : Array Oper) (C : World → Prop) (Q : Exit → Act → World → Prop) (K : Act → World → Prop) : MPlan3 → Act → World → Prop
  | .done, a, w => K a w
  | .h k rest, a, w => ∃ o, ops.toList[k]? = some o ∧ ∀ R : Exit → Act → World → Prop, (∀ a' w', C w' → wpMix3 P ops C Q K rest a' w' → R .normal a' w') → (∀ a w, Q .outgrown a w → R .outgrown a w) → wpList P ops R [o] a w
  | .q k rest, a, w => ∃ o, ops.toList[k]? = some o ∧ noGo o = true ∧ wpQuiet P ops C (fun a' => wpMix3 P ops C Q K rest a' w) [o] a
  | .h2 k r1 k' r2, a, w =>
    (∃ o, ops.toList[k]? = some o ∧ ∀ R : Exit → Act → World → Prop, (∀ a' w', C w' → wpMix3 P ops C Q K r1 a' w' → R .normal a' w') → (∀ a w, Q .outgrown a w → R .outgrown a w) → wpList P ops R [o] a w) ∧
    (∃ o, ops.toList[k']? = some o ∧ ∀ R : Exit → Act → World → Prop, (∀ a' w', C w' → wpMix3 P ops C Q K r2 a' w' → R .normal a' w') → (∀ a w, Q .outgrown a w → R .outgrown a w) → wpList P ops R [o] a w)
  | .h3 k r1 k' r2 k2 r3, a, w =>
    (∃ o, ops.toList[k]? = some o ∧ ∀ R : Exit → Act → World → Prop, (∀ a' w', C w' → wpMix3 P ops C Q K r1 a' w' → R .normal a' w') → (∀ a w, Q .outgrown a w → R .outgrown a w) → wpList P ops R [o] a w) ∧
    (∃ o, ops.toList[k']? = some o ∧ ∀ R : Exit → Act → World → Prop, (∀ a' w', C w' → wpMix3 P ops C Q K r2 a' w' → R .normal a' w') → (∀ a w, Q .outgrown a w → R .outgrown a w) → wpList P ops R [o] a w) ∧
    (∃ o, ops.toList[k2]? = some o ∧ ∀ R : Exit → Act → World → Prop, (∀ a' w', C w' → wpMix3 P ops C Q K r3 a' w' → R .normal a' w') → (∀ a w, Q .outgrown a w → R .outgrown a w) → wpList P ops R [o] a w)

theorem wpMix3_q {K : Act → World → Prop} {k : Nat} {rest : MPlan3} {a : Act} {w : World} {o : Oper} (ho : ops.toList[k]? = some o) (hg : noGo o = true)
    (h : wpQuiet P ops C (fun a' => wpMix3 P ops C Q K rest a' w) [o] a) : wpMix3 P ops C Q K (.q k rest) a w := ⟨o, ho, hg, h⟩
theorem wpMix3_h {K : Act → World → Prop} {k : Nat} {rest : MPlan3} {a : Act} {w : World} {o : Oper} (ho : ops.toList[k]? = some o)
    (h : ∀ R : Exit → Act → World → Prop, (∀ a' w', C w' → wpMix3 P ops C Q K rest a' w' → R .normal a' w') → (∀ a w, Q .outgrown a w → R .outgrown a w) → wpList P ops R [o] a w) : wpMix3 P ops C Q K (.h k rest) a w := ⟨o, ho, h⟩
theorem wpMix3_h2 {K : Act → World → Prop} {k k' : Nat} {r1 r2 : MPlan3} {a : Act} {w : World} (h1 : wpMix3 P ops C Q K (.h k r1) a w) (h2 : wpMix3 P ops C Q K (.h k' r2) a w) : wpMix3 P ops C Q K (.h2 k r1 k' r2) a w := ⟨h1, h2⟩
theorem wpMix3_h3 {K : Act → World → Prop} {k k' k2 : Nat} {r1 r2 r3 : MPlan3} {a : Act} {w : World} (h1 : wpMix3 P ops C Q K (.h k r1) a w) (h2 : wpMix3 P ops C Q K (.h k' r2) a w) (h3 : wpMix3 P ops C Q K (.h k2 r3) a w) : wpMix3 P ops C Q K (.h3 k r1 k' r2 k2 r3) a w := ⟨h1, h2, h3⟩
theorem wpMix3_done {K : Act → World → Prop} {a : Act} {w : World} (h : K a w) : wpMix3 P ops C Q K .done a w := h

def planB3 (md : Region.Mode) (ops : Array Oper) (n : Nat) : Nat → MPlan3 → Array Bool → Bool
  | 0, .done, listed => Region.seqB md ops (ops.size - n) n listed
  | f + 1, .h k rest, listed => decide (k < n) && decide (Region.ready md ops listed = [k]) && planB3 md ops n f rest (listed.setIfInBounds k true)
  | f + 1, .q k rest, listed => decide (k < n) && (Region.ready md ops listed).contains k && Region.free md ops listed k && planB3 md ops n f rest (listed.setIfInBounds k true)
  | f + 1, .h2 k r1 k' r2, listed => decide (k < n) && decide (k' < n) && decide (Region.ready md ops listed = [k, k']) && planB3 md ops n f r1 (listed.setIfInBounds k true) && planB3 md ops n f r2 (listed.setIfInBounds k' true)
  | f + 1, .h3 k r1 k' r2 k2 r3, listed => decide (k < n) && decide (k' < n) && decide (k2 < n) && decide (Region.ready md ops listed = [k, k', k2]) && planB3 md ops n f r1 (listed.setIfInBounds k true) && planB3 md ops n f r2 (listed.setIfInBounds k' true) && planB3 md ops n f r3 (listed.setIfInBounds k2 true)
  | _, _, _ => false

theorem wpAnyM_plan3 {n : Nat} {K : Act → World → Prop} (hsel : Region.noSelect ops = true) (htw : ∀ listed i, i < n → HeadInv md ops n listed → listed.getD i true = false → ∀ t, n ≤ t → t ∉ Region.ready md ops listed) :
    ∀ (f : Nat) (plan : MPlan3) (listed : Array Bool) (a : Act) (w : World), C w → HeadInv md ops n listed → planB3 md ops n f plan listed = true → wpMix3 P ops C Q K plan a w →
    wpAnyM P md ops C Q n (fun listed' a' w' => Region.seqB md ops (ops.size - n) n listed' = true ∧ K a' w') f listed a w
  | 0, .done, listed, a, w, _, _, hB, h => ⟨by simpa [planB3] using hB, h⟩
  | 0, .q _ _, _, _, _, _, _, hB, _ => by simp [planB3] at hB
  | 0, .h _ _, _, _, _, _, _, hB, _ => by simp [planB3] at hB
  | 0, .h2 _ _ _ _, _, _, _, _, _, hB, _ => by simp [planB3] at hB
  | 0, .h3 _ _ _ _ _ _, _, _, _, _, _, hB, _ => by simp [planB3] at hB
  | f + 1, .done, _, _, _, _, _, hB, _ => by simp [planB3] at hB
  | f + 1, .h k rest, listed, a, w, hC, inv, hB, h => by
    simp only [planB3, Bool.and_eq_true, decide_eq_true_eq] at hB
    obtain ⟨⟨hk, hr⟩, hB⟩ := hB
    obtain ⟨o, ho, h⟩ := h
    refine ⟨by rw [hr]; simp, fun i hi => ?_⟩
    have hi' := hi
    rw [hr] at hi
    obtain rfl : i = k := by simpa using hi
    refine ⟨hk, ?_⟩
    exact wpOp_mono (fun a' w' h' => ⟨h'.1, wpAnyM_plan3 hsel htw f rest _ a' w' h'.1 (inv.set hi' hk) hB h'.2⟩) (wpOp_heavy ho h)
  | f + 1, .h2 k r1 k' r2, listed, a, w, hC, inv, hB, h => by
    simp only [planB3, Bool.and_eq_true, decide_eq_true_eq] at hB
    obtain ⟨⟨⟨⟨hk, hk'⟩, hr⟩, hB1⟩, hB2⟩ := hB
    obtain ⟨⟨o1, ho1, h1⟩, ⟨o2, ho2, h2⟩⟩ := h
    refine ⟨by rw [hr]; simp, fun i hi => ?_⟩
    have hi' := hi
    rw [hr] at hi
    have hi2 : i = k ∨ i = k' := by simpa using hi
    rcases hi2 with rfl | rfl
    · refine ⟨hk, ?_⟩
      exact wpOp_mono (fun a' w' h' => ⟨h'.1, wpAnyM_plan3 hsel htw f r1 _ a' w' h'.1 (inv.set hi' hk) hB1 h'.2⟩) (wpOp_heavy ho1 h1)
    · refine ⟨hk', ?_⟩
      exact wpOp_mono (fun a' w' h' => ⟨h'.1, wpAnyM_plan3 hsel htw f r2 _ a' w' h'.1 (inv.set hi' hk') hB2 h'.2⟩) (wpOp_heavy ho2 h2)
  | f + 1, .h3 k r1 k' r2 k2 r3, listed, a, w, hC, inv, hB, h => by
    simp only [planB3, Bool.and_eq_true, decide_eq_true_eq] at hB
    obtain ⟨⟨⟨⟨⟨⟨hk, hk'⟩, hk2⟩, hr⟩, hB1⟩, hB2⟩, hB3⟩ := hB
    obtain ⟨⟨o1, ho1, h1⟩, ⟨o2, ho2, h2⟩, ⟨o3, ho3, h3⟩⟩ := h
    refine ⟨by rw [hr]; simp, fun i hi => ?_⟩
    have hi' := hi
    rw [hr] at hi
    have hi2 : i = k ∨ i = k' ∨ i = k2 := by simpa using hi
    rcases hi2 with rfl | rfl | rfl
    · refine ⟨hk, ?_⟩
      exact wpOp_mono (fun a' w' h' => ⟨h'.1, wpAnyM_plan3 hsel htw f r1 _ a' w' h'.1 (inv.set hi' hk) hB1 h'.2⟩) (wpOp_heavy ho1 h1)
    · refine ⟨hk', ?_⟩
      exact wpOp_mono (fun a' w' h' => ⟨h'.1, wpAnyM_plan3 hsel htw f r2 _ a' w' h'.1 (inv.set hi' hk') hB2 h'.2⟩) (wpOp_heavy ho2 h2)
    · refine ⟨hk2, ?_⟩
      exact wpOp_mono (fun a' w' h' => ⟨h'.1, wpAnyM_plan3 hsel htw f r3 _ a' w' h'.1 (inv.set hi' hk2) hB3 h'.2⟩) (wpOp_heavy ho3 h3)
  | f + 1, .q k rest, listed, a, w, hC, inv, hB, h => by
    simp only [planB3, Bool.and_eq_true, decide_eq_true_eq] at hB
    obtain ⟨⟨⟨hk, hr⟩, hf⟩, hB⟩ := hB
    obtain ⟨o, ho, hg, h⟩ := h
    have ho' : ops[k]? = some o := by simpa using ho
    have hr' : k ∈ Region.ready md ops listed := by simpa using hr
    obtain ⟨v, hy, hK⟩ := stillIn_of_quiet hg h
    exact wpAnyM_first ho' (Region.noSelect_spec hsel) hk (fun listed inv hu => htw listed k hk inv hu) (fun listed' a' w' hL => seqB_ready hL.1) f listed a w hC inv (Region.free_spec ho' hf) hr' hy
      (wpAnyM_plan3 hsel htw f rest _ _ w hC (inv.set hr' hk) hB hK)

/-- The order is one that the region's edges allow; number n and what stands behind come last. -/
def mixB3 (md : Region.Mode) (ops : Array Oper) (n : Nat) (plan : MPlan3) : Bool :=
  Region.noSelect ops && decide (n ≤ ops.size) && (decide (n = ops.size) || (Region.sinkB md ops n && Region.chainB md ops n)) && planB3 md ops n n plan (Array.replicate ops.size false)

/-- As wp_region_mix, where two heavy operations may be open at once. -/
theorem wp_region_mix3 {id : Nat} {a : Act} {w : World} {l : List Oper} (C : World → Prop) (n : Nat) (plan : MPlan3) (hm : P.follows .mixedOrders = true) (hB : mixB3 .any l.toArray n plan = true) (hC : C w.drew)
    (h : wpMix3 P l.toArray C Q (fun a' w' => wpList P l.toArray Q (l.drop n) a' w') plan a w.drew) : (Code.region id l.toArray true).wp P Q a w := by
  simp only [mixB3, Bool.and_eq_true, Bool.or_eq_true, decide_eq_true_eq] at hB
  obtain ⟨⟨⟨hsel, hn⟩, hsc⟩, hplan⟩ := hB
  have htw : ∀ listed i, i < n → HeadInv .any l.toArray n listed → listed.getD i true = false → ∀ t, n ≤ t → t ∉ Region.ready .any l.toArray listed := by
    intro listed i hi inv hu t ht hr
    rcases hsc with hsc | ⟨hs, hc⟩
    · obtain ⟨_, ot, hot, _⟩ := mem_ready.1 hr
      have := (Array.getElem?_eq_some_iff.1 hot).1
      omega
    · obtain ⟨_, ot, hot, _⟩ := mem_ready.1 hr
      have hlt := (Array.getElem?_eq_some_iff.1 hot).1
      exact tail_waits hs hc (by omega) inv (n - i) i rfl hi hu t ht hr
  have inv0 : HeadInv .any l.toArray n (Array.replicate l.toArray.size false) :=
    ⟨by simp, fun j oj _ hl => (by rw [getD_replicate_false] at hl; cases hl), fun t _ ht => getD_in (by simpa using ht) (getD_replicate_false _ _)⟩
  have H := wpAnyM_plan3 (md := .any) hsel htw n plan _ a w.drew hC inv0 hplan h
  refine wp_region_any hm ?_
  have := wpAny_of_headM (Q := Q) (g := l.toArray.size - n) (fun listed a' w' _ hL => by
    have := wpAny_of_seq (md := .any) (Q' := Q) (l.drop n) n listed a' w' (fun j => by simp [List.getElem?_drop]) (by simpa using hL.1) hL.2
    simpa using this) _ _ _ _ hC H
  rw [show n + (l.toArray.size - n) = l.toArray.size by omega] at this
  exact this
end
end Go.Proofs.YtahicokokfcieaaDoor
namespace Go.Proofs.YtahicokokfcieaaDoor
open Go.RowKit
open Go.Proofs
set_option linter.unusedVariables false

theorem Leads.at {w : World} {a : Option Addr} {n cap k : Nat} {cs : List Value} {v : Value} (h : Leads w a n cap cs) (hk : k < n) (hv : cs[k]? = some v) : ∃ b off, a = some ⟨b, off, none⟩ ∧ b < w.heap.size ∧ ∀ w', Below w.heap.size w w' → w'.cell? ⟨b, off + k, none⟩ = some v := by
  obtain ⟨_, _, ⟨h, _⟩ | ⟨b, off, rfl, h3, h4⟩⟩ := h
  · omega
  · exact ⟨b, off, rfl, h3, fun w' hb => (hb.cell (p := ⟨b, off + k, none⟩) h3).trans (h4 k _ hv)⟩
theorem below_drewN {B : Nat} {a w : World} (h : Below B a w) (n : Nat) : Below B a (w.drewN n) := h.trans ⟨rfl, rfl, rfl, Nat.le_refl _, fun _ _ => rfl⟩
theorem own_type {W : World} {base size n : Nat} {e : TypeId} {v : Value} {xs : List Value} (h : W.ownsRow base e size v n xs) (k : Nat) (hk : v.ownBlock = some k) : ∃ cur, W.heap[k]? = some (.cells cur e (0, 0)) := by
  rcases h.2 with ⟨rfl, _⟩ | ⟨g, cap, cur, rfl, _, hh, _⟩
  · cases hk
  · have : g = k := by simpa [Value.ownBlock] using hk
    subst this
    exact ⟨cur, hh⟩
theorem type_ne {W : World} {k k' : Nat} {cur cur' : Array Value} {e e' : TypeId} (h : W.heap[k]? = some (.cells cur e (0, 0))) (h' : W.heap[k']? = some (.cells cur' e' (0, 0))) (hne : e ≠ e') : k ≠ k' := by
  rintro rfl
  rw [h] at h'
  cases h'
  exact hne rfl
theorem wcell_at {l : List Nat} {k x : Nat} (h : l[k]? = some x) : (wcells l)[k]? = some (.int .u64 ((x : Nat) : Int)) := by unfold wcells; rw [List.getElem?_map, h]; rfl
theorem own_lt {w : World} {base n size : Nat} {e : TypeId} {v : Value} {xs : List Value} (h : w.ownsRow base e size v n xs) (k : Nat) (hk : v.ownBlock = some k) : k < w.heap.size := by
  obtain ⟨cur, hc⟩ := own_type h k hk
  exact lt_laid hc
theorem own_keep {w w' : World} {base n size : Nat} {e : TypeId} {v : Value} {xs : List Value} (h : w.ownsRow base e size v n xs) (hk : ∀ k o, v.ownBlock = some k → w.heap[k]? = some o → w'.heap[k]? = some o) : w'.ownsRow base e size v n xs := by
  refine ⟨h.1, ?_⟩
  rcases h.2 with hn | ⟨g, cap, cur, rfl, hb, hgg, rest⟩
  · exact .inl hn
  · exact .inr ⟨g, cap, cur, rfl, hb, hk g _ rfl hgg, rest⟩
theorem keep_grown {w w' : World} {b : Nat} {o : Obj} {r : Option Nat} (h : w.heap[b]? = some o) (hg : w.grownBy w' r) (hr : r ≠ some b) : w'.heap[b]? = some o :=
  (hg.block b (lt_laid h) (fun he => hr he.symm)).trans h
def Moved (w : World) (v v' : Value) : Prop := v'.ownBlock = v.ownBlock ∨ ∀ k, v'.ownBlock = some k → w.heap.size ≤ k
theorem run_append_moved {P : Program} {w : World} (base : Nat) (t ty e : TypeId) (i : TypeInfo) (z : Value) (size bytes : Nat) (ht : P.underlying t = some (.slice e)) (hi : P.info? e = some i) (hz : i.zero = some z)
    (hsize : i.size = size) (hby : i.bytes = bytes) (hzs : z.cells.size = size) (hsz : 0 < size)
    (v : Value) (n : Nat) (xs : List Value) (hown : w.ownsRow base e size v n xs)
    (a : Addr) (m c : Nat) (news : List Value) (hl : news.length = m * size) (hnews : ∀ j u, news[j]? = some u → w.cell? (a.add j) = some u) (h1 : ∀ u ∈ news, u.oneCell' = true)
    (h63 : n + m ≤ maxLen) (hbytes : (n + m) * bytes ≤ 140737488355328) (hbase : base ≤ w.heap.size) :
    ∃ v' w', (Builtin.append_ #[t, t] ty #[v, .slice (some a) m c]).run P w = .ok v' w' ∧ w'.ownsRow base e size v' (n + m) (xs ++ news) ∧ w.grownBy w' v.ownBlock ∧ Moved w v v' := by
  obtain ⟨v', w', hr, h2, h3, -⟩ := run_append_own (P := P) (w := w) base t ty e i z size bytes ht hi hz hsize hby hzs hsz v n xs hown a m c news hl hnews h1 h63 hbytes hbase
  refine ⟨v', w', hr, h2, h3, ?_⟩
  rcases hown.2 with ⟨hv, hn⟩ | ⟨g, cap, cur, hv, hbg, hg, hnc, hcm, hcs, htake⟩
  · subst hv
    subst hn
    have hx : xs = [] := List.eq_nil_of_length_eq_zero (by simpa using hown.1)
    subst hx
    obtain ⟨v2, w2, hr2, h4, -, -⟩ := run_append_own (P := P) (w := w) w.heap.size t ty e i z size bytes ht hi hz hsize hby hzs hsz (.slice none 0 0) 0 [] (World.ownsRow_nil _ _ _ _) a m c news hl hnews h1 h63 hbytes (Nat.le_refl _)
    rw [hr] at hr2
    obtain ⟨rfl, rfl⟩ : v' = v2 ∧ w' = w2 := by simpa using hr2
    exact .inr fun k hk => (h4.lt k hk).1
  · subst hv
    by_cases hroom : n + m ≤ cap
    · have hfit : n * i.size + news.length ≤ cur.size := by rw [hl, hcs, hsize, ← Nat.add_mul]; exact Nat.mul_le_mul_right _ hroom
      have hr2 := run_append_room (P := P) w t ty e i ht hi g n cap cur hg a m c news (by rw [hsize]; exact hl) hnews h1 hroom hfit
      rw [hr] at hr2
      have e1 : v' = .slice (some ⟨g, 0, none⟩) (n + m) cap := by
        have := hr2
        simp only [Result.ok.injEq] at this
        exact this.1
      rw [e1]
      exact .inl rfl
    · have hlx : xs.length = n * i.size := by rw [hsize]; exact hown.1
      have holds : ∀ j u, xs[j]? = some u → w.cell? ((⟨g, 0, none⟩ : Addr).add j) = some u := hown.cells (g := g) rfl
      have hsmall : n + m ≤ 9223372036854775807 := by simp only [maxLen] at h63; omega
      have hr2 := run_append_grow (P := P) w t ty e i z ht hi hz ⟨g, 0, none⟩ n cap xs hlx holds a m c news (by rw [hsize]; exact hl) hnews (by omega) (by omega) (growslice_fits (by omega) (by rw [hby]; exact hbytes))
      rw [hr] at hr2
      simp only [Result.ok.injEq] at hr2
      rw [hr2.1]
      exact .inr fun k hk => by
        have : w.heap.size = k := by simpa [Value.ownBlock] using hk
        omega
theorem wp_appendM {P : Program} {w : World} {ops : Array Oper} {rest : List Oper} {o : Oper} {a : Act} {Q : Exit → Act → World → Prop} {t e : TypeId} {size bytes : Nat} (I : Elem P t e size bytes) (hgd : o.guard = none) (s x : Operand)
    (ho : o.op = .call { callee := .builtin .append, args := #[s, x], argTypes := #[t, t] })
    (base : Nat) (v : Value) (n : Nat) (xs : List Value) (hs : a.eval s = v) (hown : w.ownsRow base e size v n xs)
    (ad : Addr) (m c : Nat) (news : List Value) (hx : a.eval x = .slice (some ad) m c) (hl : news.length = m * size) (hnews : ∀ (j : Nat) u, news[j]? = some u → w.cell? (ad.add j) = some u) (h1 : ∀ u ∈ news, u.oneCell' = true)
    (hn : n + m ≤ 1000000) (hbase : base ≤ w.heap.size)
    (h : ∀ v' w', w'.ownsRow base e size v' (n + m) (xs ++ news) → w.grownBy w' v.ownBlock → Moved w v v' → wpList P ops Q rest (a.put o.dst v') w') : wpList P ops Q (o :: rest) a w := by
  obtain ⟨i, z, hi, hz, h2, h3, h4⟩ := I.info
  refine wpList_plain hgd fun K hK => ?_
  have hbt : (n + m) * bytes ≤ 140737488355328 := by
    have := Nat.mul_le_mul hn I.small
    omega
  obtain ⟨v', w', hr, k2, k3, k4⟩ := run_append_moved (P := P) (w := w) base t o.type e i z size bytes I.under hi hz h2 h3 h4 I.pos v n xs hown ad m c news hl hnews h1 (by unfold maxLen; omega) hbt hbase
  unfold Oper.wp execOp
  simp only [ho, resolve, invoke, builtin, Sem.run_bind, Sem.run_pure, Result.andThen_ok, List.map_toArray, List.map_cons, List.map_nil, hs, hx, hr]
  exact hK _ _ (h v' w' k2 k3 k4)
theorem Leads.vdrop {w : World} {b off n cap k : Nat} {l : List Value} (h : Leads w (some ⟨b, off, none⟩) n cap l) (hl : l.length = n) (hk : k ≤ n) : Leads w (some ⟨b, off + k, none⟩) (n - k) (cap - k) (l.drop k) := by
  obtain ⟨h1, h2, ⟨h, h'⟩ | ⟨b', off', e, h3, h4⟩⟩ := h
  · refine ⟨by omega, by omega, .inl ⟨by omega, ?_⟩⟩
    rw [show l = [] from List.eq_nil_of_length_eq_zero (by omega)]; simp
  · cases e
    refine ⟨by omega, by omega, .inr ⟨b, off + k, rfl, h3, fun i v hv => ?_⟩⟩
    have := h4 (k + i) v (by rw [← hv, List.getElem?_drop])
    rw [Nat.add_assoc]; exact this
def Fresh (e : TypeId) (size n : Nat) (cs : List Value) (w : World) (en : Ending) (w' : World) : Prop :=
  ∃ v, en = .returned v ∧ w'.ownsRow w.heap.size e size v n cs ∧ Below w.heap.size w w'
theorem cell_add {w : World} {b o j : Nat} {v : Value} (h : w.cell? ⟨b, o + j, none⟩ = some v) : w.cell? ((⟨b, o, none⟩ : Addr).add j) = some v := by
  rcases j with _ | j
  · simpa [Addr.add] using h
  · simpa [Addr.add] using h
theorem Leads.of_own1 {W : World} {base : Nat} {e : TypeId} {size n cap : Nat} {a : Option Addr} {xs : List Value} (h : W.ownsRow base e size (.slice a n cap) n xs) : Leads W a n cap xs := by
  obtain ⟨a', c', e, hl⟩ := Leads.of_own h
  simp only [Value.slice.injEq, true_and] at e
  obtain ⟨rfl, rfl⟩ := e
  exact hl
theorem Leads.vtake {w : World} {a : Option Addr} {n c m : Nat} {l : List Value} (h : Leads w a n c l) (hl : l.length = n) (hm : m ≤ n) : Leads w a m c (l.take m) := by
  obtain ⟨h1, h2, ⟨h3, h4⟩ | ⟨b, off, h3, h4, h5⟩⟩ := h
  · obtain rfl : m = 0 := by omega
    exact ⟨by omega, h2, .inl ⟨rfl, by simp⟩⟩
  · refine ⟨by omega, h2, .inr ⟨b, off, h3, h4, fun i v hv => h5 i v ?_⟩⟩
    rw [List.getElem?_take] at hv
    split at hv
    · exact hv
    · cases hv
theorem take_snoc {α : Type} {l : List α} {k : Nat} {x : α} (h : l[k]? = some x) : l.take (k + 1) = l.take k ++ [x] := by rw [List.take_add_one, h]; rfl
theorem wcell_ex {l : List Nat} {k : Nat} {u : Value} (h : (wcells l)[k]? = some u) : ∃ x, l[k]? = some x ∧ u = .int .u64 ((x : Nat) : Int) := by
  unfold wcells at h
  rw [List.getElem?_map] at h
  cases hx : l[k]? with
  | none => rw [hx] at h; cases h
  | some x => rw [hx] at h; injection h with h; exact ⟨x, rfl, h.symm⟩
theorem wcells_one (l : List Nat) : ∀ u ∈ wcells l, u.oneCell' = true := by
  intro u hu
  obtain ⟨x, -, rfl⟩ := List.mem_map.1 hu
  rfl
theorem wcells_len (l : List Nat) : (wcells l).length = l.length := by simp [wcells]
theorem wcells_app (l r : List Nat) : wcells (l ++ r) = wcells l ++ wcells r := by simp [wcells]
theorem wcells_set (l : List Nat) (i x : Nat) : (wcells l).set i (.int .u64 ((x : Nat) : Int)) = wcells (l.set i x) := by simp [wcells, List.map_set]
def bcells (l : List Bool) : List Value := l.map Value.bool
theorem bcell_at {l : List Bool} {k : Nat} {x : Bool} (h : l[k]? = some x) : (bcells l)[k]? = some (.bool x) := by unfold bcells; rw [List.getElem?_map, h]; rfl
theorem bcell_ex {l : List Bool} {k : Nat} {u : Value} (h : (bcells l)[k]? = some u) : ∃ x, l[k]? = some x ∧ u = .bool x := by
  unfold bcells at h
  rw [List.getElem?_map] at h
  cases hx : l[k]? with
  | none => rw [hx] at h; cases h
  | some x => rw [hx] at h; injection h with h; exact ⟨x, rfl, h.symm⟩
theorem bcells_one (l : List Bool) : ∀ u ∈ bcells l, u.oneCell' = true := by
  intro u hu
  obtain ⟨x, -, rfl⟩ := List.mem_map.1 hu
  rfl
theorem bcells_len (l : List Bool) : (bcells l).length = l.length := by simp [bcells]
theorem bcells_set (l : List Bool) (i : Nat) (x : Bool) : (bcells l).set i (.bool x) = bcells (l.set i x) := by simp [bcells, List.map_set]
/-- Values are put into a variable of one's own, cell by cell. -/
theorem put2 {V : World} {Y : Nat} {z0 z1 : Value} {T : TypeId} (h : V.heap[Y]? = some (.cells #[z0, z1] T (0, 0))) (v0 v1 : Value) :
    ∃ V', V' = (V.setCell ⟨Y, 0, none⟩ v0).setCell ⟨Y, 1, none⟩ v1 ∧ V'.heap[Y]? = some (.cells #[v0, v1] T (0, 0)) ∧ (∀ (k : Nat) (o : Obj), k ≠ Y → V.heap[k]? = some o → V'.heap[k]? = some o) ∧ ∀ (B : Nat) (w : World), B ≤ Y → Below B w V → Below B w V' := by
  have h0 := set_laid (i := 0) h v0
  exact ⟨_, rfl, set_laid (i := 1) h0 v1, fun k o hk ho => other_laid (other_laid ho hk _) hk _, fun B w hB hb => (hb.setCell hB _).setCell hB _⟩
theorem put3 {V : World} {Y : Nat} {z0 z1 z2 : Value} {T : TypeId} (h : V.heap[Y]? = some (.cells #[z0, z1, z2] T (0, 0))) (v0 v1 v2 : Value) :
    ∃ V', V' = ((V.setCell ⟨Y, 0, none⟩ v0).setCell ⟨Y, 1, none⟩ v1).setCell ⟨Y, 2, none⟩ v2 ∧ V'.heap[Y]? = some (.cells #[v0, v1, v2] T (0, 0)) ∧ (∀ (k : Nat) (o : Obj), k ≠ Y → V.heap[k]? = some o → V'.heap[k]? = some o) ∧ ∀ (B : Nat) (w : World), B ≤ Y → Below B w V → Below B w V' := by
  have h0 := set_laid (i := 0) h v0
  have h1 := set_laid (i := 1) h0 v1
  exact ⟨_, rfl, set_laid (i := 2) h1 v2, fun k o hk ho => other_laid (other_laid (other_laid ho hk _) hk _) hk _, fun B w hB hb => ((hb.setCell hB _).setCell hB _).setCell hB _⟩
theorem put4 {V : World} {Y : Nat} {z0 z1 z2 z3 : Value} {T : TypeId} (h : V.heap[Y]? = some (.cells #[z0, z1, z2, z3] T (0, 0))) (v0 v1 v2 v3 : Value) :
    ∃ V', V' = (((V.setCell ⟨Y, 0, none⟩ v0).setCell ⟨Y, 1, none⟩ v1).setCell ⟨Y, 2, none⟩ v2).setCell ⟨Y, 3, none⟩ v3 ∧ V'.heap[Y]? = some (.cells #[v0, v1, v2, v3] T (0, 0)) ∧ (∀ (k : Nat) (o : Obj), k ≠ Y → V.heap[k]? = some o → V'.heap[k]? = some o) ∧ ∀ (B : Nat) (w : World), B ≤ Y → Below B w V → Below B w V' := by
  have h0 := set_laid (i := 0) h v0
  have h1 := set_laid (i := 1) h0 v1
  have h2 := set_laid (i := 2) h1 v2
  exact ⟨_, rfl, set_laid (i := 3) h2 v3, fun k o hk ho => other_laid (other_laid (other_laid (other_laid ho hk _) hk _) hk _) hk _, fun B w hB hb => (((hb.setCell hB _).setCell hB _).setCell hB _).setCell hB _⟩
/-- A copy into a block of one's own; all other blocks stay. -/
theorem wp_copyK {P : Program} {w : World} {ops : Array Oper} {rest : List Oper} {o : Oper} {a : Act} {Q : Exit → Act → World → Prop} (hgd : o.guard = none) (d s : Operand) (dT sT : TypeId)
    (ho : o.op = .call { callee := .builtin .copy, args := #[d, s], argTypes := #[dT, sT] }) (elem : TypeId) (hu : P.underlying dT = some (.slice elem)) (hsz : (P.info? elem).map (·.size) = some 1)
    (dp sp : Option Addr) (dLen dCap sLen sCap : Nat) (hd : a.eval d = .slice dp dLen dCap) (hs : a.eval s = .slice sp sLen sCap)
    (g off : Nat) (cur : List Value) (t : TypeId) (hg : w.heap[g]? = some (.cells cur.toArray t (0, 0))) (cs : List Value) (hn : cs.length = Nat.min sLen dLen)
    (hpos : 0 < cs.length → dp = some ⟨g, off, none⟩ ∧ ∃ ad, sp = some ad ∧ ∀ j v, cs[j]? = some v → w.cell? (ad.add j) = some v)
    (hfit : off + cs.length ≤ cur.length) (h1 : ∀ v ∈ cs, v.oneCell' = true)
    (h : ∀ w', Hid (w'.heap[g]? = some (.cells (splice cur off cs).toArray t (0, 0)) ∧ (∀ k, k ≠ g → w'.heap[k]? = w.heap[k]?) ∧ ∀ (B : Nat) (w0 : World), B ≤ g → Below B w0 w → Below B w0 w') → wpList P ops Q rest (a.put o.dst (goInt cs.length)) w') :
    wpList P ops Q (o :: rest) a w := by
  by_cases h0 : cs.length = 0
  · obtain rfl : cs = [] := List.eq_nil_of_length_eq_zero h0
    refine wpList_copy_nothing hgd d s dT sT ho elem hu hsz dp sp dLen dCap sLen sCap hd hs (by simpa using hn.symm) ?_
    exact h w (hid ⟨by simpa [splice] using hg, fun k _ => rfl, fun B w0 _ hb => hb⟩)
  · obtain ⟨rfl, ad, rfl, hsrc⟩ := hpos (by omega)
    refine wpList_copy_own hgd d s dT sT ho elem hu hsz g off dLen dCap ad sLen sCap hd hs cur.toArray t hg cs hn hsrc (by simpa using hfit) h1 ?_
    exact h _ (hid ⟨by simpa [splice] using setRow_heap w g _ _ t _ hg, fun k hk => setRow_other w g k _ hk, fun B w0 hB hb => below_setRow hb hB _⟩)
/-- Each k-th cell of a known block. -/
theorem at_block {W : World} {b : Nat} {cur : Array Value} {e : TypeId} {fr : Nat × Nat} (h : W.heap[b]? = some (.cells cur e fr)) {i : Nat} {v : Value} (hv : cur[i]? = some v) : W.cell? ⟨b, i, none⟩ = some v := (cell_of_row W b i cur e fr h).trans hv
end Go.Proofs.YtahicokokfcieaaDoor
namespace Go.Proofs.YtahicokokfcieaaDoor
open Go.RowKit
open Go.Proofs
set_option linter.unusedVariables false

/-- A memory: its words, which are live, and whether there was a fault. -/
structure Mem where
  W : List Nat
  L : List Bool
  F : Bool
abbrev poison : Nat := 18369900232523579118
def wordOk (p : Nat × Bool) : Bool := p.2 || (decide (p.1 = 0) || decide (p.1 = poison))
def okM (M : Mem) : Bool := decide (1 ≤ M.W.length) && (decide (M.W.length ≤ 4096) && (decide (M.L.length = M.W.length) && (M.W.zip M.L).all wordOk))
/-- It lies here. -/
structure MemL (V : World) (wa : Option Addr) (wc : Nat) (la : Option Addr) (lc : Nat) (M : Mem) : Prop where
  w : Leads V wa M.W.length wc (wcells M.W)
  l : Leads V la M.L.length lc (bcells M.L)
def memV (wa : Option Addr) (wc : Nat) (la : Option Addr) (lc : Nat) (M : Mem) : Value := .agg #[.slice wa M.W.length wc, .slice la M.L.length lc, .bool M.F]
theorem MemL.grow {V V' : World} {wa la : Option Addr} {wc lc : Nat} {M : Mem} (h : MemL V wa wc la lc M) (hb : Below V.heap.size V V') : MemL V' wa wc la lc M := ⟨h.w.grow hb, h.l.grow hb⟩
theorem okM_spec {M : Mem} (h : okM M = true) : 1 ≤ M.W.length ∧ M.W.length ≤ 4096 ∧ M.L.length = M.W.length ∧ (M.W.zip M.L).all wordOk = true := by
  unfold okM at h
  simp only [Bool.and_eq_true, decide_eq_true_eq] at h
  exact ⟨h.1, h.2.1, h.2.2.1, h.2.2.2⟩

theorem Check1_any (x k n : Nat) (b : Bool) (la : Option Addr) (lc X : Nat) (V : World) (L : List Bool) (hc : V.cell? ⟨X, 1, none⟩ = some (.slice la n lc)) (hl : Leads V la n lc (bcells L)) (hk : k < n) (hb : L[k]? = some b) :
    Calls Tryd.prog 65 #[.int .i64 (k : Nat), .int .u64 (x : Nat), .pointer (some ⟨X, 0, none⟩)] V (fun e V' => e = .returned (.bool (wordOk (x, b))) ∧ V' = V) := by
  obtain ⟨b', off, rfl, -, hcc⟩ := hl.at hk (bcell_at hb)
  have f1 := hcc V (Below.refl _ _)
  have hn := hl.len
  clear hcc hl hb
  unfold wordOk
  dsimp only
  cases b
  case' true =>
    go_enter Tryd.func65, Tryd.ntmps65
    go_wp2
    go_ret
    exact ⟨rfl, rfl⟩
  case' false =>
    by_cases h0 : x = 0
    · subst h0
      go_enter Tryd.func65, Tryd.ntmps65
      go_wp2
      go_ret
      exact ⟨rfl, rfl⟩
    · have t0 : (((x : Nat) : Int) == 0) = false := by simp; omega
      by_cases h1 : x = poison
      · have t1 : (((x : Nat) : Int) == 18369900232523579118) = true := by rw [h1]; rfl
        have HD : Hid ((false || (decide (x = 0) || decide (x = poison))) = true) := hid (by rw [decide_eq_true h1]; simp)
        clear h0 h1
        go_enter Tryd.func65, Tryd.ntmps65
        go_wp2
        go_ret
        exact ⟨retb HD.out.symm, rfl⟩
      · have t1 : (((x : Nat) : Int) == 18369900232523579118) = false := by simp; unfold poison at h1; omega
        have HD : Hid ((false || (decide (x = 0) || decide (x = poison))) = false) := hid (by rw [decide_eq_false h0, decide_eq_false h1]; rfl)
        clear h0 h1
        go_enter Tryd.func65, Tryd.ntmps65
        go_wp2
        go_ret
        exact ⟨retb HD.out.symm, rfl⟩

set_option maxHeartbeats 1000000 in
theorem EveryW_any (M : Mem) (wa la : Option Addr) (wc lc X n : Nat) (V : World) (hn : M.W.length = n) (hm : M.L.length = n) (h : MemL V wa wc la lc M) (hc : V.cell? ⟨X, 1, none⟩ = some (.slice la n lc)) :
    Calls Tryd.prog 64 #[.slice wa n wc, .func (.func 65) #[] #[.pointer (some ⟨X, 0, none⟩)]] V (fun e V' => e = .returned (.bool ((M.W.zip M.L).all wordOk)) ∧ V' = V) := by
  have hw := h.w
  have hl := h.l
  rw [hn] at hw
  rw [hm] at hl
  have hwn := hw.len.1
  have H := hid hw
  have HN := hid hn
  have HM := hid hm
  have HC := hid (fun (x k : Nat) (b : Bool) (hk : k < n) (hb : M.L[k]? = some b) => Check1_any x k n b la lc X V M.L hc hl hk hb)
  obtain ⟨ZZ, hZZ⟩ : ∃ ZZ, M.W.zip M.L = ZZ := ⟨_, rfl⟩
  have HZL : Hid (ZZ.length = n) := hid (by rw [← hZZ, List.length_zip, hn, hm]; omega)
  have HZ := hid hZZ
  rw [hZZ]
  clear h hw hl hn hm hc hZZ
  go_enter Tryd.func64, Tryd.ntmps64
  go_wp2
  go_loopg [9] n (fun g i wr => ∃ k : Nat, g + k = n ∧ i = .int .i64 (k : Nat) ∧ Hid ((ZZ.take k).all wordOk = true) ∧ wr = V)
  case atStart => exact ⟨0, rfl, rfl, hid (by simp), rfl⟩
  case round =>
    obtain ⟨k, hk, rfl, hs, hwr⟩ := hrel
    subst hwr
    have HK := hid hk
    clear hk
    by_cases hlt : k < n
    · obtain ⟨x, hxk⟩ : ∃ x, M.W[k]? = some x := ⟨_, List.getElem?_eq_getElem (by rw [HN.out]; exact hlt)⟩
      obtain ⟨b, hbk⟩ : ∃ x, M.L[k]? = some x := ⟨_, List.getElem?_eq_getElem (by rw [HM.out]; exact hlt)⟩
      obtain ⟨b', off, rfl, -, hc⟩ := H.out.at hlt (wcell_at hxk)
      have f1 := hc _ (Below.refl _ _)
      have hz : ZZ[k]? = some (x, b) := by rw [← HZ.out, List.getElem?_zip_eq_some]; exact ⟨hxk, hbk⟩
      have HTK : Hid ((ZZ.take (k + 1)).all wordOk = wordOk (x, b)) := hid (by rw [take_snoc hz, List.all_append, hs.out]; simp)
      have HMEM : Hid ((x, b) ∈ ZZ) := hid (List.mem_of_getElem? hz)
      have hC := HC.out x k b hlt hbk
      obtain ⟨B, hB⟩ : ∃ B, wordOk (x, b) = B := ⟨_, rfl⟩
      rw [hB] at hC
      have HCX := hid hC
      have HB := hid hB
      clear hc hxk hbk hC hB hz
      cases B with
      | true =>
        go_wp2_with fail
        refine HCX.out.mono ?_
        rintro e w2 ⟨rfl, rfl⟩
        go_wp2
        go_roundg (gk - 1)
        case measure => have := HK.out; omega
        case rel => exact ⟨k + 1, by have := HK.out; omega, by go_num, hid (HTK.out.trans HB.out), rfl⟩
      | false =>
        have HE : Hid (ZZ.all wordOk = false) := hid (by
          rw [Bool.eq_false_iff]
          intro h
          have := List.all_eq_true.1 h _ HMEM.out
          rw [HB.out] at this
          cases this)
        go_wp2_with fail
        refine HCX.out.mono ?_
        rintro e w2 ⟨rfl, rfl⟩
        go_wp2
        go_ret
        exact ⟨retb HE.out.symm, rfl⟩
    · have e := HK.out
      obtain rfl : k = n := by omega
      have HE : Hid (ZZ.all wordOk = true) := hid (by
        have := hs.out
        rwa [List.take_of_length_le (by rw [HZL.out]; exact Nat.le_refl _)] at this)
      clear hs e HK
      go_wp2
      go_ret
      exact ⟨retb HE.out.symm, rfl⟩

set_option maxRecDepth 100000 in
set_option maxHeartbeats 2000000 in
theorem Check_any (M : Mem) (wa la : Option Addr) (wc lc : Nat) (V : World) (h : MemL V wa wc la lc M) :
    Calls Tryd.prog 38 #[memV wa wc la lc M] V (Ret (.int .i64 (if okM M then 0 else 120)) V) := by
  obtain ⟨V1, hV1, hb1, hs1, hl1⟩ := laid V #[.slice wa M.W.length wc, .slice la M.L.length lc, .bool M.F] 38
  obtain ⟨X, hX⟩ : ∃ X, V.heap.size = X := ⟨_, rfl⟩
  rw [hX] at hl1
  have a0 := cell_laid (i := 0) hl1 rfl
  have a1 := cell_laid (i := 1) hl1 rfl
  have HM := hid (h.grow hb1)
  have HB1 := hid hb1
  have hwl := h.w.len
  have hll := h.l.len
  unfold memV
  obtain ⟨n, hn⟩ : ∃ n, M.W.length = n := ⟨_, rfl⟩
  obtain ⟨m, hm⟩ : ∃ m, M.L.length = m := ⟨_, rfl⟩
  obtain ⟨A, hA⟩ : ∃ A, (M.W.zip M.L).all wordOk = A := ⟨_, rfl⟩
  have HEV := hid (fun (e : m = n) => EveryW_any M wa la wc lc X n V1 hn (hm.trans e) HM.out (by rw [← e, ← hm]; exact a1))
  rw [hA] at HEV
  have HOK : Hid (okM M = (decide (1 ≤ n) && (decide (n ≤ 4096) && (decide (m = n) && A)))) := hid (by unfold okM; rw [hn, hm, hA])
  rw [hn] at hV1 a0 hwl
  rw [hm] at hV1 a1 hll
  rw [hn, hm]
  rw [HOK.out]
  obtain ⟨E, hE⟩ : ∃ E : Int, (if (decide (1 ≤ n) && (decide (n ≤ 4096) && (decide (m = n) && A))) = true then (0 : Int) else 120) = E := ⟨_, rfl⟩
  rw [hE]
  have HE := hid hE
  clear h hl1 hs1 hn hm hA hE
  go_enter Tryd.func38, Tryd.ntmps38
  by_cases c1 : 1 ≤ n
  · have t1 : decide ((1 : Int) ≤ ((n : Nat) : Int)) = true := decide_eq_true (by omega)
    by_cases c2 : n ≤ 4096
    · have t2 : decide (((n : Nat) : Int) ≤ 4096) = true := decide_eq_true (by omega)
      by_cases c3 : m = n
      · subst c3
        have HEV2 := hid (HEV.out rfl)
        cases A
        case' true =>
          have HEE : Hid (E = 0) := hid (by rw [← HE.out, decide_eq_true c1, decide_eq_true c2, decide_eq_true rfl]; rfl)
        case' false =>
          have HEE : Hid (E = 120) := hid (by rw [← HE.out, decide_eq_true c1, decide_eq_true c2, decide_eq_true rfl]; rfl)
        all_goals
          go_wp2_with fail
          refine HEV2.out.mono ?_
          rintro e w2 ⟨rfl, rfl⟩
          go_wp2
          go_ret
          exact ⟨reti HEE.out.symm, HB1.out⟩
      · have t3 : (((m : Nat) : Int) == ((n : Nat) : Int)) = false := by simp; omega
        have HEE : Hid (E = 120) := hid (by rw [← HE.out, decide_eq_true c1, decide_eq_true c2, decide_eq_false c3]; rfl)
        go_wp2
        go_ret
        exact ⟨reti HEE.out.symm, HB1.out⟩
    · have t2 : decide (((n : Nat) : Int) ≤ 4096) = false := decide_eq_false (by omega)
      have HEE : Hid (E = 120) := hid (by rw [← HE.out, decide_eq_true c1, decide_eq_false c2]; rfl)
      go_wp2
      go_ret
      exact ⟨reti HEE.out.symm, HB1.out⟩
  · have t1 : decide ((1 : Int) ≤ ((n : Nat) : Int)) = false := decide_eq_false (by omega)
    have HEE : Hid (E = 120) := hid (by rw [← HE.out, decide_eq_false c1]; rfl)
    go_wp2
    go_ret
    exact ⟨reti HEE.out.symm, HB1.out⟩
end Go.Proofs.YtahicokokfcieaaDoor
