/- Layer 17, several texts in one. -/
import Derived.Deep.WholeRow
import Derived.BigQuiet
import Derived.Test.YtipohagcppfgiaaGreatOwn
import Derived.Test.YtipohagcppfgiaaGreatRange
import Derived.Deep.MidRow
import Derived.Laws.CopyRow
import Derived.Test.YtipohagcppfgiaaGreatRegion2
import Derived.Test.YtipohagcppfgiaaGreatMapsI
import Derived.Test.YtipohagcppfgiaaGreatLs1
import Derived.Test.YtipohagcppfgiaaGreatLs5
import Derived.RecoverIn
import Derived.Test.YtipohagcppfgiaaGreatLsPlain1
import Derived.Test.YtipohagcppfgiaaGreatLsC
import Derived.Test.YtipohagcppfgiaaGreatMemClone
import Derived.Test.YtipohagcppfgiaaGreatLs13
namespace Go.Proofs.YtipohagcppfgiaaGreat
open Go.RowKit
set_option linter.unusedVariables false
theorem wlW {P : Program} {w : World} {ops : Array Oper} {rest : List Oper} {o : Oper} {a : Act} {Q : Exit → Act → World → Prop} (hgd : o.guard = none) (T : TypeId) (p : Operand) (ho : o.op = .load T p)
  (Y : Nat) (vs : Array Value) (hp : a.eval p = .pointer (some ⟨Y, 0, none⟩)) (e : TypeId) (hY : w.heap[Y]? = some (.cells vs e (0, 0))) (d : TypeDesc) (hu : P.underlying T = some d) (hd : (match d with | .struct _ | .array _ _ => true | _ => false) = true) (hi : (P.info? T).map (·.size) = some vs.size)
  (h : ∀ v, v = .agg vs → wpList P ops Q rest (a.put o.dst v) w) : wpList P ops Q (o :: rest) a w := by
 refine wpList_plain hgd fun K hK => ?_
 have hr := run_loadVar_row w Y e T vs (0, 0) d hY hu hd hi
 unfold Oper.wp
 simp only [execOp, ho, Instr.loadAt, Instr.sureAddr, hp, Sem.run_bind, Sem.run_pure, Result.andThen_ok, hr]
 exact hK _ _ (h _ rfl)
/-- .. where a guard asks for it. -/
theorem wp_loadG {P : Program} {w : World} {ops : Array Oper} {rest : List Oper} {o : Oper} {a : Act} {Q : Exit → Act → World → Prop} (hw : Region.wanted o (yielded ops a.tmps) = true) (T : TypeId) (p : Operand) (ho : o.op = .load T p)
  (Y : Nat) (vs : Array Value) (hp : a.eval p = .pointer (some ⟨Y, 0, none⟩)) (e : TypeId) (hY : w.heap[Y]? = some (.cells vs e (0, 0))) (d : TypeDesc) (hu : P.underlying T = some d) (hd : (match d with | .struct _ | .array _ _ => true | _ => false) = true) (hi : (P.info? T).map (·.size) = some vs.size)
  (h : ∀ v, v = .agg vs → wpList P ops Q rest (a.put o.dst v) w) : wpList P ops Q (o :: rest) a w := by
 refine wpList_step fun K hK => ?_
 rw [if_pos hw]
 have hr := run_loadVar_row w Y e T vs (0, 0) d hY hu hd hi
 unfold Oper.wp
 simp only [execOp, ho, Instr.loadAt, Instr.sureAddr, hp, Sem.run_bind, Sem.run_pure, Result.andThen_ok, hr]
 exact hK _ _ (h _ rfl)
/-- .. in a region that draws its order: in every world of a class. -/
theorem wpQuiet_loadW {P : Program} {ops : Array Oper} {C : World → Prop} {Q : Act → Prop} {rest : List Oper} {o : Oper} {a : Act} (hgd : o.guard = none) (T : TypeId) (p : Operand) (ho : o.op = .load T p)
  (Y : Nat) (vs : Array Value) (hp : a.eval p = .pointer (some ⟨Y, 0, none⟩)) (e : TypeId) (hY : ∀ w, C w → w.heap[Y]? = some (.cells vs e (0, 0))) (d : TypeDesc) (hu : P.underlying T = some d) (hd : (match d with | .struct _ | .array _ _ => true | _ => false) = true) (hi : (P.info? T).map (·.size) = some vs.size)
  (h : ∀ v, v = .agg vs → wpQuiet P ops C Q rest (a.put o.dst v)) : wpQuiet P ops C Q (o :: rest) a := by
 refine BigFrame.wpQuiet_want (by simp [Region.wanted, hgd]) fun K hK => ⟨.agg vs, fun w hw => ?_, hK _ (h _ rfl)⟩
 have hr := run_loadVar_row w Y e T vs (0, 0) d (hY w hw) hu hd hi
 unfold Oper.quietAt
 simp only [execOp, ho, Instr.loadAt, Instr.sureAddr, hp, Sem.run_bind, Sem.run_pure, Result.andThen_ok, hr]
 exact ⟨rfl, rfl⟩
end Go.Proofs.YtipohagcppfgiaaGreat
namespace Go.Proofs.YtipohagcppfgiaaGreat
open Go.RowKit
set_option linter.unusedVariables false
/-- From 'off' on the cells are others. -/
def patch (cur : Array Value) (off : Nat) (vs : List Value) : Array Value := (cur.toList.take off ++ vs ++ cur.toList.drop (off + vs.length)).toArray
theorem run_storeVar_part {P : Program} (w : World) (g off : Nat) (t ty : TypeId) (cur : Array Value) (v : Value) (hg : w.heap[g]? = some (.cells cur t (0, 0))) (hi : (P.info? ty).map (·.size) = some v.cells.size)
  (hle : off + v.cells.size ≤ cur.size) (h1 : v.cells.all (·.oneCell') = true) :
  (storeVar ty ⟨g, off, none⟩ v).run P w = .ok () (w.setRow g (patch cur off v.cells.toList)) := by
 have := run_storeCells_at (P := P) g off t v.cells.toList 0 cur w hg (by simp; omega) (fun v hv => (Array.all_eq_true_iff_forall_mem.1 h1) v (by simpa using hv))
 cases hq : P.info? ty with
 | none => simp [hq] at hi
 | some i =>
  have hs : v.cells.size = i.size := by simp [hq] at hi; omega
  simp only [Nat.add_zero] at this
  simp [storeVar, sizeOf, typeInfo, hq, hs, this, patch]
theorem wsP {P : Program} {w : World} {ops : Array Oper} {rest : List Oper} {o : Oper} {a : Act} {Q : Exit → Act → World → Prop} (hgd : o.guard = none) (T : TypeId) (p x : Operand) (ho : o.op = .store T p x)
  (Y off : Nat) (cur new : Array Value) (v : Value) (hp : a.eval p = .pointer (some ⟨Y, off, none⟩)) (hx : a.eval x = v) (e : TypeId) (hY : w.heap[Y]? = some (.cells cur e (0, 0))) (hi : (P.info? T).map (·.size) = some v.cells.size) (hle : off + v.cells.size ≤ cur.size) (h1 : v.cells.all (·.oneCell') = true) (hnew : patch cur off v.cells.toList = new)
  (h : ∀ w', w'.heap[Y]? = some (.cells new e (0, 0)) → (∀ (k : Nat) (o : Obj), k ≠ Y → w.heap[k]? = some o → w'.heap[k]? = some o) → (∀ (B : Nat) (w0 : World), B ≤ Y → Below B w0 w → Below B w0 w') → w.grownBy w' (some Y) → wpList P ops Q rest (a.put o.dst undef) w') : wpList P ops Q (o :: rest) a w := by
 refine wpList_plain hgd fun K hK => ?_
 have hr := run_storeVar_part (P := P) w Y off e T cur v hY hi hle h1
 rw [hnew] at hr
 unfold Oper.wp
 simp only [execOp, ho, Instr.storeAt, Instr.sureAddr, hp, hx, Sem.run_bind, Sem.run_pure, Result.andThen_ok, hr]
 exact hK _ _ (h _ (setRow_heap w Y _ _ e _ hY) (fun k o hk ho => (setRow_other w Y k _ hk).trans ho) (fun B w0 hB hb => below_setRow hb hB _) ⟨rfl, rfl, rfl, by simp [World.setRow], fun k _ hk => setRow_other w Y k _ (fun e => hk (by rw [e]))⟩)
theorem rangeAt_part {w : World} {Y off : Nat} {cur : Array Value} {e : TypeId} (hY : w.heap[Y]? = some (.cells cur e (0, 0))) {cs : List Value} (hc : (cur.toList.drop off).take cs.length = cs) : w.rangeAt Y off cs := fun j v hv => by
 refine (cell_of_row w Y (off + j) cur e (0, 0) hY).trans ?_
 rw [← hc, List.getElem?_take, List.getElem?_drop] at hv
 split at hv
 ·rw [← hv, Array.getElem?_toList]
 ·cases hv
theorem wp_loadP {P : Program} {w : World} {ops : Array Oper} {rest : List Oper} {o : Oper} {a : Act} {Q : Exit → Act → World → Prop} (hgd : o.guard = none) (T : TypeId) (p : Operand) (ho : o.op = .load T p)
  (Y off : Nat) (cur : Array Value) (cs : List Value) (hp : a.eval p = .pointer (some ⟨Y, off, none⟩)) (e : TypeId) (hY : w.heap[Y]? = some (.cells cur e (0, 0))) (hc : (cur.toList.drop off).take cs.length = cs) (d : TypeDesc) (hu : P.underlying T = some d) (hd : d.isRow = true) (hi : (P.info? T).map (·.size) = some cs.length)
  (h : ∀ v, v = .agg cs.toArray → wpList P ops Q rest (a.put o.dst v) w) : wpList P ops Q (o :: rest) a w :=
 wpList_load_mid hgd T p ho Y off hp cs d (rangeAt_part hY hc) hu hd hi (h _ rfl)
/-- .. in a region that draws its order: in every world of a class. -/
theorem wpQuiet_loadP {P : Program} {ops : Array Oper} {C : World → Prop} {Q : Act → Prop} {rest : List Oper} {o : Oper} {a : Act} (hgd : o.guard = none) (T : TypeId) (p : Operand) (ho : o.op = .load T p)
  (Y off : Nat) (cs : List Value) (hp : a.eval p = .pointer (some ⟨Y, off, none⟩)) (hY : ∀ w, C w → w.rangeAt Y off cs) (d : TypeDesc) (hu : P.underlying T = some d) (hd : d.isRow = true) (hi : (P.info? T).map (·.size) = some cs.length)
  (h : ∀ v, v = .agg cs.toArray → wpQuiet P ops C Q rest (a.put o.dst v)) : wpQuiet P ops C Q (o :: rest) a := by
 refine BigFrame.wpQuiet_want (by simp [Region.wanted, hgd]) fun K hK => ⟨.agg cs.toArray, fun w hw => ?_, hK _ (h _ rfl)⟩
 unfold Oper.quietAt
 simp only [execOp, ho, Instr.loadAt, Instr.sureAddr, hp, Sem.run_bind, Sem.run_pure, Result.andThen_ok, run_loadVar_mid w Y off T cs d (hY w hw) hu hd hi]
 exact ⟨rfl, rfl⟩
/-- An element of a row of one's own is written whole. -/
theorem own_patch {W W' : World} {base size n b cap i : Nat} {e : TypeId} {xs : List Value} (h : W.ownsRow base e size (.slice (some ⟨b, 0, none⟩) n cap) n xs) (vs : List Value) (hv : vs.length = size) (hi : i < n)
  (cur : Array Value) (hc : W.heap[b]? = some (.cells cur e (0, 0))) (hW : W'.heap[b]? = some (.cells (patch cur (i * size) vs) e (0, 0))) :
  W'.ownsRow base e size (.slice (some ⟨b, 0, none⟩) n cap) n (xs.take (i * size) ++ vs ++ xs.drop (i * size + size)) := by
 obtain ⟨hl, ⟨h0, -⟩ | ⟨g, cap', cur', hv', hg, hh, r1, r2, r3, r4⟩⟩ := h
 ·cases h0
 ·cases hv'
  rw [hc] at hh
  cases hh
  have h1 : i * size + size ≤ n * size := by
   have := Nat.mul_le_mul_right size (Nat.succ_le_of_lt hi)
   rw [Nat.succ_mul] at this
   exact this
  have h2 : n * size ≤ cap * size := Nat.mul_le_mul_right size r1
  have h3 : cur.toList.length = cap * size := by simpa using r3
  obtain ⟨o, ho⟩ := nm (i * size)
  obtain ⟨N, hN⟩ := nm (n * size)
  rw [ho] at h1 hW ⊢
  rw [hN] at h1 h2 r4 hl
  have e1 : xs.take o = cur.toList.take o := by rw [← r4, List.take_take]; congr 1; omega
  have e2 : xs.drop (o + size) = (cur.toList.drop (o + size)).take (N - (o + size)) := by rw [← r4, List.drop_take]
  have e3 : (xs.take o ++ vs ++ xs.drop (o + size)).length = N := by simp only [List.length_append, List.length_take, List.length_drop, hv, hl]; omega
  refine ⟨by rw [e3, hN], .inr ⟨b, cap, _, rfl, hg, hW, r1, r2, ?_, ?_⟩⟩
  ·rw [← h3]
   unfold patch
   simp only [List.size_toArray, List.length_append, List.length_take, List.length_drop, hv]
   omega
  ·rw [hN, e1, e2]
   unfold patch
   rw [hv, List.take_append, List.take_of_length_le (by simp only [List.length_append, List.length_take, hv]; omega)]
   congr 2
   simp only [List.length_append, List.length_take, hv]
   omega
end Go.Proofs.YtipohagcppfgiaaGreat
namespace Go.Proofs.YtipohagcppfgiaaGreat
open Go.RowKit
set_option linter.unusedVariables false
/-- An order: q reads (ahead of number m), p reads nothing, h is heavy. -/
inductive TPlan
 | done
 | q (k : Nat) (rest : TPlan)
 | p (k : Nat) (rest : TPlan)
 | h (k : Nat) (rest : TPlan)
 | h2 (k : Nat) (r1 : TPlan) (k' : Nat) (r2 : TPlan)
structure AnyW where
 w : World
instance : Nonempty AnyW := ⟨⟨default⟩⟩
section
variable {P : Program} {ops : Array Oper} {md : Region.Mode} {C : World → Prop} {Q : Exit → Act → World → Prop}
/-- Number j waits for number i, by however many steps. -/
def ancB (md : Region.Mode) (ops : Array Oper) : Nat → Nat → Nat → Bool
 | 0, _, _ => false
 | f + 1, j, i => Region.waitsFor md ops j i || (List.range ops.size).any fun k => Region.waitsFor md ops j k && ancB md ops f k i
theorem anc_listed {n : Nat} {listed : Array Bool} (inv : HeadInv md ops n listed) : ∀ (f j i : Nat), ancB md ops f j i = true → listed.getD j false = true → listed.getD i false = true
 | 0, j, i, h, _ => by simp [ancB] at h
 | f + 1, j, i, h, hj => by
  have one : ∀ k, Region.waitsFor md ops j k = true → listed.getD k false = true := by
   intro k hk
   unfold Region.waitsFor at hk
   cases ho : ops[j]? with
   | none => rw [ho] at hk; cases hk
   | some oj =>
    rw [ho] at hk
    simp only [Array.any_eq_true, Bool.and_eq_true, beq_iff_eq] at hk
    obtain ⟨x, hx, hb, he⟩ := hk
    have := inv.closed j oj ho hj _ (Array.getElem_mem hx) hb
    rw [he] at this
    exact this
  unfold ancB at h
  rw [Bool.or_eq_true] at h
  rcases h with h | h
  ·exact one i h
  ·obtain ⟨k, -, h⟩ := List.any_eq_true.1 h
   rw [Bool.and_eq_true] at h
   exact anc_listed inv f k i h.2 (one k h.1)
theorem StillIn.mono {C' : World → Prop} {o : Oper} {v : Value} {a : Act} (h : StillIn P ops C o v a) (hc : ∀ w, C' w → C w) : StillIn P ops C' o v a := by
 rcases h with ⟨h1, h2⟩ | h
 ·exact .inl ⟨h1, fun w hw => h2 w (hc w hw)⟩
 ·exact .inr h
/-- Whatever order is picked: each step leaves a world of the class that what is done by then asks for. -/
def wpAnyD (P : Program) (md : Region.Mode) (ops : Array Oper) (D : Array Bool → World → Prop) (Q : Exit → Act → World → Prop) (L : Array Bool → Act → World → Prop) : Nat → Array Bool → Act → World → Prop
 | 0, listed, a, w => L listed a w
 | f + 1, listed, a, w =>
  Region.ready md ops listed ≠ [] ∧ ∀ i ∈ Region.ready md ops listed, wpOp P ops (outQ (fun _ _ => False) Q) i (fun a' w' => D (listed.setIfInBounds i true) w' ∧ wpAnyD P md ops D Q L f (listed.setIfInBounds i true) a' w') a w
theorem wpAny_of_D {D : Array Bool → World → Prop} {L : Array Bool → Act → World → Prop} (hL : ∀ listed a w, L listed a w → wpAny P md ops Q 0 listed a w) :
  ∀ (f : Nat) (listed : Array Bool) (a : Act) (w : World), wpAnyD P md ops D Q L f listed a w → wpAny P md ops Q f listed a w
 | 0, listed, a, w, h => hL _ _ _ h
 | f + 1, listed, a, w, h => ⟨fun h0 => absurd h0 h.1, fun i hi => wpOp_exit (Q₁ := outQ (fun _ _ => False) Q) (fun _ _ _ (h : False) => h.elim) (fun ⟨a, w, h⟩ => ⟨a, w, h⟩) (wpOp_mono (fun a' w' h' => wpAny_of_D hL f _ a' w' h'.2) (h.2 i hi))⟩
theorem wpAnyD_first {i : Nat} {oi : Oper} {v : Value} {D : Array Bool → World → Prop} {L : Array Bool → Act → World → Prop} (hi : ops[i]? = some oi) (hsel : ∀ (j : Nat) (o : Oper) cs b, ops[j]? = some o → o.op ≠ .select cs b)
  (hin : i < ops.size) (hdone : ∀ listed a w, L listed a w → Region.ready md ops listed = []) (hD : ∀ listed w, D (listed.setIfInBounds i true) w ↔ D listed w) (hC : ∀ listed w, HeadInv md ops ops.size listed → listed.getD i true = false → D listed w → C w) :
  ∀ (f : Nat) (listed : Array Bool) (a : Act) (w : World), D listed w → HeadInv md ops ops.size listed →
   (∀ j oj, ops[j]? = some oj → j ≠ i → listed.getD j true = false → (∀ e ∈ oj.after, Region.binds md e = true → e.on ≠ i) → oi.apart ops oj = true) →
   i ∈ Region.ready md ops listed → StillIn P ops C oi v a →
   wpAnyD P md ops D Q L f (listed.setIfInBounds i true) (a.put oi.dst v) w → wpAnyD P md ops D Q L (f + 1) listed a w := by
 intro f
 induction f with
 | zero =>
  intro listed a w hDw inv _ hr hy H
  have hun := (mem_ready.1 hr).1
  refine ⟨fun h => (by rw [h] at hr; cases hr), fun j hj => ?_⟩
  by_cases hji : j = i
  ·subst hji; exact hy.wpOp hi (hC _ _ inv hun hDw) ⟨(hD _ _).2 hDw, H⟩
  ·have := hdone _ _ _ H
   have h2 := ready_mono hj hji
   rw [this] at h2
   cases h2
 | succ f ih =>
  intro listed a w hDw inv hfree hr hy H
  have hun := (mem_ready.1 hr).1
  refine ⟨fun h => (by rw [h] at hr; cases hr), fun j hj => ?_⟩
  by_cases hji : j = i
  ·subst hji; exact hy.wpOp hi (hC _ _ inv hun hDw) ⟨(hD _ _).2 hDw, H⟩
  ·have h1 := H.2 j (ready_mono hj hji)
   obtain ⟨hjun, oj, hoj, hall⟩ := mem_ready.1 hj
   have hnot : ∀ e ∈ oj.after, Region.binds md e = true → e.on ≠ i := fun e he hb heq => by
    have h1 := hall e he hb
    rw [heq, getD_both hun] at h1
    cases h1
   have hjn : j < ops.size := (Array.getElem?_eq_some_iff.1 hoj).1
   have hfree' : ∀ k ok, ops[k]? = some ok → k ≠ i → (listed.setIfInBounds j true).getD k true = false →
     (∀ e ∈ ok.after, Region.binds md e = true → e.on ≠ i) → oi.apart ops ok = true := fun k ok hk hki hun hno => by
    refine hfree k ok hk hki ?_ hno
    by_cases hjk : j = k
    ·subst hjk; exact hjun
    ·rw [getD_set_ne true hjk] at hun; exact hun
   refine wpOp_put hoj (hfree j oj hoj hji hjun hnot) (fun cs b => hsel i oi cs b hi) (fun cs b => hsel j oj cs b hoj) hy (fun a' w' hy' h3 => ?_) h1
   have h4 : D (listed.setIfInBounds j true) w' := (hD _ _).1 (by rw [Array.setIfInBounds_comm _ _ hji]; exact h3.1)
   refine ⟨h4, ih (listed.setIfInBounds j true) a' w' h4 (inv.set hj hjn) hfree' (ready_mono hr (Ne.symm hji)) hy' ?_⟩
   rw [Array.setIfInBounds_comm _ _ hji]
   exact h3.2
/-- The class that what is done by then asks for: ahead of number m. -/
def upto (m : Nat) (C : World → Prop) (listed : Array Bool) (w : World) : Prop := listed.getD m true = false → C w
/-- The operations in an order; b: number m is done. -/
def wpTurn (P : Program) (ops : Array Oper) (m : Nat) (C : World → Prop) (Q : Exit → Act → World → Prop) (K : Act → World → Prop) : TPlan → Bool → Act → World → Prop
 | .done, _, a, w => K a w
 | .h k rest, b, a, w => ∃ o, ops.toList[k]? = some o ∧ ∀ R : Exit → Act → World → Prop, (∀ a' w', ((b || k == m) = false → C w') → wpTurn P ops m C Q K rest (b || k == m) a' w' → R .normal a' w') → (∀ a w, Q .outgrown a w → R .outgrown a w) → wpList P ops R [o] a w
 | .q k rest, b, a, w => ∃ o, ops.toList[k]? = some o ∧ noGo o = true ∧ wpQuiet P ops C (fun a' => wpTurn P ops m C Q K rest b a' w) [o] a
 | .p k rest, b, a, w => ∃ o, ops.toList[k]? = some o ∧ noGo o = true ∧ wpQuiet P ops (fun w => ∃ z : AnyW, w = z.w) (fun a' => wpTurn P ops m C Q K rest b a' w) [o] a
 | .h2 k r1 k' r2, b, a, w =>
  (∃ o, ops.toList[k]? = some o ∧ ∀ R : Exit → Act → World → Prop, (∀ a' w', ((b || k == m) = false → C w') → wpTurn P ops m C Q K r1 (b || k == m) a' w' → R .normal a' w') → (∀ a w, Q .outgrown a w → R .outgrown a w) → wpList P ops R [o] a w) ∧
  (∃ o, ops.toList[k']? = some o ∧ ∀ R : Exit → Act → World → Prop, (∀ a' w', ((b || k' == m) = false → C w') → wpTurn P ops m C Q K r2 (b || k' == m) a' w' → R .normal a' w') → (∀ a w, Q .outgrown a w → R .outgrown a w) → wpList P ops R [o] a w)
theorem wpTurn_q {m : Nat} {b : Bool} {K : Act → World → Prop} {k : Nat} {rest : TPlan} {a : Act} {w : World} {o : Oper} (ho : ops.toList[k]? = some o) (hg : noGo o = true)
  (h : wpQuiet P ops C (fun a' => wpTurn P ops m C Q K rest b a' w) [o] a) : wpTurn P ops m C Q K (.q k rest) b a w := ⟨o, ho, hg, h⟩
theorem wpTurn_p {m : Nat} {b : Bool} {K : Act → World → Prop} {k : Nat} {rest : TPlan} {a : Act} {w : World} {o : Oper} (ho : ops.toList[k]? = some o) (hg : noGo o = true)
  (h : wpQuiet P ops (fun w => ∃ z : AnyW, w = z.w) (fun a' => wpTurn P ops m C Q K rest b a' w) [o] a) : wpTurn P ops m C Q K (.p k rest) b a w := ⟨o, ho, hg, h⟩
/-- A heavy one ahead of number m. -/
theorem wpTurn_h {m : Nat} {K : Act → World → Prop} {k : Nat} {rest : TPlan} {a : Act} {w : World} {o : Oper} (ho : ops.toList[k]? = some o) (hk : (k == m) = false)
  (h : ∀ R : Exit → Act → World → Prop, (∀ a' w', C w' → wpTurn P ops m C Q K rest false a' w' → R .normal a' w') → (∀ a w, Q .outgrown a w → R .outgrown a w) → wpList P ops R [o] a w) : wpTurn P ops m C Q K (.h k rest) false a w := by
 refine ⟨o, ho, fun R hR hO => h R (fun a' w' hC hw => hR a' w' (fun _ => hC) ?_) hO⟩
 rw [hk]; exact hw
/-- Number m itself. -/
theorem wpTurn_m {m : Nat} {K : Act → World → Prop} {rest : TPlan} {a : Act} {w : World} {o : Oper} (ho : ops.toList[m]? = some o)
  (h : ∀ R : Exit → Act → World → Prop, (∀ a' w', wpTurn P ops m C Q K rest true a' w' → R .normal a' w') → (∀ a w, Q .outgrown a w → R .outgrown a w) → wpList P ops R [o] a w) : wpTurn P ops m C Q K (.h m rest) false a w := by
 refine ⟨o, ho, fun R hR hO => h R (fun a' w' hw => hR a' w' (fun hb => by simp at hb) ?_) hO⟩
 rw [show (false || m == m) = true by simp]; exact hw
/-- One behind it. -/
theorem wpTurn_b {m : Nat} {K : Act → World → Prop} {k : Nat} {rest : TPlan} {a : Act} {w : World} {o : Oper} (ho : ops.toList[k]? = some o)
  (h : ∀ R : Exit → Act → World → Prop, (∀ a' w', wpTurn P ops m C Q K rest true a' w' → R .normal a' w') → (∀ a w, Q .outgrown a w → R .outgrown a w) → wpList P ops R [o] a w) : wpTurn P ops m C Q K (.h k rest) true a w := by
 refine ⟨o, ho, fun R hR hO => h R (fun a' w' hw => hR a' w' (fun hb => by simp at hb) ?_) hO⟩
 rw [Bool.true_or]; exact hw
theorem wpTurn_done {m : Nat} {b : Bool} {K : Act → World → Prop} {a : Act} {w : World} (h : K a w) : wpTurn P ops m C Q K .done b a w := h
def turnB' (md : Region.Mode) (ops : Array Oper) (m : Nat) : Nat → TPlan → Array Bool → Bool
 | 0, .done, listed => decide (Region.ready md ops listed = []) && Region.seqB md ops 0 ops.size listed
 | f + 1, .h k rest, listed => decide (Region.ready md ops listed = [k]) && decide (k < ops.size) && turnB' md ops m f rest (listed.setIfInBounds k true)
 | f + 1, .q k rest, listed => decide (k < ops.size) && decide (k ≠ m) && ancB md ops ops.size m k && (Region.ready md ops listed).contains k && Region.free md ops listed k && turnB' md ops m f rest (listed.setIfInBounds k true)
 | f + 1, .p k rest, listed => decide (k < ops.size) && decide (k ≠ m) && (Region.ready md ops listed).contains k && Region.free md ops listed k && turnB' md ops m f rest (listed.setIfInBounds k true)
 | f + 1, .h2 k r1 k' r2, listed => decide (Region.ready md ops listed = [k, k']) && decide (k < ops.size) && decide (k' < ops.size) && turnB' md ops m f r1 (listed.setIfInBounds k true) && turnB' md ops m f r2 (listed.setIfInBounds k' true)
 | _, _, _ => false
theorem upto_other {m i : Nat} (h : i ≠ m) (listed : Array Bool) (w : World) : upto m C (listed.setIfInBounds i true) w ↔ upto m C listed w := by
 unfold upto
 rw [getD_set_ne true h]
theorem wpOp_turn {K : Act → World → Prop} {X : World → Prop} {i : Nat} {a : Act} {w : World} {o : Oper} (ho : ops.toList[i]? = some o)
  (h : ∀ R : Exit → Act → World → Prop, (∀ a' w', X w' → K a' w' → R .normal a' w') → (∀ a w, Q .outgrown a w → R .outgrown a w) → wpList P ops R [o] a w) :
  wpOp P ops (outQ (fun _ _ => False) Q) i (fun a' w' => X w' ∧ K a' w') a w := wpOp_heavy (C := X) ho h
theorem turn_plan {m : Nat} {K : Act → World → Prop} (hsel : Region.noSelect ops = true) (hm : m < ops.size) :
  ∀ (f : Nat) (plan : TPlan) (b : Bool) (listed : Array Bool) (a : Act) (w : World), listed.getD m true = b → upto m C listed w → HeadInv md ops ops.size listed → turnB' md ops m f plan listed = true → wpTurn P ops m C Q K plan b a w →
  wpAnyD P md ops (upto m C) Q (fun listed' a' w' => Region.ready md ops listed' = [] ∧ Region.seqB md ops 0 ops.size listed' = true ∧ K a' w') f listed a w
 | 0, .done, b, listed, a, w, _, _, _, hB, h => by
  simp only [turnB', Bool.and_eq_true, decide_eq_true_eq] at hB
  exact ⟨hB.1, hB.2, h⟩
 | 0, .q _ _, _, _, _, _, _, _, _, hB, _ => by simp [turnB'] at hB
 | 0, .p _ _, _, _, _, _, _, _, _, hB, _ => by simp [turnB'] at hB
 | 0, .h _ _, _, _, _, _, _, _, _, hB, _ => by simp [turnB'] at hB
 | 0, .h2 _ _ _ _, _, _, _, _, _, _, _, hB, _ => by simp [turnB'] at hB
 | f + 1, .done, _, _, _, _, _, _, _, hB, _ => by simp [turnB'] at hB
 | f + 1, .h k rest, b, listed, a, w, hb, hC, inv, hB, h => by
  simp only [turnB', Bool.and_eq_true, decide_eq_true_eq] at hB
  obtain ⟨⟨hr, hk⟩, hB⟩ := hB
  obtain ⟨o, ho, h⟩ := h
  refine ⟨by rw [hr]; simp, fun i hi => ?_⟩
  have hi' := hi
  rw [hr] at hi
  obtain rfl : i = k := by simpa using hi
  have hb' : (listed.setIfInBounds i true).getD m true = (b || i == m) := by
   by_cases e : i = m
   ·subst e; simp [inv.size, hk]
   ·rw [getD_set_ne true e, hb]; simp [e]
  refine wpOp_mono (fun a' w' h' => ⟨h'.1, turn_plan hsel hm f rest _ _ a' w' hb' h'.1 (inv.set hi' hk) hB h'.2⟩) (wpOp_turn (X := upto m C (listed.setIfInBounds i true)) ho fun R hR hO => h R (fun a' w' hC' hw => hR a' w' ?_ hw) hO)
  unfold upto
  rw [hb']
  exact hC'
 | f + 1, .h2 k r1 k' r2, b, listed, a, w, hb, hC, inv, hB, h => by
  simp only [turnB', Bool.and_eq_true, decide_eq_true_eq] at hB
  obtain ⟨⟨⟨⟨hr, hk⟩, hk'⟩, hB1⟩, hB2⟩ := hB
  obtain ⟨⟨o1, ho1, h1⟩, ⟨o2, ho2, h2⟩⟩ := h
  have hbb : ∀ i, i < ops.size → (listed.setIfInBounds i true).getD m true = (b || i == m) := by
   intro i hi
   by_cases e : i = m
   ·subst e; simp [inv.size, hi]
   ·rw [getD_set_ne true e, hb]; simp [e]
  refine ⟨by rw [hr]; simp, fun i hi => ?_⟩
  have hi' := hi
  rw [hr] at hi
  have hi2 : i = k ∨ i = k' := by simpa using hi
  rcases hi2 with rfl | rfl
  ·refine wpOp_mono (fun a' w' h' => ⟨h'.1, turn_plan hsel hm f r1 _ _ a' w' (hbb _ hk) h'.1 (inv.set hi' hk) hB1 h'.2⟩) (wpOp_turn (X := upto m C (listed.setIfInBounds i true)) ho1 fun R hR hO => h1 R (fun a' w' hC' hw => hR a' w' ?_ hw) hO)
   unfold upto
   rw [hbb _ hk]
   exact hC'
  ·refine wpOp_mono (fun a' w' h' => ⟨h'.1, turn_plan hsel hm f r2 _ _ a' w' (hbb _ hk') h'.1 (inv.set hi' hk') hB2 h'.2⟩) (wpOp_turn (X := upto m C (listed.setIfInBounds i true)) ho2 fun R hR hO => h2 R (fun a' w' hC' hw => hR a' w' ?_ hw) hO)
   unfold upto
   rw [hbb _ hk']
   exact hC'
 | f + 1, .q k rest, b, listed, a, w, hb, hC, inv, hB, h => by
  simp only [turnB', Bool.and_eq_true, decide_eq_true_eq] at hB
  obtain ⟨⟨⟨⟨⟨hk, hkm⟩, hanc⟩, hr⟩, hf⟩, hB⟩ := hB
  obtain ⟨o, ho, hg, h⟩ := h
  have ho' : ops[k]? = some o := by simpa using ho
  have hr' : k ∈ Region.ready md ops listed := by simpa using hr
  obtain ⟨v, hy, hK⟩ := stillIn_of_quiet hg h
  exact wpAnyD_first (C := C) ho' (Region.noSelect_spec hsel) hk (fun _ _ _ hL => hL.1) (upto_other hkm)
   (fun listed' w' inv' hun hu => hu (by
    have h1 : listed'.getD m false ≠ true := fun hm' => by
     have := anc_listed inv' _ _ _ hanc hm'
     rw [getD_both hun] at this
     cases this
    refine getD_in (by rw [inv'.size]; exact hm) ?_
    cases hx : listed'.getD m false
    ·rfl
    ·exact absurd hx h1)) f listed a w hC inv (Region.free_spec ho' hf) hr' hy
   (turn_plan hsel hm f rest b _ _ w (by rw [getD_set_ne true hkm]; exact hb) ((upto_other hkm _ _).2 hC) (inv.set hr' hk) hB hK)
 | f + 1, .p k rest, b, listed, a, w, hb, hC, inv, hB, h => by
  simp only [turnB', Bool.and_eq_true, decide_eq_true_eq] at hB
  obtain ⟨⟨⟨⟨hk, hkm⟩, hr⟩, hf⟩, hB⟩ := hB
  obtain ⟨o, ho, hg, h⟩ := h
  have ho' : ops[k]? = some o := by simpa using ho
  have hr' : k ∈ Region.ready md ops listed := by simpa using hr
  obtain ⟨v, hy, hK⟩ := stillIn_of_quiet hg h
  exact wpAnyD_first (C := fun w => ∃ z : AnyW, w = z.w) ho' (Region.noSelect_spec hsel) hk (fun _ _ _ hL => hL.1) (upto_other hkm)
   (fun _ w' _ _ _ => ⟨⟨w'⟩, rfl⟩) f listed a w hC inv (Region.free_spec ho' hf) hr' hy
   (turn_plan hsel hm f rest b _ _ w (by rw [getD_set_ne true hkm]; exact hb) ((upto_other hkm _ _).2 hC) (inv.set hr' hk) hB hK)
/-- The order is one that the region's edges allow. -/
def turnB (md : Region.Mode) (ops : Array Oper) (m : Nat) (plan : TPlan) : Bool :=
 Region.noSelect ops && decide (m < ops.size) && turnB' md ops m ops.size plan (Array.replicate ops.size false)
/-- ONE WALK SERVES EVERY ORDER: the class holds up to number m. -/
theorem wp_region_turn {id : Nat} {a : Act} {w : World} {l : List Oper} (C : World → Prop) (m : Nat) (plan : TPlan) (hm : P.follows .mixedOrders = true) (hB : turnB .any l.toArray m plan = true) (hC : C w.drew)
  (h : wpTurn P l.toArray m C Q (fun a' w' => wpList P l.toArray Q [] a' w') plan false a w.drew) : (Code.region id l.toArray true).wp P Q a w := by
 simp only [turnB, Bool.and_eq_true, decide_eq_true_eq] at hB
 obtain ⟨⟨hsel, hms⟩, hplan⟩ := hB
 have inv0 : HeadInv .any l.toArray l.toArray.size (Array.replicate l.toArray.size false) :=
  ⟨by simp, fun j oj _ hl => (by rw [getD_replicate_false] at hl; cases hl), fun t _ ht => getD_in (by simpa using ht) (getD_replicate_false _ _)⟩
 have H := turn_plan (md := .any) hsel hms _ plan false _ a w.drew (getD_in (by simpa using hms) (getD_replicate_false _ _)) (fun _ => hC) inv0 hplan h
 refine wp_region_any hm ?_
 exact wpAny_of_D (fun listed a' w' hL => by
  have := wpAny_of_seq (md := .any) (Q' := Q) [] l.toArray.size listed a' w' (fun j => by simp) (by simpa using hL.2.1) hL.2.2
  simpa using this) _ _ _ _ H
end
end Go.Proofs.YtipohagcppfgiaaGreat
namespace Go.Proofs.YtipohagcppfgiaaGreat
open Go.RowKit
open Go.Proofs
set_option linter.unusedVariables false
attribute [local go_sem] Oper.semAt_some
abbrev wrongV : Value := .iface 122 (.agg #[])
abbrev wrg : List PanicEntry := [{ v := wrongV, recovered := false }]
/-- Words are taken, one behind the other. -/
def takeN (M : Mem) : Nat → Nat → List Nat → Option (List Nat)
 | _, 0, met => some met
 | p, k + 1, met => if freeB M met p = true then takeN M (p + 1) k (met ++ [p]) else none
def takeW (M : Mem) (p k : Nat) (met : List Nat) : Option (List Nat) := if 4096 ≤ p then none else takeN M p k met
theorem atMI_ones (met : List Nat) (w : Nat) : atM (ones met) w = if w ∈ met then 1 else 0 := by
 refine snocRec (p := fun l => atM (ones l) w = if w ∈ l then 1 else 0) rfl (fun l x h => ?_) met
 unfold ones at h ⊢
 rw [List.map_append, List.map_singleton, atM_snoc, h]
 by_cases e : x = w
 ·subst e; simp
 ·simp only [if_neg e, List.mem_append, List.mem_singleton]
  by_cases hm : w ∈ l
  ·simp [hm]
  ·rw [if_neg hm, if_neg]
   rintro (h | h)
   ·exact hm h
   ·exact e h.symm
theorem IdsI.run {w : World} {b k : Nat} {l : List (Nat × Nat)} (h : IdsI w b l) (hk : k < 18446744073709551616) {t : TypeId} (ht : Tryz.prog.underlying t = some (.map 26 3)) :
  (Instr.lookup t (.map (some b)) (.int .u64 k) false).run Tryz.prog w = .ok (.int .i64 ((atM l k : Nat) : Int)) w := by
 obtain ⟨c, hrun, hat, -⟩ := World.ownsMap.lookup_int h keyedU ht Tryz.underlying3 (by kernel_rfl) (keyU hk)
 rw [mapD_atI] at hat
 obtain rfl : c = ((atM l k : Nat) : Int) := by simp at hat; omega
 exact hrun
theorem map_cellI {V : World} {mb : Nat} {l : List (Nat × Nat)} (h : IdsI V mb l) (i : Nat) : V.cell? ⟨mb, i, none⟩ = none := by
 obtain ⟨es, clock, hb, -⟩ := h
 simp [World.cell?, hb]
theorem Leads.grownI {V V' : World} {a : Option Addr} {n cap mb : Nat} {cs : List Value} {l : List (Nat × Nat)} (h : Leads V a n cap cs) (hm : IdsI V mb l) (hg : V.grownBy V' (some mb)) : Leads V' a n cap cs := by
 obtain ⟨h1, h2, ⟨h3, h4⟩ | ⟨b, off, h3, h4, h5⟩⟩ := h
 ·exact ⟨h1, h2, .inl ⟨h3, h4⟩⟩
 ·refine ⟨h1, h2, .inr ⟨b, off, h3, Nat.lt_of_lt_of_le h4 hg.size, fun i v hv => ?_⟩⟩
  have hc := h5 i v hv
  by_cases e : mb = b
  ·subst e; rw [map_cellI hm] at hc; cases hc
  ·have := hg.block b h4 (fun e' => e (Option.some.inj e').symm)
   unfold World.cell? at hc ⊢
   rw [this]
   exact hc
theorem wp_putGI {w : World} {ops : Array Oper} {rest : List Oper} {o : Oper} {a : Act} {Q : Exit → Act → World → Prop} (hg : o.guard = none) (m x v : Operand) (t : TypeId) (hop : o.op = Op.mapUpdate t m x v) (ht : Tryz.prog.underlying t = some (.map 26 3))
  (b k u : Nat) (l : List (Nat × Nat)) (hm : a.eval m = .map (some b)) (hown : IdsI w b l) (hl : l.length ≤ 100000) (hx : a.eval x = .int .u64 k) (hv : a.eval v = .int .i64 u) (hk : k < 18446744073709551616) (hu : u < 1000)
  (h : ∀ w', IdsI w' b (l ++ [(k, u)]) → w.grownBy w' (some b) → wpList Tryz.prog ops Q rest (a.put o.dst undef) w') : wpList Tryz.prog ops Q (o :: rest) a w := by
 refine wpList_mapUpdate_own w hg m x v t hop 26 3 keyedU ht (plainElem Tryz.prog 3) b l.length (mapDI l) hm hown (by unfold maxLen; omega) _ _ _ hx hv (keyU hk) _ [] (plainElem_int Tryz.underlying3 (wfI hu)) ?_
 intro w' h1 h2
 refine h w' ?_ h2
 unfold IdsI
 rw [mapD_snocI, List.length_append]
 exact h1
set_option maxRecDepth 100000 in
theorem take_any (M : Mem) (wa la : Option Addr) (wc lc mb p many : Nat) (met : List Nat) (V : World) (h : MemL V wa wc la lc M) (hm : M.L.length = M.W.length) (hi : IdsI V mb (ones met)) (hp : p < 18446744073709551616) (hk : many ≤ 4) (hmm : met.length + many ≤ 10000) :
  Calls Tryz.prog 67 #[.map (some mb), memV wa wc la lc M, .int .u64 p, .int .u64 many] V (fun e V' => V.grownBy V' (some mb) ∧
   ((∃ met', takeW M p many met = some met' ∧ e = .returned (.tuple #[]) ∧ IdsI V' mb (ones met')) ∨ (takeW M p many met = none ∧ e = .panicked wrg))) := by
 obtain ⟨V1, hV1, hb1, hs1, hl1⟩ := laid V #[.slice wa M.W.length wc, .slice la M.L.length lc, .bool M.F] 25
 obtain ⟨X, hX⟩ := nm (V.heap.size)
 rw [hX] at hl1
 have HX1 := hid hl1
 have HM1 := hid (h.grow hb1)
 have HI1 := hid (hi.grow hb1)
 have HG1 := hid (grownBy_below hb1 (some mb))
 have HNX : Hid (mb ≠ X) := hid (by
  rintro rfl
  obtain ⟨es, clock, hb, -⟩ := hi
  have := llD hb
  omega)
 have hwl := h.w.len
 have hll := h.l.len
 obtain ⟨RES, hRES⟩ := nm (takeW M p many met)
 rw [hRES]
 unfold takeW at hRES
 unfold memV
 rw [hm] at hV1 hll HX1 ⊢
 have HMM := hid hm
 obtain ⟨n, hn⟩ := nm (M.W.length)
 rw [hn] at hV1 hwl hll HX1 HMM ⊢
 have HN := hid hn
 by_cases hpb : 4096 ≤ p
 ·rw [if_pos hpb] at hRES
  have HRES := hid hRES
  have t0 : decide ((4096 : Int) ≤ ((p : Nat) : Int)) = true := decide_eq_true (by omega)
  clear h hi hb1 hs1 hl1 hRES hm hn
  go_enter Tryz.func67, Tryz.ntmps67
  go_wp2
  exact ⟨rfl, HG1.out, .inr ⟨HRES.out.symm, rfl⟩⟩
 ·rw [if_neg hpb] at hRES
  have HRES := hid hRES
  have t0 : decide ((4096 : Int) ≤ ((p : Nat) : Int)) = false := decide_eq_false (by omega)
  have t0' : p < 4096 := by omega
  clear h hi hb1 hs1 hl1 hRES hm hn hpb
  obtain ⟨q, hq⟩ := nm (p + many)
  have hqi : IntKind.u64.wrap (((p : Nat) : Int) + ((many : Nat) : Int)) = ((q : Nat) : Int) := by rw [IntKind.wrap_u64]; omega
  have HQ := hid hq
  clear hq
  go_enter Tryz.func67, Tryz.ntmps67
  go_wp2
  go_loopg [8] many (fun g i wr => ∃ (k s : Nat) (met2 : List Nat), g + k = many ∧ i = .int .u64 s ∧ Hid (p + k = s) ∧ Hid (V1.grownBy wr (some mb)) ∧ Hid (IdsI wr mb (ones met2)) ∧ Hid (takeN M s g met2 = RES) ∧ Hid (met2.length = met.length + k))
  case atStart => exact ⟨0, p, met, rfl, rfl, hid rfl, hid (grownBy_refl _ _), HI1, HRES, hid rfl⟩
  case round =>
   obtain ⟨k, s, met2, hk, rfl, hS, hG, hI, hR, hlen⟩ := hrel
   have HK := hid hk
   clear hk
   have hs4 : s ≤ 4100 := by have := HK.out; have := hS.out; omega
   by_cases hlt : s < q
   ·obtain ⟨g1, hg1⟩ : ∃ g1, gk = g1 + 1 := ⟨gk - 1, by have := HK.out; have := hS.out; have := HQ.out; omega⟩
    have hR2 := hR.out
    rw [hg1] at hR2
    unfold takeN at hR2
    have HR2 := hid hR2
    have HG1' := hid hg1
    obtain ⟨x0, x1, x2⟩ := cells3 (kgr HX1.out hG.out (fun e => HNX.out (Option.some.inj e)))
    have hrun := hI.out.run (k := s) (by omega) (t := 125) Tryz.underlying125
    rw [atMI_ones] at hrun
    obtain ⟨s1, hs1⟩ := nm (s + 1)
    have hsi : IntKind.u64.wrap (((s : Nat) : Int) + 1) = ((s1 : Nat) : Int) := by rw [IntKind.wrap_u64]; omega
    have HS1 := hid hs1
    have t5 : decide (((s : Nat) : Int) < ((q : Nat) : Int)) = true := decide_eq_true (by omega)
    clear hR2 hR hg1 hs1
    by_cases hwn : s < n
    ·have t1 : decide (((n : Nat) : Int) ≤ ((s : Nat) : Int)) = false := decide_eq_false (by omega)
     obtain ⟨bv, hbv⟩ : ∃ x, M.L[s]? = some x := ⟨_, List.getElem?_eq_getElem (by rw [HMM.out]; exact hwn)⟩
     have hML := HM1.out.l.grownI HI1.out hG.out
     rw [HMM.out] at hML
     obtain ⟨lb, lo, rfl, -, hc⟩ := hML.at hwn (bcell_at hbv)
     have f1 := hc _ (Below.refl _ _)
     have HBV := hid hbv
     clear hc hbv hML
     cases bv
     case' false =>
      have HF : Hid (freeB M met2 s = false) := hid (by unfold freeB liveN; rw [HBV.out]; rfl)
      go_wp2
      exact ⟨rfl, grownBy_trans HG1.out hG.out, .inr ⟨by rw [← HR2.out, HF.out]; rfl, rfl⟩⟩
     case' true =>
      by_cases hmem : s ∈ met2
      ·rw [if_pos hmem] at hrun
       have HF : Hid (freeB M met2 s = false) := hid (by unfold freeB liveN; rw [HBV.out, decide_eq_true hmem]; rfl)
       clear hmem
       go_wp2
       exact ⟨rfl, grownBy_trans HG1.out hG.out, .inr ⟨by rw [← HR2.out, HF.out]; rfl, rfl⟩⟩
      ·rw [if_neg hmem] at hrun
       have HF : Hid (freeB M met2 s = true) := hid (by unfold freeB liveN; rw [HBV.out, decide_eq_false hmem]; rfl)
       have HR3 : Hid (takeN M (s + 1) g1 (met2 ++ [s]) = RES) := hid (by have := HR2.out; rwa [if_pos HF.out] at this)
       have HI2 := hI
       clear hmem hI
       have q1 : (ones met2).length ≤ 100000 := by simp [ones]; have := hlen.out; have := HK.out; have := HG1'.out; omega
       go_wp2_with (at_mapUpdate; refine wp_putGI rfl _ _ _ 125 rfl Tryz.underlying125 mb s 1 (ones met2) rfl HI2.out q1 rfl rfl ?c2 ?c3 ?c4)
       case c2 => omega
       case c3 => decide
       case c4 =>
        intro w3 hi hg
        rw [ones_snoc] at hi
        have HI3 := hid hi
        have HG3 := hid (grownBy_trans hG.out hg)
        clear hi hg hrun x0 x1 x2 f1
        go_wp2
        go_roundg g1
        case measure => have := HG1'.out; omega
        case rel => exact ⟨k + 1, s1, _, by have := HK.out; have := HG1'.out; omega, rfl, hid (by have := hS.out; have := HS1.out; omega), HG3, HI3, hid (by rw [← HS1.out]; exact HR3.out), hid (by rw [List.length_append, hlen.out]; simp; omega)⟩
    ·have t1 : decide (((n : Nat) : Int) ≤ ((s : Nat) : Int)) = true := decide_eq_true (by omega)
     have HF : Hid (freeB M met2 s = false) := hid (by unfold freeB liveN; rw [List.getElem?_eq_none (by rw [HMM.out]; omega)]; rfl)
     go_wp2
     exact ⟨rfl, grownBy_trans HG1.out hG.out, .inr ⟨by rw [← HR2.out, HF.out]; rfl, rfl⟩⟩
   ·have t5 : decide (((s : Nat) : Int) < ((q : Nat) : Int)) = false := decide_eq_false (by omega)
    have HE : Hid (RES = some met2) := hid (by
     have e1 := HK.out; have e2 := hS.out; have e3 := HQ.out
     have e4 : gk = 0 := by omega
     rw [← hR.out, e4]; rfl)
    go_wp2
    go_end0
    exact ⟨grownBy_trans HG1.out hG.out, .inl ⟨met2, HE.out, rfl, hI.out⟩⟩
end Go.Proofs.YtipohagcppfgiaaGreat
namespace Go.Proofs.YtipohagcppfgiaaGreat
open Go.RowKit
open Go.Proofs
set_option linter.unusedVariables false
theorem as_wrg (v : Value) (w : World) : (Instr.typeAssert (.iface 122 v) 20 122 true).run Tryz.prog w = .ok (.tuple #[v, .bool true]) w := by kernel_rfl
attribute [local go_sem] as_wrg
theorem wn1_idle (Z4 Z5 : Nat) (w : World) :
  CallsDIn Fence.wide 4 Tryz.prog 66 #[.pointer (some ⟨Z4, 0, none⟩), .pointer (some ⟨Z5, 0, none⟩)] .returning w (fun e u' w' => e = .returned (.tuple #[]) ∧ u' = .returning ∧ w' = w) := by
 refine callsDIn_of_wpSIn Tryz.func66 rfl trivial fun c₀ cs hu => ?_
 apply wpSIn_seq
 apply wpSIn_region
 simp [wpOpsSIn, go_sem, recoverD, hu, Tryz.ntmps66, Exit.thenS]
 refine wpSIn_of_wpIn rfl ?_
 refine wpIn_wide.2 ?_
 simp only [Array.replicate_succ, Array.replicate_zero, List.push_toArray, List.append_toArray, List.nil_append, List.cons_append, List.setIfInBounds_toArray, List.set_cons_succ, List.set_cons_zero]
 go_wp2
 cases c₀
 simp_all [bodyPostS, results, Tryz.results66]
set_option maxRecDepth 100000 in
set_option maxHeartbeats 2000000 in
theorem wn1_caught (Z4 Z5 : Nat) (v0 v1 : Value) (older : List PanicEntry) (w : World) (b4 : w.heap[Z4]? = some (.cells #[v0] 36 (0, 0))) (b5 : w.heap[Z5]? = some (.cells #[v1] 34 (0, 0))) :
  CallsDIn Fence.wide 4 Tryz.prog 66 #[.pointer (some ⟨Z4, 0, none⟩), .pointer (some ⟨Z5, 0, none⟩)] (.panicking ({ v := wrongV, recovered := false } :: older)) w (fun e u' w' => e = .returned (.tuple #[]) ∧ u' = .panicking ({ v := wrongV, recovered := true } :: older) ∧
   w'.heap[Z4]? = some (.cells #[.slice none 0 0] 36 (0, 0)) ∧ w'.heap[Z5]? = some (.cells #[.int .i64 2] 34 (0, 0)) ∧ ∀ (B : Nat) (w0 : World), B ≤ Z4 → B ≤ Z5 → Below B w0 w → Below B w0 w') := by
 obtain ⟨w1, hw1, hb1, hs1, -⟩ := laid w #[] 122
 have k4 := klD b4 hb1
 have k5 := klD b5 hb1
 have n45 := tyN k4 k5 (by decide)
 have n54 := Ne.symm n45
 have f0 := flD (i := 0) k4
 have f1 := flD (i := 0) k5
 have h0 := clD (i := 0) k4 rfl
 have h1 := clD (i := 0) k5 rfl
 have H4 := hid (olD (i := 0) (slD (i := 0) k4 (.slice none 0 0)) n45 (.int .i64 2))
 have H5 := hid (slD (i := 0) (olD (i := 0) k5 n54 (.slice none 0 0)) (.int .i64 2))
 have HB : Hid (∀ (B : Nat) (w0 : World), B ≤ Z4 → B ≤ Z5 → Below B w0 w → Below B w0 ((w1.setCell ⟨Z4, 0, none⟩ (.slice none 0 0)).setCell ⟨Z5, 0, none⟩ (.int .i64 2))) := hid (fun B w0 q1 q2 hb => ((hb.trans (hb1.mono (Nat.le_of_lt (Nat.lt_of_le_of_lt q1 (llD b4))))).setCell q1 _).setCell q2 _)
 clear b4 b5 k4 k5 hb1 hs1
 refine callsDIn_of_wpSIn Tryz.func66 rfl trivial fun c₀ cs hu => ?_
 apply wpSIn_seq
 apply wpSIn_region
 simp [wpOpsSIn, go_sem, recoverD, hu, Tryz.ntmps66, Exit.thenS]
 refine wpSIn_of_wpIn rfl ?_
 refine wpIn_wide.2 ?_
 simp only [Array.replicate_succ, Array.replicate_zero, List.push_toArray, List.append_toArray, List.nil_append, List.cons_append, List.setIfInBounds_toArray, List.set_cons_succ, List.set_cons_zero]
 go_wp2
 exact ⟨rfl, _, rfl, _, results_none rfl _ _ _, rfl, rfl, H4.out, H5.out, HB.out⟩
theorem wn_result {W : World} {a b : Nat} {v0 v1 : Value} {tmps : Array Value} (h0 : W.heap[a]? = some (.cells #[v0] 36 (0, 0))) (h1 : W.heap[b]? = some (.cells #[v1] 34 (0, 0)))
  (q0 : tmps[2]?.getD undef = .pointer (some ⟨a, 0, none⟩)) (q1 : tmps[3]?.getD undef = .pointer (some ⟨b, 0, none⟩)) :
  (results Tryz.f50 tmps).run Tryz.prog W = .ok (.tuple #[v0, v1]) W := by
 have c0 := clD (i := 0) (v := v0) h0 rfl
 have c1 := clD (i := 0) (v := v1) h1 rfl
 simp [results, Tryz.results50, go_sem, q0, q1, c0, c1]
theorem wn1_invoke (Z4 Z5 : Nat) (W : World) : (invoke (Target.fn (Fn.func 66) #[.pointer (some ⟨Z4, 0, none⟩), .pointer (some ⟨Z5, 0, none⟩)]) #[]).run Tryz.prog W = .ok (.enter 66 #[.pointer (some ⟨Z4, 0, none⟩), .pointer (some ⟨Z5, 0, none⟩)]) W := by
 simp [invoke, go_sem]
abbrev wnDefs (Z4 Z5 : Nat) : List Deferred := [{ target := .fn (.func 66) #[.pointer (some ⟨Z4, 0, none⟩), .pointer (some ⟨Z5, 0, none⟩)], args := #[] }]
theorem leaves_caughtK {V W : World} {Z4 Z5 : Nat} {v0 v1 : Value} {tmps : Array Value} {R : Ending → World → Prop} (c4 : W.heap[Z4]? = some (.cells #[v0] 36 (0, 0))) (c5 : W.heap[Z5]? = some (.cells #[v1] 34 (0, 0))) (hbl : Below V.heap.size V W) (h4 : V.heap.size ≤ Z4) (h5 : V.heap.size ≤ Z5)
  (q0 : tmps[2]?.getD undef = .pointer (some ⟨Z4, 0, none⟩)) (q1 : tmps[3]?.getD undef = .pointer (some ⟨Z5, 0, none⟩))
  (hR : ∀ W', Below V.heap.size V W' → ∀ e, e = Ending.returned (.tuple #[.slice none 0 0, .int .i64 2]) → R e W') :
  LeavesInM Fence.wide 5 Tryz.prog Tryz.f50 tmps R (wnDefs Z4 Z5) (.panicking wrg) W := by
 refine ⟨by simp, .inr ⟨(fun h => by cases h), _, _, _, _, rfl, wn1_invoke _ _ _, fun _ _ => trivial, ?_⟩⟩
 refine (wn1_caught Z4 Z5 v0 v1 [] _ c4 c5).mono ?_
 rintro e u W' ⟨rfl, rfl, d4, d5, hB⟩
 exact ⟨_, wn_result d4 d5 q0 q1, hR _ (hB _ _ h4 h5 hbl) _ rfl⟩
theorem leaves_idleK {V W : World} {Z4 Z5 : Nat} {v0 v1 : Value} {tmps : Array Value} {R : Ending → World → Prop} (c4 : W.heap[Z4]? = some (.cells #[v0] 36 (0, 0))) (c5 : W.heap[Z5]? = some (.cells #[v1] 34 (0, 0)))
  (q0 : tmps[2]?.getD undef = .pointer (some ⟨Z4, 0, none⟩)) (q1 : tmps[3]?.getD undef = .pointer (some ⟨Z5, 0, none⟩))
  (hR : ∀ e, e = Ending.returned (.tuple #[v0, v1]) → R e W) :
  LeavesInM Fence.wide 5 Tryz.prog Tryz.f50 tmps R (wnDefs Z4 Z5) .returning W := by
 refine ⟨by simp, .inr ⟨(fun h => by cases h), _, _, _, _, rfl, wn1_invoke _ _ _, fun _ _ => trivial, ?_⟩⟩
 refine (wn1_idle Z4 Z5 _).mono ?_
 rintro e u W' ⟨rfl, rfl, rfl⟩
 exact ⟨_, wn_result c4 c5 q0 q1, hR _ rfl⟩
end Go.Proofs.YtipohagcppfgiaaGreat
namespace Go.Proofs.YtipohagcppfgiaaGreat
open Go.RowKit
open Go.Proofs
set_option linter.unusedVariables false
/-- A job: does it cut, and its node. -/
abbrev Jb := Bool × Nd
def jb5 (j : Jb) : List Value := .bool j.1 :: nd4 j.2
def jbcells (js : List Jb) : List Value := js.flatMap jb5
def ky2 (k : Nat × Nat) : List Value := [.int .u64 k.1, .int .u64 k.2]
def kycells (ks : List (Nat × Nat)) : List Value := ks.flatMap ky2
theorem jbcells_len (js : List Jb) : (jbcells js).length = 5 * js.length := by
 induction js with
 | nil => rfl
 | cons x xs ih => show (jb5 x ++ jbcells xs).length = _; rw [List.length_append, ih, List.length_cons]; show 5 + _ = _; omega
theorem kycells_len (ks : List (Nat × Nat)) : (kycells ks).length = 2 * ks.length := by
 induction ks with
 | nil => rfl
 | cons x xs ih => show (ky2 x ++ kycells xs).length = _; rw [List.length_append, ih, List.length_cons]; show 2 + _ = _; omega
/-- A walk that may not be one. -/
structure Wal where
 M : Mem
 head : Nat
 J : List Jb
 K : List (Nat × Nat)
/-- The words of nodes are taken. -/
def takes (M : Mem) : List Nd → List Nat → Option (List Nat)
 | [], met => some met
 | x :: xs, met => (takeW M x.1 4 met).bind (takes M xs)
/-- The words of the nodes that are to be put are taken. -/
def takesJ (M : Mem) : List Jb → List Nat → Option (List Nat)
 | [], met => some met
 | (true, _) :: js, met => takesJ M js met
 | (false, n) :: js, met => if n.1 = 0 then none else (takeW M n.1 4 met).bind (takesJ M js)
def wAll (w : Wal) (xs : List Nd) : Option (List Nat) := ((takeW w.M w.head 1 []).bind (takes w.M xs)).bind (takesJ w.M w.J)
/-- The nodes of a walk's list, and the error. -/
def wNodes (w : Wal) : List Nd × Nat :=
 if (nodesP w.M w.head).2 ≠ 0 then ([], (nodesP w.M w.head).2)
 else if w.M.F = true then ([], 120)
 else if 16 < w.J.length ∨ 8 < w.K.length then ([], 2)
 else match wAll w (nodesP w.M w.head).1 with
  | none => ([], 2)
  | some _ => ((nodesP w.M w.head).1, 0)
theorem takes_step {M : Mem} {xs : List Nd} {k : Nat} {x : Nd} (h : xs[k]? = some x) (met : List Nat) : takes M (xs.drop k) met = (takeW M x.1 4 met).bind (takes M (xs.drop (k + 1))) := by
 obtain ⟨hk, he⟩ := List.getElem?_eq_some_iff.1 h
 rw [List.drop_eq_getElem_cons hk, he]
 rfl
theorem takesJ_cut {M : Mem} {js : List Jb} {k : Nat} {n : Nd} (h : js[k]? = some (true, n)) (met : List Nat) : takesJ M (js.drop k) met = takesJ M (js.drop (k + 1)) met := by
 obtain ⟨hk, he⟩ := List.getElem?_eq_some_iff.1 h
 rw [List.drop_eq_getElem_cons hk, he]
 rfl
theorem takesJ_put {M : Mem} {js : List Jb} {k : Nat} {n : Nd} (h : js[k]? = some (false, n)) (met : List Nat) : takesJ M (js.drop k) met = if n.1 = 0 then none else (takeW M n.1 4 met).bind (takesJ M (js.drop (k + 1))) := by
 obtain ⟨hk, he⟩ := List.getElem?_eq_some_iff.1 h
 rw [List.drop_eq_getElem_cons hk, he]
 rfl
/-- How long what is taken is. -/
theorem takeN_len {M : Mem} : ∀ {k p : Nat} {met met' : List Nat}, takeN M p k met = some met' → met'.length = met.length + k
 | 0, p, met, met', h => by cases h; rfl
 | k + 1, p, met, met', h => by
  unfold takeN at h
  split at h
  ·have := takeN_len h
   rw [this, List.length_append]; simp; omega
  ·cases h
theorem takeW_len {M : Mem} {k p : Nat} {met met' : List Nat} (h : takeW M p k met = some met') : met'.length = met.length + k := by
 unfold takeW at h
 split at h
 ·cases h
 ·exact takeN_len h
/-- What is taken was live and is taken once. -/
theorem takeN_spec {M : Mem} : ∀ {k p : Nat} {met met' : List Nat}, takeN M p k met = some met' → (∀ i, i < k → liveN M (p + i) = true) ∧ (met.Nodup → met'.Nodup) ∧ ∀ x, x ∈ met' ↔ x ∈ met ∨ (p ≤ x ∧ x < p + k)
 | 0, p, met, met', h => by
  cases h
  exact ⟨fun i hi => by omega, id, fun x => ⟨.inl, fun h => h.elim id (fun h => by omega)⟩⟩
 | k + 1, p, met, met', h => by
  unfold takeN at h
  split at h
  ·rename_i hf
   obtain ⟨h1, h2, h3⟩ := takeN_spec h
   unfold freeB at hf
   simp only [Bool.and_eq_true, Bool.not_eq_true', decide_eq_false_iff_not] at hf
   refine ⟨fun i hi => ?_, fun hn => h2 ?_, fun x => ?_⟩
   ·cases i with
    | zero => exact hf.1
    | succ i => have := h1 i (by omega); rwa [show p + (i + 1) = p + 1 + i by omega]
   ·rw [List.nodup_append]
    refine ⟨hn, by simp, fun a ha b hb => ?_⟩
    rw [List.mem_singleton] at hb
    rintro rfl
    exact hf.2 (hb ▸ ha)
   ·rw [h3 x, List.mem_append, List.mem_singleton]
    constructor
    ·rintro ((h | h) | h)
     ·exact .inl h
     ·exact .inr (by omega)
     ·exact .inr (by omega)
    ·rintro (h | h)
     ·exact .inl (.inl h)
     ·by_cases e : x = p
      ·exact .inl (.inr e)
      ·exact .inr (by omega)
  ·cases h
end Go.Proofs.YtipohagcppfgiaaGreat
namespace Go.Proofs.YtipohagcppfgiaaGreat
open Go.RowKit
open Go.Proofs
set_option linter.unusedVariables false
attribute [local go_sem] Oper.semAt_some
/-- Two variables that are written. -/
theorem two_cells {W : World} {A B : Nat} {x y : Value} {T T' : TypeId} (hA : W.heap[A]? = some (.cells #[x] T (0, 0))) (hB : W.heap[B]? = some (.cells #[y] T' (0, 0))) (hne : A ≠ B) (u v : Value) :
  ∃ W', (W.setCell ⟨A, 0, none⟩ u).setCell ⟨B, 0, none⟩ v = W' ∧ W'.heap[A]? = some (.cells #[u] T (0, 0)) ∧ W'.heap[B]? = some (.cells #[v] T' (0, 0)) ∧
   (∀ (k : Nat) (o : Obj), k ≠ A → k ≠ B → W.heap[k]? = some o → W'.heap[k]? = some o) ∧ (∀ V : World, V.heap.size ≤ A → V.heap.size ≤ B → Below V.heap.size V W → Below V.heap.size V W') :=
 ⟨_, rfl, olD (i := 0) (slD (i := 0) hA u) hne v, slD (i := 0) (olD (i := 0) hB (Ne.symm hne) u) v,
  fun k o h1 h2 ho => olD (olD ho h1 _) h2 _, fun V h1 h2 hb => (hb.setCell (p := ⟨A, 0, none⟩) h1 u).setCell (p := ⟨B, 0, none⟩) h2 v⟩
theorem putN5 {V : World} {Y : Nat} {z0 z1 z2 z3 z4 : Value} {T : TypeId} (h : V.heap[Y]? = some (.cells #[z0, z1, z2, z3, z4] T (0, 0))) (v0 v1 v2 v3 v4 : Value) :
  ∃ V', V' = (((((V.setCell ⟨Y, 0, none⟩ v0).setCell ⟨Y, 1, none⟩ v1).setCell ⟨Y, 2, none⟩ v2).setCell ⟨Y, 3, none⟩ v3).setCell ⟨Y, 4, none⟩ v4) ∧ V'.heap[Y]? = some (.cells #[v0, v1, v2, v3, v4] T (0, 0)) ∧ (∀ (k : Nat) (o : Obj), k ≠ Y → V.heap[k]? = some o → V'.heap[k]? = some o) ∧ (∀ (B : Nat) (w : World), B ≤ Y → Below B w V → Below B w V') ∧ V.grownBy V' (some Y) := by
 obtain ⟨V0, hV0⟩ : ∃ W, V.setCell ⟨Y, 0, none⟩ v0 = W := ⟨_, rfl⟩
 have h0 : V0.heap[Y]? = some (.cells #[v0, z1, z2, z3, z4] T (0, 0)) := by rw [← hV0]; exact slD (i := 0) h v0
 obtain ⟨V1, hV1⟩ : ∃ W, V0.setCell ⟨Y, 1, none⟩ v1 = W := ⟨_, rfl⟩
 have h1 : V1.heap[Y]? = some (.cells #[v0, v1, z2, z3, z4] T (0, 0)) := by rw [← hV1]; exact slD (i := 1) h0 v1
 obtain ⟨V2, hV2⟩ : ∃ W, V1.setCell ⟨Y, 2, none⟩ v2 = W := ⟨_, rfl⟩
 have h2 : V2.heap[Y]? = some (.cells #[v0, v1, v2, z3, z4] T (0, 0)) := by rw [← hV2]; exact slD (i := 2) h1 v2
 obtain ⟨V3, hV3⟩ : ∃ W, V2.setCell ⟨Y, 3, none⟩ v3 = W := ⟨_, rfl⟩
 have h3 : V3.heap[Y]? = some (.cells #[v0, v1, v2, v3, z4] T (0, 0)) := by rw [← hV3]; exact slD (i := 3) h2 v3
 obtain ⟨V4, hV4⟩ : ∃ W, V3.setCell ⟨Y, 4, none⟩ v4 = W := ⟨_, rfl⟩
 have h4 : V4.heap[Y]? = some (.cells #[v0, v1, v2, v3, v4] T (0, 0)) := by rw [← hV4]; exact slD (i := 4) h3 v4
 refine ⟨V4, by rw [hV0, hV1, hV2, hV3, hV4], h4, fun k o hk ho => ?_, fun B w hB hb => ?_, ?_⟩
 ·rw [← hV4, ← hV3, ← hV2, ← hV1, ← hV0]; exact (olD (olD (olD (olD (olD ho hk _) hk _) hk _) hk _) hk _)
 ·rw [← hV4, ← hV3, ← hV2, ← hV1, ← hV0]; exact (((((hb.setCell (p := ⟨Y, 0, none⟩) hB _).setCell (p := ⟨Y, 1, none⟩) hB _).setCell (p := ⟨Y, 2, none⟩) hB _).setCell (p := ⟨Y, 3, none⟩) hB _).setCell (p := ⟨Y, 4, none⟩) hB _)
 ·rw [← hV4, ← hV3, ← hV2, ← hV1, ← hV0]; exact (grownBy_trans (grownBy_trans (grownBy_trans (grownBy_trans (grownBy_setCell _ Y 0 _) (grownBy_setCell _ Y 1 _)) (grownBy_setCell _ Y 2 _)) (grownBy_setCell _ Y 3 _)) (grownBy_setCell _ Y 4 _))
theorem IdsI.neC {w : World} {M b : Nat} {l : List (Nat × Nat)} {cs : Array Value} {T : TypeId} (h : IdsI w M l) (hb : w.heap[b]? = some (.cells cs T (0, 0))) : M ≠ b := by
 obtain ⟨es, clock, hm, -⟩ := h
 rintro rfl
 rw [hm] at hb
 cases hb
/-- What lies while words are taken. -/
structure WNk (V : World) (Z2 Z3 X MB B3 : Nat) (cx : Array Value) (v : Value) (xs : List Nd) (met : List Nat) (W : World) : Prop where
 b2 : W.heap[Z2]? = some (.cells #[v] 36 (0, 0))
 b3 : W.heap[Z3]? = some (.cells #[.int .i64 0] 34 (0, 0))
 bx : W.heap[X]? = some (.cells cx 30 (0, 0))
 ids : IdsI W MB (ones met)
 row : W.ownsRow B3 42 4 v xs.length (ndcells xs)
 below : Below V.heap.size V W
theorem WNk.grow {V : World} {Z2 Z3 X MB B3 : Nat} {cx : Array Value} {v : Value} {xs : List Nd} {met : List Nat} {W W' : World} (h : WNk V Z2 Z3 X MB B3 cx v xs met W) (hb : Below W.heap.size W W') : WNk V Z2 Z3 X MB B3 cx v xs met W' :=
 ⟨klD h.b2 hb, klD h.b3 hb, klD h.bx hb, h.ids.grow hb, ogr h.row hb, step h.below hb⟩
theorem WNk.took {V : World} {Z2 Z3 X MB B3 : Nat} {cx : Array Value} {v : Value} {xs : List Nd} {met met' : List Nat} {W W' : World} (h : WNk V Z2 Z3 X MB B3 cx v xs met W) (hg : W.grownBy W' (some MB)) (hi : IdsI W' MB (ones met')) (hm : V.heap.size ≤ MB) : WNk V Z2 Z3 X MB B3 cx v xs met' W' :=
 ⟨kgr h.b2 hg (fun e => h.ids.neC h.b2 (Option.some.inj e)), kgr h.b3 hg (fun e => h.ids.neC h.b3 (Option.some.inj e)), kgr h.bx hg (fun e => h.ids.neC h.bx (Option.some.inj e)), hi,
  okp h.row (fun k o hk ho => kgr ho hg (fun e => by obtain ⟨cur, hc⟩ := own_type h.row k hk; exact h.ids.neC hc (Option.some.inj e))), h.below.trans (below_grown hg hm h.below.size)⟩
theorem wn_nodesP_ok {M : Mem} {head : Nat} (h : (nodesP M head).2 = 0) : okM M = true ∧ nodesR M head = some (nodesP M head).1 := by
 unfold nodesP at h ⊢
 cases hok : okM M with
 | false => rw [hok, if_pos rfl] at h; cases h
 | true =>
  rw [hok, if_neg (by decide)] at h
  rw [if_neg (by decide)]
  cases hn : nodesR M head with
  | none => rw [hn] at h; cases h
  | some ys => exact ⟨rfl, rfl⟩
def wFin (xs : List Nd) : Option (List Nat) → List Nd × Nat
 | none => ([], 2)
 | some _ => (xs, 0)
theorem takes_nil {M : Mem} {xs : List Nd} {k : Nat} (h : xs.length ≤ k) (met : List Nat) : takes M (xs.drop k) met = some met := by rw [List.drop_eq_nil_of_le h]; rfl
theorem takesJ_nil {M : Mem} {js : List Jb} {k : Nat} (h : js.length ≤ k) (met : List Nat) : takesJ M (js.drop k) met = some met := by rw [List.drop_eq_nil_of_le h]; rfl
theorem jbcell_at {js : List Jb} {k : Nat} {j : Jb} (h : js[k]? = some j) (i : Nat) (hi : i < 5) : (jbcells js)[k * 5 + i]? = (jb5 j)[i]? := flat_at jb5 5 (fun _ => rfl) js k i j h hi
set_option maxRecDepth 100000 in
set_option maxHeartbeats 4000000 in
theorem wNodes_any (w : Wal) (wa la ja ka : Option Addr) (wc lc jc kc nj nk : Nat) (V : World) (h : MemL V wa wc la lc w.M) (hh : w.head < 18446744073709551616) (hW : ∀ x ∈ w.M.W, x < 18446744073709551616)
  (hj : Leads V ja nj jc (jbcells w.J)) (hnj : w.J.length = nj) (hjo : ∀ x ∈ w.J, x.2.Ok) (hk : Leads V ka nk kc (kycells w.K)) (hnk : w.K.length = nk) :
  Calls Tryz.prog 50 #[.agg #[.slice wa w.M.W.length wc, .slice la w.M.L.length lc, .bool w.M.F, .int .u64 w.head, .slice ja nj jc, .slice ka nk kc]] V (GivesNd (wNodes w) V) := by
 obtain ⟨V1, hV1, hb1, hs1, hl1⟩ := laid V #[.slice wa w.M.W.length wc, .slice la w.M.L.length lc, .bool w.M.F, .int .u64 w.head, .slice ja nj jc, .slice ka nk kc] 30
 obtain ⟨V2, hV2, hb2, hs2, hl2⟩ := laid V1 #[.slice none 0 0] 36
 obtain ⟨V3, hV3, hb3, hs3, hl3⟩ := laid V2 #[.int .i64 0] 34
 obtain ⟨X, hX⟩ := nm (V.heap.size)
 obtain ⟨Z2, hZ2⟩ := nm (V1.heap.size)
 obtain ⟨Z3, hZ3⟩ := nm (V2.heap.size)
 rw [hX] at hl1
 rw [hZ2] at hl2
 rw [hZ3] at hl3
 have KX := hid (klD hl1 (step hb2 hb3))
 have K2 := hid (klD hl2 hb3)
 have K3 := hid hl3
 have HB := hid (step (step hb1 hb2) hb3)
 have hX2 : X < Z2 := by omega
 have h23 : Z2 < Z3 := by omega
 have n23 : Z2 ≠ Z3 := by omega
 have n32 : Z3 ≠ Z2 := by omega
 have HVX := hid hX
 have hML := h.grow HB.out
 have HM := hid hML
 have HM0 := hid h
 have HWO := hid hW
 have HND := hid (Nodes_any w.M wa la wc lc w.head V3 hML hh hW)
 unfold memV at HND
 have HJ := hid (hj.grow HB.out)
 have HJ0 := hid hj
 have HKY := hid (hk.grow HB.out)
 have HNJ := hid hnj
 have HNK := hid hnk
 have HJO := hid hjo
 have hwl := h.w.len
 have hll := h.l.len
 have hjl := hj.len
 have hkl := hk.len
 obtain ⟨RES, hRES⟩ := nm (wNodes w)
 rw [hRES]
 have HRES := hid hRES
 obtain ⟨XS, E, hNP⟩ : ∃ XS E, nodesP w.M w.head = (XS, E) := ⟨_, _, rfl⟩
 rw [hNP] at HND
 have HNP := hid hNP
 obtain ⟨hd, hhd⟩ := nm (w.head)
 obtain ⟨wl, hwl'⟩ := nm (w.M.W.length)
 obtain ⟨ll, hll'⟩ := nm (w.M.L.length)
 obtain ⟨f, hf⟩ := nm (w.M.F)
 rw [hhd, hwl', hll', hf] at hV1 KX HND ⊢
 rw [hhd] at hh
 rw [hwl'] at hwl
 rw [hll'] at hll
 have HHD := hid hhd
 have HWL := hid hwl'
 have HLL := hid hll'
 have HF := hid hf
 have hmf : ∀ (fn : Fn) (first cap : Array Value) (w : World), (Instr.makeFunc fn first cap).run Tryz.prog w = .ok (.func fn first cap) w := fun _ _ _ _ => rfl
 clear h hj hk hW hjo hb1 hs1 hl1 hb2 hs2 hl2 hb3 hs3 hl3 hML hRES hNP hhd hwl' hll' hf hnj hnk
 have x0 := clD (i := 0) KX.out rfl
 have x1 := clD (i := 1) KX.out rfl
 have x2 := clD (i := 2) KX.out rfl
 have x3 := clD (i := 3) KX.out rfl
 refine calls_of_wp_marks Tryz.func50 rfl ?_
 simp only [Tryz.ntmps50, List.size_toArray, List.length_cons, List.length_nil, Nat.reduceAdd, Nat.reduceSub, Array.replicate_succ, Array.replicate_zero, List.push_toArray, List.append_toArray, List.nil_append, List.cons_append]
 go_upto_region 2 with (fail)
 clear hV1 hV2 hV3 hZ2 hZ3
 go_wp2_with fail
 refine HND.out.mono ?_
 rintro e w4 ⟨v, rfl, hrow, hb4⟩
 have k2 := klD K2.out hb4
 have k3 := klD K3.out hb4
 have kx := klD KX.out hb4
 have hBw := step HB.out hb4
 have a2 : v.ownBlock ≠ some Z2 := fun e => by have := (hrow.lt _ e).1; have := llD K2.out; omega
 have a3 : v.ownBlock ≠ some Z3 := fun e => by have := (hrow.lt _ e).1; have := llD K3.out; omega
 obtain ⟨va, vc, rfl, -⟩ := Leads.of_own hrow
 have hxl := (Leads.of_own1 hrow).len
 obtain ⟨xl, hxl'⟩ := nm (XS.length)
 have HXL := hid hxl'
 dsimp only at hrow hxl
 rw [hxl'] at hrow a2 a3 hxl ⊢
 have f2 := flD (i := 0) k2
 have f3 := flD (i := 0) k3
 have c2 := clD (i := 0) k2 rfl
 have c3 := clD (i := 0) k3 rfl
 obtain ⟨w5, hw5, p2, p3, pk, pb⟩ := two_cells k2 k3 n23 (.slice va xl vc) (.int .i64 E)
 have P2 := hid p2
 have P3 := hid p3
 have PX := hid (pk _ _ (by omega) (by omega) kx)
 have PB := hid (pb V (by omega) (by omega) hBw)
 have PR := hid (okp hrow fun k o hk ho => pk k o (fun e => a2 (e ▸ hk)) (fun e => a3 (e ▸ hk)) ho)
 have HS5 : Hid (V.heap.size ≤ V3.heap.size) := hid HB.out.size
 clear k2 k3 kx hBw hb4 hrow a2 a3 hxl' p2 p3 pk pb x0 x1 x2 x3 K2 K3 KX HB HND
 have d3 := clD (i := 0) P3.out rfl
 have d2 := clD (i := 0) P2.out rfl
 by_cases hE : E = 0
 ·subst hE
  have hw5 : (w4.setCell ⟨Z2, 0, none⟩ (.slice va xl vc)).setCell ⟨Z3, 0, none⟩ (.int .i64 0) = w5 := hw5
  have d3 : w5.cell? ⟨Z3, 0, none⟩ = some (.int .i64 0) := d3
  have x0 := clD (i := 0) PX.out rfl
  have x1 := clD (i := 1) PX.out rfl
  have x2 := clD (i := 2) PX.out rfl
  have x3 := clD (i := 3) PX.out rfl
  have x4 := clD (i := 4) PX.out rfl
  have x5 := clD (i := 5) PX.out rfl
  have HMM : Hid (w.M.L.length = w.M.W.length) := hid (by
   have h0 := HNP.out
   unfold nodesP at h0
   cases hq : okM w.M with
   | false => rw [hq] at h0; simp at h0
   | true => obtain ⟨-, -, hmn, -⟩ := okM_spec hq; first | exact hmn | exact hmn.symm)
  cases f with
  | true =>
   have hR : Hid (RES = ([], 120)) := hid (by rw [← HRES.out]; unfold wNodes; rw [HNP.out, if_neg (by simp), if_pos HF.out])
   obtain ⟨w6, hw6, q2, q3, qk, qb⟩ := two_cells P2.out P3.out n23 (.slice none 0 0) (.int .i64 120)
   have Q2 := hid q2
   have Q3 := hid q3
   have QB := hid (qb V (by omega) (by omega) PB.out)
   have g2 := flD (i := 0) P2.out
   have g3 := flD (i := 0) P3.out
   clear q2 q3 qk qb
   go_wp2_with (first | rw [hw5] | rw [hw6])
   refine leaves_none (wn_result Q2.out Q3.out rfl rfl) ?_
   rw [hR.out]
   exact ⟨_, rfl, World.ownsRow_nil _ _ _ _, QB.out⟩
  | false =>
   by_cases hbig : 16 < nj ∨ 8 < nk
   ·have hR : Hid (RES = ([], 2)) := hid (by rw [← HRES.out]; unfold wNodes; rw [HNP.out, if_neg (by simp), if_neg (by rw [HF.out]; decide), if_pos (by rw [HNJ.out, HNK.out]; exact hbig)])
    obtain ⟨w6, hw6, q2, q3, qk, qb⟩ := two_cells P2.out P3.out n23 (.slice none 0 0) (.int .i64 2)
    have Q2 := hid q2
    have Q3 := hid q3
    have QB := hid (qb V (by omega) (by omega) PB.out)
    have g2 := flD (i := 0) P2.out
    have g3 := flD (i := 0) P3.out
    clear q2 q3 qk qb
    by_cases hb1 : 16 < nj
    ·have t1 : decide ((16 : Int) < ((nj : Nat) : Int)) = true := decide_eq_true (by omega)
     have t1n : decide (16 < nj) = true := decide_eq_true hb1
     clear hbig
     go_wp2_with (first | rw [hw5] | rw [hw6])
     refine leaves_none (wn_result Q2.out Q3.out rfl rfl) ?_
     rw [hR.out]
     exact ⟨_, rfl, World.ownsRow_nil _ _ _ _, QB.out⟩
    ·have hb2 : 8 < nk := hbig.resolve_left hb1
     have t1 : decide ((16 : Int) < ((nj : Nat) : Int)) = false := decide_eq_false (by omega)
     have t1n : decide (16 < nj) = false := decide_eq_false hb1
     have t2 : decide ((8 : Int) < ((nk : Nat) : Int)) = true := decide_eq_true (by omega)
     have t2n : decide (8 < nk) = true := decide_eq_true hb2
     clear hbig
     go_wp2_with (first | rw [hw5] | rw [hw6])
     refine leaves_none (wn_result Q2.out Q3.out rfl rfl) ?_
     rw [hR.out]
     exact ⟨_, rfl, World.ownsRow_nil _ _ _ _, QB.out⟩
   ·have t1 : decide ((16 : Int) < ((nj : Nat) : Int)) = false := decide_eq_false (by omega)
    have t2 : decide ((8 : Int) < ((nk : Nat) : Int)) = false := decide_eq_false (by omega)
    have t1n : decide (16 < nj) = false := decide_eq_false (by omega)
    have t2n : decide (8 < nk) = false := decide_eq_false (by omega)
    have hnj16 : nj ≤ 16 := by omega
    go_upto_region 9 with (rw [hw5])
    obtain ⟨w6, hw6⟩ := nm (w5.alloc (.map #[] 0))
    have hbn : Below w5.heap.size w5 w6 := by rw [← hw6]; exact (Below.refl _ _).alloc (Nat.le_refl _) _
    have hid0 : IdsI w6 w5.heap.size (ones []) := by rw [← hw6]; exact IdsI.made w5
    obtain ⟨MB, hMB⟩ := nm (w5.heap.size)
    rw [hMB] at hid0
    have HI6 := hid hid0
    have hmb : Z3 < MB := by have := llD P3.out; omega
    have HMB : Hid (V.heap.size ≤ MB) := hid (by have := PB.out.size; omega)
    have T2 := hid (klD P2.out hbn)
    have T3 := hid (klD P3.out hbn)
    have TX := hid (klD PX.out hbn)
    have TB := hid (step PB.out hbn)
    have TR := hid (ogr PR.out hbn)
    have hmm := @run_makeMap Tryz.prog
    have HBG := hid hbig
    clear hbn hid0 P2 P3 PX PB PR d2 d3 x0 x1 x2 x3 x4 x5 hbig
    have x0 := clD (i := 0) TX.out rfl
    have x1 := clD (i := 1) TX.out rfl
    have x2 := clD (i := 2) TX.out rfl
    have x3 := clD (i := 3) TX.out rfl
    have HTK := hid (take_any w.M wa la wc lc MB hd 1 [] w6 (HM0.out.grow TB.out) HMM.out HI6.out hh (by omega) (by simp))
    unfold memV at HTK
    rw [HWL.out, HLL.out, HF.out] at HTK
    go_wp2_with (rw [hw6])
    refine HTK.out.mono ?_
    rintro e w7 ⟨hg, ⟨met, hmet, rfl, hi7⟩ | ⟨hmet, rfl⟩⟩
    ·skip
     have S0 : WNk V Z2 Z3 X MB V3.heap.size #[.slice wa wl wc, .slice la ll lc, .bool false, .int .u64 hd, .slice ja nj jc, .slice ka nk kc] (.slice va xl vc) XS [] w6 :=
      ⟨T2.out, T3.out, TX.out, HI6.out, by rw [HXL.out]; exact TR.out, TB.out⟩
     have S7 := hid (S0.took hg hi7 HMB.out)
     have HMT := hid hmet
     have HXN : Hid (4 * xl + 1 ≤ 4096 ∧ ∀ x ∈ XS, x.Ok) := hid (by
      have h0 := HNP.out
      obtain ⟨hok, hr⟩ := wn_nodesP_ok (M := w.M) (head := w.head) (by rw [h0])
      rw [h0] at hr
      obtain ⟨hw', -⟩ := nodesR_some hr
      exact ⟨by rw [← HXL.out]; exact nodesW_len hok hw', nodesW_ok HWO.out hw'⟩)
     obtain ⟨T1, hT1⟩ := nm (takes w.M XS met)
     have HT1 := hid hT1
     have HRS : Hid (RES = wFin XS (T1.bind (takesJ w.M w.J))) := hid (by
      rw [← HRES.out]; unfold wNodes wAll
      rw [HNP.out, if_neg (by simp), if_neg (by rw [HF.out]; decide), if_neg (by rw [HNJ.out, HNK.out]; exact HBG.out), HHD.out, hmet]
      dsimp only [Option.bind_some]
      rw [hT1]
      cases T1.bind (takesJ w.M w.J) <;> rfl)
     have hxl5 : xl ≤ 1024 := by have := HXN.out.1; omega
     have hmt1 : met.length = 1 := by have := takeW_len hmet; simpa using this
     have HM1 := hid hmt1
     clear hg hi7 S0 hmet hT1 T2 T3 TX TB TR HI6 HTK hmm HBG hmt1 x0 x1 x2 x3 hw5 hw6 HRES
     obtain ⟨y0⟩ : Nonempty (w7.cell? ⟨Z2, 0, none⟩ = some (.slice va xl vc)) := ⟨clD (i := 0) S7.out.b2 rfl⟩
     go_wp2
     go_loopg [46] xl (fun g i wr => ∃ (k : Nat) (met2 : List Nat), g + k = xl ∧ i = .int .i64 k ∧ Hid (WNk V Z2 Z3 X MB V3.heap.size #[.slice wa wl wc, .slice la ll lc, .bool false, .int .u64 hd, .slice ja nj jc, .slice ka nk kc] (.slice va xl vc) XS met2 wr) ∧ Hid (takes w.M (XS.drop k) met2 = T1) ∧ Hid (met2.length = 1 + 4 * k))
     case atStart => exact ⟨0, met, rfl, rfl, S7, hid (by rw [List.drop_zero]; exact HT1.out), hid (by rw [HM1.out])⟩
     case round =>
      obtain ⟨k, met2, hk, rfl, hS, hT, hlen⟩ := hrel
      have HK := hid hk
      clear hk y0 S7
      by_cases hlt : k < xl
      ·have tl : decide (((k : Nat) : Int) < ((xl : Nat) : Int)) = true := decide_eq_true (by omega)
       obtain ⟨⟨p0, p1, p2, p3⟩, hp⟩ : ∃ x, XS[k]? = some x := ⟨_, List.getElem?_eq_getElem (by rw [HXL.out]; exact hlt)⟩
       obtain ⟨b, off, rfl, hcc⟩ : ∃ b o, va = some ⟨b, o, none⟩ ∧ ∀ i v, (ndcells XS)[i]? = some v → wr.cell? ⟨b, o + i, none⟩ = some v := by
        have hrow := hS.out.row
        rw [HXL.out] at hrow
        obtain ⟨_, _, ⟨q, _⟩ | ⟨b, off, e, _, h4⟩⟩ := Leads.of_own1 hrow
        ·omega
        ·exact ⟨b, off, e, h4⟩
       have hat : ∀ i, i < 4 → (ndcells XS)[k * 4 + i]? = (nd4 (p0, p1, p2, p3))[i]? := fun i hi => flat_at nd4 4 (fun _ => rfl) XS k i _ hp hi
       have c0 : wr.cell? ⟨b, off + k * 4, none⟩ = some (.int .u64 p0) := hcc (k * 4 + 0) _ (hat 0 (by decide))
       have c1 : wr.cell? ⟨b, off + k * 4 + 1, none⟩ = some (.int .u64 p1) := hcc (k * 4 + 1) _ (hat 1 (by decide))
       have c2 : wr.cell? ⟨b, off + k * 4 + 2, none⟩ = some (.int .u64 p2) := hcc (k * 4 + 2) _ (hat 2 (by decide))
       have c3 : wr.cell? ⟨b, off + k * 4 + 3, none⟩ = some (.int .u64 p3) := hcc (k * 4 + 3) _ (hat 3 (by decide))
       have hp0 : p0 < 18446744073709551616 := (HXN.out.2 _ (List.mem_of_getElem? hp)).1
       have HP := hid hp
       obtain ⟨u1, hu1, hbu, hsu, hlu⟩ := laid wr #[.int .u64 0, .int .u64 0, .int .u64 0, .int .u64 0] 42
       obtain ⟨B, hB⟩ := nm (wr.heap.size)
       rw [hB] at hlu
       obtain ⟨u2, hu2, a1, a2, a3⟩ := put4 hlu (.int .u64 p0) (.int .u64 p1) (.int .u64 p2) (.int .u64 p3)
       obtain ⟨z0, zf0, z1, zf1, z2, zf2, z3, zf3⟩ := fcl4 hlu
       have hb12 : Below wr.heap.size wr u2 := a3 _ wr (by omega) hbu
       have HS2 := hid (hS.out.grow hb12)
       have e0 := clD (i := 0) a1 rfl
       have HU2 := hid hu2
       have x0 := clD (i := 0) HS2.out.bx rfl
       have x1 := clD (i := 1) HS2.out.bx rfl
       have x2 := clD (i := 2) HS2.out.bx rfl
       have HTK := hid (take_any w.M wa la wc lc MB p0 4 met2 u2 (HM0.out.grow HS2.out.below) HMM.out HS2.out.ids hp0 (by omega) (by have := hlen.out; omega))
       unfold memV at HTK
       rw [HWL.out, HLL.out, HF.out] at HTK
       clear hu2 a1 a2 a3 hbu hsu hlu hcc hat hp hb12 hS
       obtain ⟨G, hG⟩ : ∃ G, G = gk - 1 := ⟨_, rfl⟩
       have HG := hid hG
       clear hG
       go_upto_region 14 with (fail)
       rw [← HU2.out]
       clear c0 c1 c2 c3 z0 z1 z2 z3 zf0 zf1 zf2 zf3 HU2 hu1
       go_wp2_with fail
       refine HTK.out.mono ?_
       rintro e w8 ⟨hg, ⟨met3, hmet3, rfl, hi8⟩ | ⟨hmet3, rfl⟩⟩
       ·have S8 := hid (HS2.out.took hg hi8 HMB.out)
        have HM3 := hid hmet3
        clear hg hi8 hmet3 HTK HS2 x0 x1 x2 e0
        have hk1 : Hid (takes w.M (XS.drop (k + 1)) met3 = T1) := hid (by
         have := hT.out
         rw [takes_step HP.out, HM3.out] at this
         exact this)
        have hl1 : Hid (met3.length = 1 + 4 * (k + 1)) := hid (by have := takeW_len HM3.out; have := hlen.out; omega)
        go_wp2
        go_roundg G
        case measure => have := HG.out; have := HK.out; omega
        case rel => exact ⟨k + 1, met3, by have := HG.out; have := HK.out; omega, rfl, S8, hk1, hl1⟩
       ·have hR : Hid (RES = ([], 2)) := hid (by
         have h1 := hT.out
         rw [takes_step HP.out, hmet3] at h1
         have h2 : T1 = none := h1.symm
         rw [HRS.out, h2]
         rfl)
        have S8 : WNk V Z2 Z3 X MB V3.heap.size #[.slice wa wl wc, .slice la ll lc, .bool false, .int .u64 hd, .slice ja nj jc, .slice ka nk kc] (.slice (some ⟨b, off, none⟩) xl vc) XS met2 u2 := HS2.out
        have g2 := kgr S8.b2 hg (fun e => S8.ids.neC S8.b2 (Option.some.inj e))
        have g3 := kgr S8.b3 hg (fun e => S8.ids.neC S8.b3 (Option.some.inj e))
        have gB := S8.below.trans (below_grown hg HMB.out S8.below.size)
        refine leaves_caughtK g2 g3 gB (by omega) (by omega) rfl rfl fun W' hb e he => ?_
        rw [hR.out]
        exact ⟨_, he, World.ownsRow_nil _ _ _ _, hb⟩
      ·have tl : decide (((k : Nat) : Int) < ((xl : Nat) : Int)) = false := decide_eq_false (by omega)
       obtain rfl : T1 = some met2 := by
        have := hT.out
        rw [takes_nil (by rw [HXL.out]; omega)] at this
        exact this.symm
       have hlen2 : Hid (met2.length = 1 + 4 * xl) := hid (by have := hlen.out; have := HK.out; omega)
       have x2 := clD (i := 4) hS.out.bx rfl
       clear hT hlen HT1
       go_wp2
       have HS7 := hid hS.out
       obtain ⟨T2, hT2⟩ := nm (takesJ w.M w.J met2)
       have HT2 := hid hT2
       have HRS2 : Hid (RES = wFin XS T2) := hid (by rw [HRS.out]; dsimp only [Option.bind_some]; rw [hT2])
       clear hT2 hS HRS x2
       go_loopg [60] nj (fun g i wr => ∃ (k : Nat) (met3 : List Nat), g + k = nj ∧ i = .int .i64 k ∧ Hid (WNk V Z2 Z3 X MB V3.heap.size #[.slice wa wl wc, .slice la ll lc, .bool false, .int .u64 hd, .slice ja nj jc, .slice ka nk kc] (.slice va xl vc) XS met3 wr) ∧ Hid (takesJ w.M (w.J.drop k) met3 = T2) ∧ Hid (met3.length ≤ 1 + 4 * xl + 4 * k))
       case atStart => exact ⟨0, met2, rfl, rfl, HS7, hid (by rw [List.drop_zero]; exact HT2.out), hid (by rw [hlen2.out]; omega)⟩
       case round =>
        clear HS7 HK hlt tl HT2
        obtain ⟨k, met3, hk, rfl, hS, hT, hlen⟩ := hrel
        have HK := hid hk
        clear hk
        by_cases hlt2 : k < nj
        ·have tl2 : decide (((k : Nat) : Int) < ((nj : Nat) : Int)) = true := decide_eq_true (by omega)
         obtain ⟨⟨cb, p0, p1, p2, p3⟩, hp⟩ : ∃ x, w.J[k]? = some x := ⟨_, List.getElem?_eq_getElem (by rw [HNJ.out]; exact hlt2)⟩
         obtain ⟨b, off, rfl, hcc⟩ : ∃ b o, ja = some ⟨b, o, none⟩ ∧ ∀ i v, (jbcells w.J)[i]? = some v → wr.cell? ⟨b, o + i, none⟩ = some v := by
          obtain ⟨_, _, ⟨q, _⟩ | ⟨b, off, e, _, h4⟩⟩ := HJ0.out.grow hS.out.below
          ·omega
          ·exact ⟨b, off, e, h4⟩
         have hat : ∀ i, i < 5 → (jbcells w.J)[k * 5 + i]? = (jb5 (cb, p0, p1, p2, p3))[i]? := fun i hi => jbcell_at hp i hi
         have c0 : wr.cell? ⟨b, off + k * 5, none⟩ = some (.bool cb) := hcc (k * 5 + 0) _ (hat 0 (by decide))
         have c1 : wr.cell? ⟨b, off + k * 5 + 1, none⟩ = some (.int .u64 p0) := hcc (k * 5 + 1) _ (hat 1 (by decide))
         have c2 : wr.cell? ⟨b, off + k * 5 + 2, none⟩ = some (.int .u64 p1) := hcc (k * 5 + 2) _ (hat 2 (by decide))
         have c3 : wr.cell? ⟨b, off + k * 5 + 3, none⟩ = some (.int .u64 p2) := hcc (k * 5 + 3) _ (hat 3 (by decide))
         have c4 : wr.cell? ⟨b, off + k * 5 + 4, none⟩ = some (.int .u64 p3) := hcc (k * 5 + 4) _ (hat 4 (by decide))
         have hp0 : p0 < 18446744073709551616 := (HJO.out _ (List.mem_of_getElem? hp)).1
         have HP := hid hp
         obtain ⟨u1, hu1, hbu, hsu, hlu⟩ := laid wr #[.bool false, .int .u64 0, .int .u64 0, .int .u64 0, .int .u64 0] 66
         obtain ⟨B, hB⟩ := nm (wr.heap.size)
         rw [hB] at hlu
         obtain ⟨u2, hu2, a1, a2, a3, a4⟩ := putN5 hlu (.bool cb) (.int .u64 p0) (.int .u64 p1) (.int .u64 p2) (.int .u64 p3)
         obtain ⟨z0, zf0, z1, zf1, z2, zf2, z3, zf3, z4, zf4⟩ := fcl5 hlu
         have hb12 : Below wr.heap.size wr u2 := a3 _ wr (by omega) hbu
         have HS2 := hid (hS.out.grow hb12)
         have e0 := clD (i := 0) a1 rfl
         have e1 := clD (i := 1) a1 rfl
         have HU2 := hid hu2
         have x0 := clD (i := 0) HS2.out.bx rfl
         have x1 := clD (i := 1) HS2.out.bx rfl
         have x2 := clD (i := 2) HS2.out.bx rfl
         clear hu2 a1 a2 a3 a4 hbu hsu hlu hcc hat hp hb12 hS
         obtain ⟨G, hG⟩ : ∃ G, G = gk - 1 := ⟨_, rfl⟩
         have HG := hid hG
         clear hG
         go_upto_region 19 with (fail)
         rw [← HU2.out]
         clear c0 c1 c2 c3 c4 z0 z1 z2 z3 z4 zf0 zf1 zf2 zf3 zf4 HU2 hu1
         cases cb with
         | true =>
          have hk1 : Hid (takesJ w.M (w.J.drop (k + 1)) met3 = T2) := hid (by
           have := hT.out
           rw [takesJ_cut HP.out] at this
           exact this)
          have hl1 : Hid (met3.length ≤ 1 + 4 * xl + 4 * (k + 1)) := hid (by have := hlen.out; omega)
          clear x0 x1 x2
          go_wp2
          go_roundg G
          case measure => have := HG.out; have := HK.out; omega
          case rel => exact ⟨k + 1, met3, by have := HG.out; have := HK.out; omega, rfl, HS2, hk1, hl1⟩
         | false =>
          by_cases hz : p0 = 0
          ·subst hz
           have hR : Hid (RES = ([], 2)) := hid (by
            have h1 := hT.out
            rw [takesJ_put HP.out, if_pos rfl] at h1
            rw [HRS2.out, ← h1]; rfl)
           have S8 := HS2.out
           have g2 := S8.b2
           have g3 := S8.b3
           have gB := S8.below
           have HFN := hid (fun (W' : World) (hb : Below V.heap.size V W') => (World.ownsRow_nil W' V.heap.size 42 4))
           clear x0 x1 x2 hT
           go_wp2
           refine leaves_caughtK g2 g3 gB (by omega) (by omega) rfl rfl fun W' hb e he => ?_
           rw [hR.out]
           exact ⟨_, he, World.ownsRow_nil _ _ _ _, hb⟩
          ·have tz : (((p0 : Nat) : Int) == 0) = false := by simp; omega
           have tz2 : (p0 == 0) = false := by simp; omega
           have hR1 := hT.out
           rw [takesJ_put HP.out, if_neg hz] at hR1
           have HR1 := hid hR1
           have HTK := hid (take_any w.M wa la wc lc MB p0 4 met3 u2 (HM0.out.grow HS2.out.below) HMM.out HS2.out.ids hp0 (by omega) (by have := hlen.out; omega))
           unfold memV at HTK
           rw [HWL.out, HLL.out, HF.out] at HTK
           clear hR1 hT
           go_wp2_with fail
           refine HTK.out.mono ?_
           rintro e w8 ⟨hg, ⟨met4, hmet4, rfl, hi8⟩ | ⟨hmet4, rfl⟩⟩
           ·have S8 := hid (HS2.out.took hg hi8 HMB.out)
            have HM3 := hid hmet4
            clear hg hi8 hmet4 HTK HS2 x0 x1 x2 e0
            have hk1 : Hid (takesJ w.M (w.J.drop (k + 1)) met4 = T2) := hid (by
             have := HR1.out
             rw [HM3.out] at this
             exact this)
            have hl1 : Hid (met4.length ≤ 1 + 4 * xl + 4 * (k + 1)) := hid (by have := takeW_len HM3.out; have := hlen.out; omega)
            go_wp2
            go_roundg G
            case measure => have := HG.out; have := HK.out; omega
            case rel => exact ⟨k + 1, met4, by have := HG.out; have := HK.out; omega, rfl, S8, hk1, hl1⟩
           ·have hR : Hid (RES = ([], 2)) := hid (by
             have h1 := HR1.out
             rw [hmet4] at h1
             have h2 : T2 = none := h1.symm
             rw [HRS2.out, h2]; rfl)
            have S8 := HS2.out
            have g2 := kgr S8.b2 hg (fun e => S8.ids.neC S8.b2 (Option.some.inj e))
            have g3 := kgr S8.b3 hg (fun e => S8.ids.neC S8.b3 (Option.some.inj e))
            have gB := S8.below.trans (below_grown hg HMB.out S8.below.size)
            refine leaves_caughtK g2 g3 gB (by omega) (by omega) rfl rfl fun W' hb e he => ?_
            rw [hR.out]
            exact ⟨_, he, World.ownsRow_nil _ _ _ _, hb⟩
        ·have tl2 : decide (((k : Nat) : Int) < ((nj : Nat) : Int)) = false := decide_eq_false (by omega)
         have hE2 : Hid (T2 = some met3) := hid (by
          have := hT.out
          rw [takesJ_nil (by rw [HNJ.out]; omega)] at this
          exact this.symm)
         have hR : Hid (RES = (XS, 0)) := hid (by rw [HRS2.out, hE2.out]; rfl)
         obtain ⟨w9, hw9, q2, q3, qk, qb⟩ := two_cells hS.out.b2 hS.out.b3 n23 (.slice va xl vc) (.int .i64 0)
         have Q2 := hid q2
         have Q3 := hid q3
         have QB := hid (qb V (by omega) (by omega) hS.out.below)
         have QR := hid (okp hS.out.row fun k o hk ho => qk k o (by rintro rfl; obtain ⟨c, hc⟩ := own_type hS.out.row _ hk; exact tyN hc hS.out.b2 (by decide) rfl) (by rintro rfl; obtain ⟨c, hc⟩ := own_type hS.out.row _ hk; exact tyN hc hS.out.b3 (by decide) rfl) ho)
         have g2 := flD (i := 0) hS.out.b2
         have g3 := flD (i := 0) hS.out.b3
         have d2 := clD (i := 0) hS.out.b2 rfl
         have d3 := clD (i := 0) hS.out.b3 rfl
         clear q2 q3 qk qb hS hT
         go_wp2_with (rw [hw9])
         refine leaves_idleK (V := V) Q2.out Q3.out rfl rfl fun e he => ?_
         rw [hR.out]
         exact ⟨_, he, own_base QR.out HS5.out, QB.out⟩
    ·have hR : Hid (RES = ([], 2)) := hid (by
      rw [← HRES.out]; unfold wNodes wAll
      rw [HNP.out, if_neg (by simp), if_neg (by rw [HF.out]; decide), if_neg (by rw [HNJ.out, HNK.out]; exact HBG.out), HHD.out, hmet]; rfl)
     have S2 := kgr T2.out hg (by intro e; cases e; omega)
     have S3 := kgr T3.out hg (by intro e; cases e; omega)
     have SB := (TB.out).trans (below_grown hg HMB.out TB.out.size)
     refine leaves_caughtK S2 S3 SB (by omega) (by omega) rfl rfl fun W' hb e he => ?_
     rw [hR.out]
     exact ⟨_, he, World.ownsRow_nil _ _ _ _, hb⟩
 ·have tE : (((E : Nat) : Int) != 0) = true := by simp; omega
  have hR : Hid (RES = ([], E)) := hid (by rw [← HRES.out]; unfold wNodes; rw [HNP.out, if_pos hE])
  obtain ⟨w6, hw6, q2, q3, qk, qb⟩ := two_cells P2.out P3.out n23 (.slice none 0 0) (.int .i64 E)
  have Q2 := hid q2
  have Q3 := hid q3
  have QB := hid (qb V (by omega) (by omega) PB.out)
  have g2 := flD (i := 0) P2.out
  have g3 := flD (i := 0) P3.out
  clear q2 q3 qk qb hE
  go_wp2_with (rw [hw5])
  go_region
  go_wp2
  refine leaves_none (wn_result (W := w6.drew) Q2.out Q3.out rfl rfl) ?_
  rw [hR.out]
  exact ⟨_, rfl, World.ownsRow_nil _ _ _ _, QB.out.drew⟩
end Go.Proofs.YtipohagcppfgiaaGreat
namespace Go.Proofs.YtipohagcppfgiaaGreat
open Go.RowKit
open Go.Proofs
set_option linter.unusedVariables false
attribute [local go_sem] Oper.semAt_some
theorem CopiedW_any (a : Option Addr) (n cap : Nat) (cs : List Value) (w : World) (h : Leads w a n cap cs) (hl : cs.length = n * 1) (hn : n ≤ 10000) (h1 : ∀ u ∈ cs, u.oneCell' = true) :
  Calls Tryz.prog 53 #[.slice a n cap] w (Fresh 26 1 n cs w) := by
 cases a with
 | none =>
  obtain ⟨_, _, ⟨rfl, rfl⟩ | ⟨b, off, h, _⟩⟩ := h
  ·clear h1 hl
   have hap : (Builtin.append_ #[22, 22] 22 #[.slice none 0 0, .slice none 0 cap]).run Tryz.prog w = .ok (.slice none 0 0) w := by
    kernel_rfl
   go_enter Tryz.func53, Tryz.ntmps53
   go_wp2
   go_ret
   exact ⟨_, rfl, World.ownsRow_nil _ _ _ _, Below.refl _ _⟩
  ·cases h
 | some ad =>
  have hc : ∀ j u, cs[j]? = some u → w.cell? (ad.add j) = some u := by
   obtain ⟨_, _, ⟨_, rfl⟩ | ⟨b, off, h, _, h5⟩⟩ := h
   ·intro j u hj; cases hj
   ·cases h
    intro j u hj
    have := h5 j u hj
    rcases j with _ | j
    ·simpa [Addr.add] using this
    ·simpa [Addr.add] using this
  have HC := hid hc
  have HL := hid hl
  have H1 := hid h1
  clear hc hl h1 h
  go_enter Tryz.func53, Tryz.ntmps53
  go_wp2_with (at_builtin; refine waM elemWords rfl _ _ rfl w.heap.size _ 0 [] rfl (World.ownsRow_nil _ _ _ _) ad n cap cs rfl ?qc1 ?qc2 ?qc3 ?qc4 ?qc5 ?_)
  case qc1 => exact HL.out
  case qc2 => exact HC.out
  case qc3 => exact H1.out
  case qc4 => omega
  case qc5 => exact Nat.le_refl _
  intro v' w1 hown hgrow hmv
  have hb : Below w.heap.size w w1 := own_below (size := 1) (World.ownsRow_nil w w.heap.size 26 1) hgrow (Nat.le_refl _)
  go_wp2
  go_ret
  exact ⟨v', rfl, by simpa using hown, hb⟩
theorem CopiedB_any (a : Option Addr) (n cap : Nat) (cs : List Value) (w : World) (h : Leads w a n cap cs) (hl : cs.length = n * 1) (hn : n ≤ 10000) (h1 : ∀ u ∈ cs, u.oneCell' = true) :
  Calls Tryz.prog 54 #[.slice a n cap] w (Fresh 4 1 n cs w) := by
 cases a with
 | none =>
  obtain ⟨_, _, ⟨rfl, rfl⟩ | ⟨b, off, h, _⟩⟩ := h
  ·clear h1 hl
   have hap : (Builtin.append_ #[23, 23] 23 #[.slice none 0 0, .slice none 0 cap]).run Tryz.prog w = .ok (.slice none 0 0) w := by
    kernel_rfl
   go_enter Tryz.func54, Tryz.ntmps54
   go_wp2
   go_ret
   exact ⟨_, rfl, World.ownsRow_nil _ _ _ _, Below.refl _ _⟩
  ·cases h
 | some ad =>
  have hc : ∀ j u, cs[j]? = some u → w.cell? (ad.add j) = some u := by
   obtain ⟨_, _, ⟨_, rfl⟩ | ⟨b, off, h, _, h5⟩⟩ := h
   ·intro j u hj; cases hj
   ·cases h
    intro j u hj
    have := h5 j u hj
    rcases j with _ | j
    ·simpa [Addr.add] using this
    ·simpa [Addr.add] using this
  have HC := hid hc
  have HL := hid hl
  have H1 := hid h1
  clear hc hl h1 h
  go_enter Tryz.func54, Tryz.ntmps54
  go_wp2_with (at_builtin; refine waM elemBools rfl _ _ rfl w.heap.size _ 0 [] rfl (World.ownsRow_nil _ _ _ _) ad n cap cs rfl ?qc1 ?qc2 ?qc3 ?qc4 ?qc5 ?_)
  case qc1 => exact HL.out
  case qc2 => exact HC.out
  case qc3 => exact H1.out
  case qc4 => omega
  case qc5 => exact Nat.le_refl _
  intro v' w1 hown hgrow hmv
  have hb : Below w.heap.size w w1 := own_below (size := 1) (World.ownsRow_nil w w.heap.size 4 1) hgrow (Nat.le_refl _)
  go_wp2
  go_ret
  exact ⟨v', rfl, by simpa using hown, hb⟩
/-- A walk, as a value. -/
abbrev wal8 (wa : Option Addr) (wn wc : Nat) (la : Option Addr) (ln lc : Nat) (F : Bool) (head : Nat) (ja : Option Addr) (nj jc : Nat) (ka : Option Addr) (nk kc : Nat) : Array Value :=
 #[.slice wa wn wc, .slice la ln lc, .bool F, .int .u64 head, .slice ja nj jc, .slice ka nk kc]
/-- What a walk is, and where it lies. -/
structure WalL (V : World) (wa : Option Addr) (wc : Nat) (la : Option Addr) (lc : Nat) (ja : Option Addr) (nj jc : Nat) (ka : Option Addr) (nk kc : Nat) (w : Wal) : Prop where
 mem : MemL V wa wc la lc w.M
 hh : w.head < 18446744073709551616
 wok : ∀ x ∈ w.M.W, x < 18446744073709551616
 j : Leads V ja nj jc (jbcells w.J)
 nj : w.J.length = nj
 jok : ∀ x ∈ w.J, x.2.Ok
 k : Leads V ka nk kc (kycells w.K)
 nk : w.K.length = nk
 kok : ∀ x ∈ w.K, x.1 < 18446744073709551616 ∧ x.2 < 18446744073709551616
theorem WalL.grow {V V' : World} {wa : Option Addr} {wc : Nat} {la : Option Addr} {lc : Nat} {ja : Option Addr} {nj jc : Nat} {ka : Option Addr} {nk kc : Nat} {w : Wal} (h : WalL V wa wc la lc ja nj jc ka nk kc w) (hb : Below V.heap.size V V') : WalL V' wa wc la lc ja nj jc ka nk kc w :=
 ⟨h.mem.grow hb, h.hh, h.wok, h.j.grow hb, h.nj, h.jok, h.k.grow hb, h.nk, h.kok⟩
/-- Why a walk may not be one. -/
def wFault (w : Wal) : List Nd × Nat := if okM w.M = false ∨ w.M.F = true then ([], 120) else wNodes w
abbrev walV (wa : Option Addr) (wc : Nat) (la : Option Addr) (lc : Nat) (ja : Option Addr) (nj jc : Nat) (ka : Option Addr) (nk kc : Nat) (w : Wal) : Value := .agg (wal8 wa w.M.W.length wc la w.M.L.length lc w.M.F w.head ja nj jc ka nk kc)
set_option maxRecDepth 100000 in
theorem faulty_any (w : Wal) (wa la ja ka : Option Addr) (wc lc jc kc nj nk : Nat) (V : World) (h : WalL V wa wc la lc ja nj jc ka nk kc w) :
  Calls Tryz.prog 30 #[walV wa wc la lc ja nj jc ka nk kc w] V (GivesNd (wFault w) V) := by
 obtain ⟨V1, hV1, hb1, hs1, hl1⟩ := laid V (wal8 wa w.M.W.length wc la w.M.L.length lc w.M.F w.head ja nj jc ka nk kc) 30
 obtain ⟨X, hX⟩ := nm (V.heap.size)
 rw [hX] at hl1
 have HX := hid hl1
 have HB := hid hb1
 have HW := hid (h.grow hb1)
 have HC := hid (Check_any w.M wa la wc lc V1 HW.out.mem)
 have HNN := hid (fun V' (hb : Below V1.heap.size V1 V') => wNodes_any w wa la ja ka wc lc jc kc nj nk V' (HW.out.grow hb).mem HW.out.hh HW.out.wok (HW.out.grow hb).j HW.out.nj HW.out.jok (HW.out.grow hb).k HW.out.nk)
 unfold memV at HC
 have hwl := h.mem.w.len
 have hll := h.mem.l.len
 have hjl := h.j.len
 have hkl := h.k.len
 obtain ⟨RES, hRES⟩ := nm (wFault w)
 rw [hRES]
 have HRES := hid hRES
 clear hRES
 obtain ⟨hd, hhd⟩ := nm (w.head)
 obtain ⟨wl, hwl'⟩ := nm (w.M.W.length)
 obtain ⟨ll, hll'⟩ := nm (w.M.L.length)
 obtain ⟨f, hf⟩ := nm (w.M.F)
 unfold walV
 rw [hhd, hwl', hll', hf] at HNN HX hV1 ⊢
 rw [hwl', hll', hf] at HC
 rw [hwl'] at hwl
 rw [hll'] at hll
 have HF := hid hf
 clear h hb1 hs1 hl1 hhd hwl' hll' hf HW
 have x0 := clD (i := 0) HX.out rfl
 have x1 := clD (i := 1) HX.out rfl
 have x2 := clD (i := 2) HX.out rfl
 go_enter Tryz.func30, Tryz.ntmps30
 go_wp2_with fail
 refine HC.out.mono ?_
 rintro e w2 ⟨rfl, hb2⟩
 have HX2 := hid (klD HX.out hb2)
 have HB2 := hid (step HB.out hb2)
 have HN2 := hid (HNN.out w2 hb2)
 unfold walV at HN2
 clear hb2 HNN HC x0 x1 x2 HX HB hV1
 have x0 := clD (i := 0) HX2.out rfl
 have x1 := clD (i := 1) HX2.out rfl
 have x2 := clD (i := 2) HX2.out rfl
 have x3 := clD (i := 3) HX2.out rfl
 have x4 := clD (i := 4) HX2.out rfl
 have x5 := clD (i := 5) HX2.out rfl
 have FIN : Hid (∀ (e : Ending) (W : World), RES = ([], 120) → Below V.heap.size V W → e = .returned (.tuple #[.slice none 0 0, .int .i64 120]) → GivesNd RES V e W) := hid (fun e W hr hb he => by rw [hr]; exact ⟨_, he, World.ownsRow_nil _ _ _ _, hb⟩)
 cases hok : okM w.M with
 | false =>
  have hR : Hid (RES = ([], 120)) := hid (by rw [← HRES.out]; unfold wFault; rw [if_pos (.inl hok)])
  clear hok
  simp only [Bool.false_eq_true, if_false]
  go_wp2
  go_ret2
  exact FIN.out _ _ hR.out HB2.out rfl
 | true =>
  cases f with
  | true =>
   have hR : Hid (RES = ([], 120)) := hid (by rw [← HRES.out]; unfold wFault; rw [if_pos (.inr HF.out)])
   clear hok
   simp only [if_true]
   go_wp2
   go_ret2
   exact FIN.out _ _ hR.out HB2.out rfl
  | false =>
   have hR : Hid (RES = wNodes w) := hid (by rw [← HRES.out]; unfold wFault; rw [if_neg (by rw [hok, HF.out]; simp)])
   clear hok
   simp only [if_true]
   go_wp2_with fail
   refine HN2.out.mono ?_
   rintro e w3 ⟨v, rfl, hrow, hb3⟩
   have HG : Hid (GivesNd RES V (.returned (.tuple #[v, .int .i64 (((wNodes w).2 : Nat) : Int)])) w3) := hid (by rw [hR.out]; exact ⟨v, rfl, own_base hrow HB2.out.size, step HB2.out hb3⟩)
   clear hrow hb3
   go_wp2
   go_ret2
   exact HG.out
theorem WCheck_any (w : Wal) (wa la ja ka : Option Addr) (wc lc jc kc nj nk : Nat) (V : World) (h : WalL V wa wc la lc ja nj jc ka nk kc w) :
  Calls Tryz.prog 19 #[walV wa wc la lc ja nj jc ka nk kc w] V (Ret (.int .i64 (((wFault w).2 : Nat) : Int)) V) := by
 obtain ⟨V1, hV1, hb1, hs1, hl1⟩ := laid V (wal8 wa w.M.W.length wc la w.M.L.length lc w.M.F w.head ja nj jc ka nk kc) 30
 obtain ⟨X, hX⟩ := nm (V.heap.size)
 rw [hX] at hl1
 have HB := hid hb1
 have HC := hid (faulty_any w wa la ja ka wc lc jc kc nj nk V1 (h.grow hb1))
 unfold walV at HC
 have HX := hid hl1
 clear h hb1 hs1 hl1
 go_enter Tryz.func19, Tryz.ntmps19
 go_wp2_with (refine wlW rfl 30 (.tmp 1) rfl X _ rfl _ HX.out _ Tryz.underlying30 rfl (by kernel_rfl) ?_; intro v hv; subst hv)
 refine HC.out.mono ?_
 rintro e w2 ⟨v, rfl, hrow, hb2⟩
 have HB2 := hid (step HB.out hb2)
 clear hrow hb2
 go_wp2
 go_ret
 exact ⟨rfl, HB2.out⟩
end Go.Proofs.YtipohagcppfgiaaGreat
namespace Go.Proofs.YtipohagcppfgiaaGreat
open Go.RowKit
open Go.Proofs
set_option linter.unusedVariables false
attribute [local go_sem] Oper.semAt_some
/-- A walk that goes on. -/
structure Gst where
 M : Mem
 done : Nat
 edits : Bool
 ed : Ede
 wr : Sk
 R : List Sk
def sk7l (s : Sk) : List Value := [.int .i64 s.ph, .int .u64 s.hash, .int .u64 s.key, .int .u64 s.link, .int .u64 s.node, .int .u64 s.val, .bool s.found]
def skcells (R : List Sk) : List Value := R.flatMap sk7l
theorem skcells_len (R : List Sk) : (skcells R).length = 7 * R.length := by
 induction R with
 | nil => rfl
 | cons x xs ih => show (sk7l x ++ skcells xs).length = _; rw [List.length_append, ih, List.length_cons]; show 7 + _ = _; omega
theorem skcells_snoc (R : List Sk) (s : Sk) : skcells (R ++ [s]) = skcells R ++ sk7l s := by simp [skcells]
theorem skcell_at {R : List Sk} {k : Nat} {s : Sk} (h : R[k]? = some s) (i : Nat) (hi : i < 7) : (skcells R)[k * 7 + i]? = (sk7l s)[i]? := flat_at sk7l 7 (fun _ => rfl) R k i s h hi
abbrev g23 (wa : Option Addr) (wn wc : Nat) (la : Option Addr) (ln lc : Nat) (F : Bool) (done : Nat) (edits : Bool) (e : Ede) (s : Sk) (ra : Option Addr) (rn rc : Nat) (ja : Option Addr) (nj jc head : Nat) : Array Value :=
 #[.slice wa wn wc, .slice la ln lc, .bool F, .int .i64 done, .bool edits,
  .int .i64 e.ph, .bool e.cuts, .int .u64 e.link, .int .u64 e.at_, .int .u64 e.key, .int .u64 e.val, .int .u64 e.hash, .int .u64 e.next,
  .int .i64 s.ph, .int .u64 s.hash, .int .u64 s.key, .int .u64 s.link, .int .u64 s.node, .int .u64 s.val, .bool s.found,
  .slice ra rn rc, .slice ja nj jc, .int .u64 head]
theorem own_neT {w : World} {base n size b : Nat} {e e' : TypeId} {v : Value} {xs : List Value} {cs : Array Value} (h : w.ownsRow base e size v n xs) (hb : w.heap[b]? = some (.cells cs e' (0, 0))) (hne : e ≠ e') (k : Nat) (hk : v.ownBlock = some k) : k ≠ b := by
 obtain ⟨c, hc⟩ := own_type h k hk
 exact tyN hc hb hne
/-- What lies beside it. -/
structure GoR (V0 U : World) (P : Nat → Prop) (wa : Option Addr) (wc : Nat) (la : Option Addr) (lc : Nat) (M : Mem) (ra : Option Addr) (rc : Nat) (R : List Sk) (W : World) : Prop where
 mem : MemO V0.heap.size wa wc la lc M W
 rds : W.ownsRow V0.heap.size 46 7 (.slice ra R.length rc) R.length (skcells R)
 below : Below V0.heap.size V0 W
 tch : Tch P U W
theorem Tch.by {P : Nat → Prop} {U W W' : World} {Y : Nat} (h : Tch P U W) (g : W.grownBy W' (some Y)) (hY : P Y ∨ U.heap.size ≤ Y) : Tch P U W' :=
 ⟨g.os.trans h.os, g.tape.trans h.tape, g.output.trans h.output, Nat.le_trans h.size g.size, fun k hk hn => (g.block k (Nat.lt_of_lt_of_le hk h.size) (fun e => by cases e; exact hY.elim hn (fun h => by omega))).trans (h.block k hk hn)⟩
theorem Tch.by_below {P : Nat → Prop} {U W W' : World} {B : Nat} (h : Tch P U W) (g : Below B W W') (hB : U.heap.size ≤ B) : Tch P U W' :=
 ⟨g.os.trans h.os, g.tape.trans h.tape, g.output.trans h.output, Nat.le_trans h.size g.size, fun k hk hn => (g.block k (by omega)).trans (h.block k hk hn)⟩
theorem GoR.grow {V0 U : World} {P : Nat → Prop} {wa : Option Addr} {wc : Nat} {la : Option Addr} {lc : Nat} {M : Mem} {ra : Option Addr} {rc : Nat} {R : List Sk} {W W' : World} (h : GoR V0 U P wa wc la lc M ra rc R W) (hb : Below W.heap.size W W') : GoR V0 U P wa wc la lc M ra rc R W' :=
 ⟨h.mem.grow hb, ogr h.rds hb, step h.below hb, h.tch.trans (Tch.of_below hb)⟩
/-- g's own block is written, or one of another type. -/
theorem GoR.put {V0 U : World} {P : Nat → Prop} {wa : Option Addr} {wc : Nat} {la : Option Addr} {lc : Nat} {M : Mem} {ra : Option Addr} {rc : Nat} {R : List Sk} {W W' : World} (h : GoR V0 U P wa wc la lc M ra rc R W) {G : Nat} {cs : Array Value} {T : TypeId} (K : W.heap[G]? = some (.cells cs T (0, 0)))
  (h1 : 26 ≠ T) (h2 : 4 ≠ T) (h3 : 46 ≠ T) (a2 : ∀ (k : Nat) (o : Obj), k ≠ G → W.heap[k]? = some o → W'.heap[k]? = some o) (a3 : ∀ (B : Nat) (w0 : World), B ≤ G → Below B w0 W → Below B w0 W') (hG : V0.heap.size ≤ G) (a4 : W.grownBy W' (some G)) (hPG : P G ∨ U.heap.size ≤ G) : GoR V0 U P wa wc la lc M ra rc R W' :=
 ⟨⟨okp h.mem.w fun k o hk ho => a2 k o (own_neT h.mem.w K h1 k hk) ho, okp h.mem.l fun k o hk ho => a2 k o (own_neT h.mem.l K h2 k hk) ho⟩, okp h.rds fun k o hk ho => a2 k o (own_neT h.rds K h3 k hk) ho, a3 _ _ hG h.below, h.tch.by a4 hPG⟩
/-- A walk that goes on, in memory. -/
def GoC (V0 U : World) (P : Nat → Prop) (G : Nat) (ja : Option Addr) (nj jc head : Nat) (g : Gst) (W : World) : Prop := ∃ wa wc la lc ra rc,
 W.heap[G]? = some (.cells (g23 wa g.M.W.length wc la g.M.L.length lc g.M.F g.done g.edits g.ed g.wr ra g.R.length rc ja nj jc head) 88 (0, 0)) ∧ GoR V0 U P wa wc la lc g.M ra rc g.R W
theorem GoC.grow {V0 U : World} {P : Nat → Prop} {G : Nat} {ja : Option Addr} {nj jc head : Nat} {g : Gst} {W W' : World} (h : GoC V0 U P G ja nj jc head g W) (hb : Below W.heap.size W W') : GoC V0 U P G ja nj jc head g W' := by
 obtain ⟨wa, wc, la, lc, ra, rc, h1, h2⟩ := h
 exact ⟨wa, wc, la, lc, ra, rc, klD h1 hb, h2.grow hb⟩
structure RG (G : Nat) (cs : Array Value) where
 w : World
 bg : w.heap[G]? = some (.cells cs 88 (0, 0))
structure RJ (V0 : World) (G : Nat) (cs : Array Value) where
 w : World
 bg : w.heap[G]? = some (.cells cs 88 (0, 0))
 bel : Below V0.heap.size V0 w
structure RGB (G B : Nat) (cs bs : Array Value) (T : TypeId) where
 w : World
 bg : w.heap[G]? = some (.cells cs 88 (0, 0))
 bb : w.heap[B]? = some (.cells bs T (0, 0))
def GivesGo (V0 U : World) (P : Nat → Prop) (G : Nat) (ja : Option Addr) (nj jc head : Nat) (g : Gst) (e : Ending) (W : World) : Prop := e = .returned (.tuple #[]) ∧ GoC V0 U P G ja nj jc head g W
def beginsG (J : List Jb) (head : Nat) (g : Gst) : Gst := { g with edits := false, ed := zeroEd, wr := match J[g.done]? with
 | none => zeroSk
 | some j => seekK head j.2.2.2.2 j.2.2.1 }
theorem beginsG_some {J : List Jb} {head : Nat} {M : Mem} {d : Nat} {eb : Bool} {e : Ede} {s : Sk} {R : List Sk} {j : Jb} (h : J[d]? = some j) : beginsG J head ⟨M, d, eb, e, s, R⟩ = ⟨M, d, false, zeroEd, seekK head j.2.2.2.2 j.2.2.1, R⟩ := by
 unfold beginsG; dsimp only; rw [h]
theorem beginsG_none {J : List Jb} {head : Nat} {M : Mem} {d : Nat} {eb : Bool} {e : Ede} {s : Sk} {R : List Sk} (h : J[d]? = none) : beginsG J head ⟨M, d, eb, e, s, R⟩ = ⟨M, d, false, zeroEd, zeroSk, R⟩ := by
 unfold beginsG; dsimp only; rw [h]
def doneG (J : List Jb) (head : Nat) (g : Gst) : Gst := beginsG J head { g with done := g.done + 1 }
set_option maxRecDepth 100000 in
set_option maxHeartbeats 4000000 in
theorem begins_any (V0 U : World) (P : Nat → Prop) (G : Nat) (ja : Option Addr) (nj jc head : Nat) (J : List Jb) (g : Gst) (V : World) (hG : V0.heap.size ≤ G) (hP : P G) (hj : Leads V0 ja nj jc (jbcells J)) (hn : J.length = nj) (h : GoC V0 U P G ja nj jc head g V) :
  Calls Tryz.prog 56 #[.pointer (some ⟨G, 0, none⟩)] V (GivesGo V0 U P G ja nj jc head (beginsG J head g)) := by
 obtain ⟨M, d, eb, e, s, R⟩ := g
 obtain ⟨wa, wc, la, lc, ra, rc, hK, hR⟩ := h
 dsimp only at hK hR
 have K0 := hid hK
 have R0 := hid hR
 have HJ := hid hj
 have HN := hid hn
 have hjl := hj.len
 clear hK hR hj hn
 go_enter Tryz.func56, Tryz.ntmps56
 go_upto_region 1 with (first | (refine wsP rfl 4 (.tmp 10) (.const (.bool false)) rfl G 4 _ (g23 wa M.W.length wc la M.L.length lc M.F d false e s ra R.length rc ja nj jc head) _ rfl rfl _ K0.out (by kernel_rfl) (Nat.le_of_ble_eq_true rfl) (by kernel_rfl) rfl ?_; intro u1 a1 a2 a3 a4; have K1 := hid a1; have R1 := hid (R0.out.put K0.out (by decide) (by decide) (by decide) a2 a3 hG a4 (.inl hP)); clear a1 a2 a3 a4 K0 R0; (try simp only [Act.put])) | (refine wsP rfl 44 (.tmp 13) (.tmp 6) rfl G 5 _ (g23 wa M.W.length wc la M.L.length lc M.F d false zeroEd s ra R.length rc ja nj jc head) _ rfl rfl _ K1.out (by kernel_rfl) (Nat.le_of_ble_eq_true rfl) (by kernel_rfl) rfl ?_; intro u2 a1 a2 a3 a4; have K2 := hid a1; have R2 := hid (R1.out.put K1.out (by decide) (by decide) (by decide) a2 a3 hG a4 (.inl hP)); clear a1 a2 a3 a4 K1 R1; (try simp only [Act.put])) | (refine wsP rfl 46 (.tmp 16) (.tmp 7) rfl G 13 _ (g23 wa M.W.length wc la M.L.length lc M.F d false zeroEd zeroSk ra R.length rc ja nj jc head) _ rfl rfl _ K2.out (by kernel_rfl) (Nat.le_of_ble_eq_true rfl) (by kernel_rfl) rfl ?_; intro u3 a1 a2 a3 a4; have K3 := hid a1; have R3 := hid (R2.out.put K2.out (by decide) (by decide) (by decide) a2 a3 hG a4 (.inl hP)); clear a1 a2 a3 a4 K2 R2; (try simp only [Act.put])))
 obtain ⟨D, hD⟩ := nm (World.drew u3)
 have hbD : Below u3.heap.size u3 D := by rw [← hD]; exact (Below.refl _ _).drew
 have HD := hid hD
 clear hD
 have K4 := hid (klD K3.out hbD)
 have R4 := hid (R3.out.grow hbD)
 clear K3 R3 hbD
 haveI : Nonempty (RG G (g23 wa M.W.length wc la M.L.length lc M.F d false zeroEd zeroSk ra R.length rc ja nj jc head)) := ⟨⟨D, K4.out⟩⟩
 have q3 : ∀ z : RG G (g23 wa M.W.length wc la M.L.length lc M.F d false zeroEd zeroSk ra R.length rc ja nj jc head), z.w.cell? ⟨G, 3, none⟩ = some (.int .i64 d) := fun z => clD (i := 3) z.bg rfl
 have q21 : ∀ z : RG G (g23 wa M.W.length wc la M.L.length lc M.F d false zeroEd zeroSk ra R.length rc ja nj jc head), z.w.cell? ⟨G, 21, none⟩ = some (.slice ja nj jc) := fun z => clD (i := 21) z.bg rfl
 refine rgm2 (fun W => ∃ z : RG G (g23 wa M.W.length wc la M.L.length lc M.F d false zeroEd zeroSk ra R.length rc ja nj jc head), W = z.w) 11 (.q 0 (.q 1 (.q 2 (.q 3 (.q 4 (.q 5 (.q 6 (.q 7 (.q 8 (.q 9 (.q 10 (.done)))))))))))) (by kernel_rfl) (by kernel_rfl) (by rw [HD.out]; exact ⟨⟨D, K4.out⟩, rfl⟩) ?_
 rw [HD.out]
 iterate 11 (refine m2q rfl rfl ?_; go_big_quiet_step (fail); refine wpQuiet_nil ?_)
 refine m2d ?_
 simp only [List.drop_succ_cons, List.drop_nil]
 clear q3 q21 HD
 by_cases hlt : d < nj
 ·obtain ⟨⟨cb, n0, n1, n2, n3⟩, hp⟩ : ∃ x, J[d]? = some x := ⟨_, List.getElem?_eq_getElem (by rw [HN.out]; exact hlt)⟩
  have HP := hid hp
  obtain ⟨jb, jo, rfl, hcc⟩ : ∃ b o, ja = some ⟨b, o, none⟩ ∧ ∀ i v, (jbcells J)[i]? = some v → ∀ W, Below V0.heap.size V0 W → W.cell? ⟨b, o + i, none⟩ = some v := by
   obtain ⟨_, _, ⟨q, _⟩ | ⟨b, off, e, h3, h4⟩⟩ := HJ.out
   ·omega
   ·exact ⟨b, off, e, fun i v hv W hW => (hW.cell (p := ⟨b, off + i, none⟩) h3).trans (h4 i v hv)⟩
  have hat : ∀ i, i < 5 → (jbcells J)[d * 5 + i]? = (jb5 (cb, n0, n1, n2, n3))[i]? := fun i hi => jbcell_at hp i hi
  have HRA : Hid (∀ W, Below V0.heap.size V0 W → W.rangeAt jb (jo + d * 5 + 1) [.int .u64 n0, .int .u64 n1, .int .u64 n2, .int .u64 n3]) := hid (fun W hW j v hv => by
   have hj4 : j < 4 := (List.getElem?_eq_some_iff.1 hv).1
   have := hcc (d * 5 + (j + 1)) v (by rw [hat (j + 1) (by omega)]; exact hv) W hW
   rw [show jo + d * 5 + 1 + j = jo + (d * 5 + (j + 1)) by omega]
   exact this)
  have tl : decide (((d : Nat) : Int) < ((nj : Nat) : Int)) = true := decide_eq_true (by omega)
  clear hcc hat hp
  go_wp2
  obtain ⟨D2, hD⟩ := nm (World.drew D)
  have hbD : Below D.heap.size D D2 := by rw [← hD]; exact (Below.refl _ _).drew
  have HD := hid hD
  clear hD
  have K5 := hid (klD K4.out hbD)
  have R5 := hid (R4.out.grow hbD)
  clear K4 R4 hbD
  haveI : Nonempty (RJ V0 G (g23 wa M.W.length wc la M.L.length lc M.F d false zeroEd zeroSk ra R.length rc (some ⟨jb, jo, none⟩) nj jc head)) := ⟨⟨D2, K5.out, R5.out.below⟩⟩
  have q3 : ∀ z : RJ V0 G (g23 wa M.W.length wc la M.L.length lc M.F d false zeroEd zeroSk ra R.length rc (some ⟨jb, jo, none⟩) nj jc head), z.w.cell? ⟨G, 3, none⟩ = some (.int .i64 d) := fun z => clD (i := 3) z.bg rfl
  have q21 : ∀ z : RJ V0 G (g23 wa M.W.length wc la M.L.length lc M.F d false zeroEd zeroSk ra R.length rc (some ⟨jb, jo, none⟩) nj jc head), z.w.cell? ⟨G, 21, none⟩ = some (.slice (some ⟨jb, jo, none⟩) nj jc) := fun z => clD (i := 21) z.bg rfl
  refine rgm2 (fun W => ∃ z : RJ V0 G (g23 wa M.W.length wc la M.L.length lc M.F d false zeroEd zeroSk ra R.length rc (some ⟨jb, jo, none⟩) nj jc head), W = z.w) 13 (.q 0 (.q 1 (.q 2 (.q 3 (.q 4 (.q 5 (.q 6 (.q 7 (.q 8 (.q 9 (.q 10 (.q 11 (.h 12 (.done)))))))))))))) (by kernel_rfl) (by kernel_rfl) (by rw [HD.out]; exact ⟨⟨D2, K5.out, R5.out.below⟩, rfl⟩) ?_
  rw [HD.out]
  iterate 11 (refine m2q rfl rfl ?_; go_big_quiet_step (fail); refine wpQuiet_nil ?_)
  refine m2q rfl rfl ?_
  refine wpQuiet_loadP rfl 42 (.tmp 38) rfl _ _ [.int .u64 n0, .int .u64 n1, .int .u64 n2, .int .u64 n3] rfl (by rintro _ ⟨z, rfl⟩; exact HRA.out _ z.bel) _ Tryz.underlying42 rfl (by kernel_rfl) ?_
  intro v hv
  subst hv
  refine wpQuiet_nil ?_
  simp only [Act.put, List.setIfInBounds_toArray, List.set_cons_succ, List.set_cons_zero]
  refine m2h rfl fun R' hR' hO => ?_
  obtain ⟨D3, hD3, hbn, hsn, hln⟩ := laid D2 #[.int .u64 0, .int .u64 0, .int .u64 0, .int .u64 0] 42
  obtain ⟨B, hB⟩ := nm (D2.heap.size)
  rw [hB] at hln
  have hGB : G < B := by have := llD K5.out; omega
  have K6 := hid (klD K5.out hbn)
  have R6 := hid (R5.out.grow hbn)
  have hVB : V0.heap.size ≤ B := by omega
  have hUB : U.heap.size ≤ B := by have := R5.out.tch.size; omega
  have KB := hid hln
  clear K5 R5 hbn hsn hln
  go_wp2
  refine hR' _ _ ⟨⟨D3, K6.out, R6.out.below⟩, rfl⟩ ?_
  clear hR' hO R'
  refine m2d ?_
  simp only [List.drop_succ_cons, List.drop_zero]
  clear q3 q21 HD HRA
  go_wp2_with (refine wsP rfl 42 (.tmp 2) (.tmp 39) rfl B 0 _ #[.int .u64 n0, .int .u64 n1, .int .u64 n2, .int .u64 n3] _ rfl rfl _ KB.out (by kernel_rfl) (Nat.le_of_ble_eq_true rfl) (by kernel_rfl) rfl ?_; intro u4 a1 a2 a3 a4; have KB7 := hid a1; have K7 := hid (a2 G _ (by omega) K6.out); have R7 := hid (R6.out.put KB.out (by decide) (by decide) (by decide) a2 a3 hVB a4 (.inr hUB)); clear a1 a2 a3 a4 K6 R6 KB; (try simp only [Act.put]))
  obtain ⟨D4, hD⟩ := nm (World.drew u4)
  have hbD : Below u4.heap.size u4 D4 := by rw [← hD]; exact (Below.refl _ _).drew
  have HD := hid hD
  clear hD
  have K8 := hid (klD K7.out hbD)
  have R8 := hid (R7.out.grow hbD)
  have KB8 := hid (klD KB7.out hbD)
  clear K7 R7 KB7 hbD hD3 hB
  haveI : Nonempty (RGB G B (g23 wa M.W.length wc la M.L.length lc M.F d false zeroEd zeroSk ra R.length rc (some ⟨jb, jo, none⟩) nj jc head) #[.int .u64 n0, .int .u64 n1, .int .u64 n2, .int .u64 n3] 42) := ⟨⟨D4, K8.out, KB8.out⟩⟩
  have q22 : ∀ z : RGB G B (g23 wa M.W.length wc la M.L.length lc M.F d false zeroEd zeroSk ra R.length rc (some ⟨jb, jo, none⟩) nj jc head) #[.int .u64 n0, .int .u64 n1, .int .u64 n2, .int .u64 n3] 42, z.w.cell? ⟨G, 22, none⟩ = some (.int .u64 head) := fun z => clD (i := 22) z.bg rfl
  have b1 : ∀ z : RGB G B (g23 wa M.W.length wc la M.L.length lc M.F d false zeroEd zeroSk ra R.length rc (some ⟨jb, jo, none⟩) nj jc head) #[.int .u64 n0, .int .u64 n1, .int .u64 n2, .int .u64 n3] 42, z.w.cell? ⟨B, 1, none⟩ = some (.int .u64 n1) := fun z => clD (i := 1) z.bb rfl
  have b3 : ∀ z : RGB G B (g23 wa M.W.length wc la M.L.length lc M.F d false zeroEd zeroSk ra R.length rc (some ⟨jb, jo, none⟩) nj jc head) #[.int .u64 n0, .int .u64 n1, .int .u64 n2, .int .u64 n3] 42, z.w.cell? ⟨B, 3, none⟩ = some (.int .u64 n3) := fun z => clD (i := 3) z.bb rfl
  refine rgm2 (fun W => ∃ z : RGB G B (g23 wa M.W.length wc la M.L.length lc M.F d false zeroEd zeroSk ra R.length rc (some ⟨jb, jo, none⟩) nj jc head) #[.int .u64 n0, .int .u64 n1, .int .u64 n2, .int .u64 n3] 42, W = z.w) 13 (.q 0 (.q 1 (.q 2 (.q 3 (.q 4 (.q 5 (.q 6 (.q 7 (.q 8 (.h 9 (.q 10 (.q 11 (.q 12 (.done)))))))))))))) (by kernel_rfl) (by kernel_rfl) (by rw [HD.out]; exact ⟨⟨D4, K8.out, KB8.out⟩, rfl⟩) ?_
  rw [HD.out]
  iterate 9 (refine m2q rfl rfl ?_; go_big_quiet_step (fail); refine wpQuiet_nil ?_)
  refine m2h rfl fun R' hR' hO => ?_
  go_wp2_with fail
  refine (Seek_any head n3 n1 D4).mono ?_
  rintro e w5 ⟨rfl, hb5⟩
  have K9 := hid (klD K8.out hb5)
  have R9 := hid (R8.out.grow hb5)
  have KB9 := hid (klD KB8.out hb5)
  clear K8 R8 KB8 hb5
  unfold skV seekK
  go_wp2
  refine hR' _ _ ⟨⟨w5, K9.out, KB9.out⟩, rfl⟩ ?_
  clear hR' hO R'
  iterate 3 (refine m2q rfl rfl ?_; go_big_quiet_step (fail); refine wpQuiet_nil ?_)
  refine m2d ?_
  simp only [List.drop_succ_cons, List.drop_zero]
  clear q22 b1 b3 HD
  go_wp2_with (refine wsP rfl 46 (.tmp 52) (.tmp 49) rfl G 13 _ (g23 wa M.W.length wc la M.L.length lc M.F d false zeroEd (seekK head n3 n1) ra R.length rc (some ⟨jb, jo, none⟩) nj jc head) _ rfl rfl _ K9.out (by kernel_rfl) (Nat.le_of_ble_eq_true rfl) (by kernel_rfl) rfl ?_; intro u6 a1 a2 a3 a4; have K10 := hid a1; have R10 := hid (R9.out.put K9.out (by decide) (by decide) (by decide) a2 a3 hG a4 (.inl hP)); clear a1 a2 a3 a4 K9 R9; (try simp only [Act.put]))
  go_wp2
  go_end0
  refine ⟨rfl, ?_⟩
  rw [beginsG_some HP.out]
  exact ⟨_, _, _, _, _, _, K10.out, R10.out⟩
 ·have HE : Hid (J[d]? = none) := hid (List.getElem?_eq_none (by rw [HN.out]; omega))
  go_wp2
  go_end0
  refine ⟨rfl, ?_⟩
  rw [beginsG_none HE.out]
  exact ⟨_, _, _, _, _, _, K4.out, R4.out⟩
end Go.Proofs.YtipohagcppfgiaaGreat
namespace Go.Proofs.YtipohagcppfgiaaGreat
open Go.RowKit
open Go.Proofs
set_option linter.unusedVariables false
attribute [local go_sem] Oper.semAt_some
theorem GoR.mem' {V0 U : World} {P : Nat → Prop} {wa : Option Addr} {wc : Nat} {la : Option Addr} {lc : Nat} {M : Mem} {ra : Option Addr} {rc : Nat} {R : List Sk} {W W' : World} (h : GoR V0 U P wa wc la lc M ra rc R W) {wa' : Option Addr} {wc' : Nat} {la' : Option Addr} {lc' : Nat} {M' : Mem} (hm : MemO W.heap.size wa' wc' la' lc' M' W') (hb : Below W.heap.size W W') : GoR V0 U P wa' wc' la' lc' M' ra rc R W' :=
 ⟨hm.base h.below.size, ogr h.rds hb, step h.below hb, h.tch.trans (Tch.of_below hb)⟩
def editG (J : List Jb) (head : Nat) (g : Gst) : Gst :=
 if (seditP g.M g.ed).2.1.ph = 6 then doneG J head { g with M := (seditP g.M g.ed).1, ed := (seditP g.M g.ed).2.1 } else { g with M := (seditP g.M g.ed).1, ed := (seditP g.M g.ed).2.1 }
/-- Where a seek is over: what comes then. -/
def overG (J : List Jb) (head : Nat) (g : Gst) : Gst := match J[g.done]? with
 | none => g
 | some j => if j.1 = true ∧ g.wr.found = true then { g with edits := true, ed := cutK g.wr.link g.wr.node }
  else if j.1 = false ∧ g.wr.found = false then { g with edits := true, ed := putK g.wr.link j.2 g.wr.node }
  else doneG J head g
def seekG (J : List Jb) (head : Nat) (g : Gst) : Gst :=
 if (sseekP g.M g.wr).2.1.ph = 4 then overG J head { g with M := (sseekP g.M g.wr).1, wr := (sseekP g.M g.wr).2.1 } else { g with M := (sseekP g.M g.wr).1, wr := (sseekP g.M g.wr).2.1 }
def writeG (J : List Jb) (head : Nat) (g : Gst) : Gst := if g.done = J.length then g else if g.edits = true then editG J head g else seekG J head g
set_option maxRecDepth 100000 in
set_option maxHeartbeats 4000000 in
theorem done_any (V0 U : World) (P : Nat → Prop) (G : Nat) (ja : Option Addr) (nj jc head : Nat) (J : List Jb) (g : Gst) (V : World) (hG : V0.heap.size ≤ G) (hP : P G) (hj : Leads V0 ja nj jc (jbcells J)) (hn : J.length = nj) (h : GoC V0 U P G ja nj jc head g V) (hd : g.done ≤ 1000) :
  Calls Tryz.prog 83 #[.pointer (some ⟨G, 0, none⟩)] V (GivesGo V0 U P G ja nj jc head (doneG J head g)) := by
 obtain ⟨M, d, eb, e, s, R⟩ := g
 obtain ⟨wa, wc, la, lc, ra, rc, hK, hR⟩ := h
 dsimp only at hK hR
 have K0 := hid hK
 have R0 := hid hR
 have HJ := hid hj
 have HN := hid hn
 dsimp only at hd
 obtain ⟨d1, hd1⟩ := nm (d + 1)
 have hdi : IntKind.i64.wrap (((d : Nat) : Int) + 1) = ((d1 : Nat) : Int) := by rw [IntKind.wrap_i64]; omega
 have HD1 := hid hd1
 have x3 := clD (i := 3) K0.out rfl
 clear hK hR hj hn hd1
 go_enter Tryz.func83, Tryz.ntmps83
 go_upto_region 1 with ((refine wsP rfl 3 (.tmp 10) (.tmp 7) rfl G 3 _ (g23 wa M.W.length wc la M.L.length lc M.F d1 eb e s ra R.length rc ja nj jc head) _ rfl rfl _ K0.out (by kernel_rfl) (Nat.le_of_ble_eq_true rfl) (by kernel_rfl) rfl ?_; intro u1 a1 a2 a3 a4; have K1 := hid a1; have R1 := hid (R0.out.put K0.out (by decide) (by decide) (by decide) a2 a3 hG a4 (.inl hP)); clear x3; clear a1 a2 a3 a4 K0 R0; (try simp only [Act.put])))
 have HC := hid (begins_any V0 U P G ja nj jc head J ⟨M, d1, eb, e, s, R⟩ u1 hG hP HJ.out HN.out ⟨_, _, _, _, _, _, K1.out, R1.out⟩)
 clear K1 R1
 go_wp2_with fail
 refine HC.out.mono ?_
 rintro e9 W ⟨rfl, hW⟩
 have HW := hid hW
 clear hW HC
 go_wp2
 go_end0
 refine ⟨rfl, ?_⟩
 unfold doneG
 rw [show (⟨M, d, eb, e, s, R⟩ : Gst).done = d from rfl, HD1.out]
 exact HW.out
set_option maxRecDepth 100000 in
set_option maxHeartbeats 4000000 in
theorem edit_any' (V0 U : World) (P : Nat → Prop) (G : Nat) (ja : Option Addr) (nj jc head : Nat) (J : List Jb) (g : Gst) (V : World) (hG : V0.heap.size ≤ G) (hP : P G) (hj : Leads V0 ja nj jc (jbcells J)) (hn : J.length = nj) (h : GoC V0 U P G ja nj jc head g V) (hd : g.done ≤ 1000) (hok : g.ed.Ok) :
  Calls Tryz.prog 70 #[.pointer (some ⟨G, 0, none⟩)] V (GivesGo V0 U P G ja nj jc head (editG J head g)) := by
 obtain ⟨M, d, eb, e, s, R⟩ := g
 obtain ⟨wa, wc, la, lc, ra, rc, hK, hR⟩ := h
 dsimp only at hK hR
 have K0 := hid hK
 have R0 := hid hR
 have HJ := hid hj
 have HN := hid hn
 obtain ⟨⟨M', e', er⟩, hX⟩ : ∃ X, seditP M e = X := ⟨_, rfl⟩
 have HX := hid hX
 obtain ⟨D, hD⟩ := nm (World.drew V)
 have hbD : Below V.heap.size V D := by rw [← hD]; exact (Below.refl _ _).drew
 have HD := hid hD
 clear hD
 have K4 := hid (klD K0.out hbD)
 have R4 := hid (R0.out.grow hbD)
 have HCL := hid (StepEdit_any M e wa la wc lc D R4.out.mem.memL hok)
 rw [hX] at HCL
 unfold memV edV at HCL
 clear K0 R0 hbD hK hR hj hn hX
 haveI : Nonempty (RG G (g23 wa M.W.length wc la M.L.length lc M.F d eb e s ra R.length rc ja nj jc head)) := ⟨⟨D, K4.out⟩⟩
 go_enter Tryz.func70, Tryz.ntmps70
 go_wp2
 refine wp_region_turn (fun W => ∃ z : RG G (g23 wa M.W.length wc la M.L.length lc M.F d eb e s ra R.length rc ja nj jc head), W = z.w) 20 (.p 0 (.p 1 (.p 2 (.p 3 (.p 4 (.p 5 (.q 6 (.p 7 (.p 8 (.p 9 (.p 10 (.q 11 (.h 12 (.p 13 (.p 14 (.p 15 (.p 16 (.p 17 (.p 18 (.p 19 (.h 20 (.p 21 (.p 22 (.p 23 (.h 24 (.done)))))))))))))))))))))))))) (by kernel_rfl) (by kernel_rfl) (by rw [HD.out]; exact ⟨⟨D, K4.out⟩, rfl⟩) ?_
 rw [HD.out]
 iterate 6 (refine wpTurn_p rfl rfl ?_; go_big_quiet_step (fail); refine wpQuiet_nil ?_)
 refine wpTurn_q rfl rfl ?_
 refine wpQuiet_loadP rfl 25 (.tmp 8) rfl G 0 [.slice wa M.W.length wc, .slice la M.L.length lc, .bool M.F] rfl (by rintro _ ⟨z, rfl⟩; exact rangeAt_part z.bg rfl) _ Tryz.underlying25 rfl (by kernel_rfl) ?_
 intro v hv
 subst hv
 refine wpQuiet_nil ?_
 simp only [Act.put, List.setIfInBounds_toArray, List.set_cons_succ, List.set_cons_zero]
 iterate 4 (refine wpTurn_p rfl rfl ?_; go_big_quiet_step (fail); refine wpQuiet_nil ?_)
 refine wpTurn_q rfl rfl ?_
 refine wpQuiet_loadP rfl 44 (.tmp 13) rfl G 5 [.int .i64 e.ph, .bool e.cuts, .int .u64 e.link, .int .u64 e.at_, .int .u64 e.key, .int .u64 e.val, .int .u64 e.hash, .int .u64 e.next] rfl (by rintro _ ⟨z, rfl⟩; exact rangeAt_part z.bg rfl) _ Tryz.underlying44 rfl (by kernel_rfl) ?_
 intro v hv
 subst hv
 refine wpQuiet_nil ?_
 simp only [Act.put, List.setIfInBounds_toArray, List.set_cons_succ, List.set_cons_zero]
 refine wpTurn_h rfl rfl fun R' hR' hO => ?_
 go_wp2_with fail
 refine HCL.out.mono ?_
 rintro e9 w5 ⟨wa', wc', la', lc', rfl, hmo, hb5⟩
 have K9 := hid (klD K4.out hb5)
 have R9 := hid (R4.out.mem' hmo hb5)
 clear K4 R4 hb5 hmo HCL
 unfold memV edV
 go_wp2
 refine hR' _ _ ⟨⟨w5, K9.out⟩, rfl⟩ ?_
 clear hR' hO R'
 iterate 7 (refine wpTurn_p rfl rfl ?_; go_big_quiet_step (fail); refine wpQuiet_nil ?_)
 refine wpTurn_m rfl fun R' hR' hO => ?_
 go_wp2_with (refine wsP rfl 25 (.tmp 21) (.tmp 16) rfl G 0 _ (g23 wa' M'.W.length wc' la' M'.L.length lc' M'.F d eb e s ra R.length rc ja nj jc head) _ rfl rfl _ K9.out (by kernel_rfl) (Nat.le_of_ble_eq_true rfl) (by kernel_rfl) rfl ?_; intro u1 a1 a2 a3 a4; have K1 := hid a1; have R1 := hid (R9.out.put K9.out (by decide) (by decide) (by decide) a2 a3 hG a4 (.inl hP)); clear a1 a2 a3 a4 K9 R9; (try simp only [Act.put]))
 refine hR' _ _ ?_
 clear hR' hO R'
 iterate 3 (refine wpTurn_p rfl rfl ?_; go_big_quiet_step (fail); refine wpQuiet_nil ?_)
 refine wpTurn_b rfl fun R' hR' hO => ?_
 go_wp2_with (refine wsP rfl 44 (.tmp 24) (.tmp 17) rfl G 5 _ (g23 wa' M'.W.length wc' la' M'.L.length lc' M'.F d eb e' s ra R.length rc ja nj jc head) _ rfl rfl _ K1.out (by kernel_rfl) (Nat.le_of_ble_eq_true rfl) (by kernel_rfl) rfl ?_; intro u2 a1 a2 a3 a4; have K2 := hid a1; have R2 := hid (R1.out.put K1.out (by decide) (by decide) (by decide) a2 a3 hG a4 (.inl hP)); clear a1 a2 a3 a4 K1 R1; (try simp only [Act.put]))
 refine hR' _ _ ?_
 clear hR' hO R'
 refine wpTurn_done ?_
 clear HD
 have x5 := clD (i := 5) K2.out rfl
 have HRES : Hid (editG J head ⟨M, d, eb, e, s, R⟩ = if e'.ph = 6 then doneG J head ⟨M', d, eb, e', s, R⟩ else ⟨M', d, eb, e', s, R⟩) := hid (by unfold editG; dsimp only; rw [HX.out])
 by_cases h6 : e'.ph = 6
 ·have HC := hid (done_any V0 U P G ja nj jc head J ⟨M', d, eb, e', s, R⟩ u2 hG hP HJ.out HN.out ⟨_, _, _, _, _, _, K2.out, R2.out⟩ hd)
  have tq : (e'.ph == 6) = true := by simp [h6]
  have HR2 := hid (HRES.out.trans (if_pos h6))
  clear K2 R2 HRES h6
  go_wp2_with fail
  refine HC.out.mono ?_
  rintro e9 W ⟨rfl, hW⟩
  have HW := hid hW
  clear hW HC
  go_wp2
  go_end0
  exact ⟨rfl, by rw [HR2.out]; exact HW.out⟩
 ·have tq : (e'.ph == 6) = false := by simp [h6]
  have HR2 := hid (HRES.out.trans (if_neg h6))
  clear HRES h6
  go_wp2
  go_end0
  exact ⟨rfl, by rw [HR2.out]; exact ⟨_, _, _, _, _, _, K2.out, R2.out⟩⟩
set_option maxRecDepth 100000 in
set_option maxHeartbeats 8000000 in
theorem seek_any' (V0 U : World) (P : Nat → Prop) (G : Nat) (ja : Option Addr) (nj jc head : Nat) (J : List Jb) (g : Gst) (V : World) (hG : V0.heap.size ≤ G) (hP : P G) (hj : Leads V0 ja nj jc (jbcells J)) (hn : J.length = nj) (h : GoC V0 U P G ja nj jc head g V) (hd : g.done < J.length) (hd2 : g.done ≤ 1000) (hok : g.wr.Ok) (hjo : ∀ x ∈ J, x.2.Ok) :
  Calls Tryz.prog 69 #[.pointer (some ⟨G, 0, none⟩)] V (GivesGo V0 U P G ja nj jc head (seekG J head g)) := by
 obtain ⟨M, d, eb, e, s, R⟩ := g
 obtain ⟨wa, wc, la, lc, ra, rc, hK, hR⟩ := h
 dsimp only at hK hR
 have K0 := hid hK
 have R0 := hid hR
 have HJ := hid hj
 have HN := hid hn
 obtain ⟨⟨M', s', er⟩, hX⟩ : ∃ X, sseekP M s = X := ⟨_, rfl⟩
 have HX := hid hX
 obtain ⟨D, hD⟩ := nm (World.drew V)
 have hbD : Below V.heap.size V D := by rw [← hD]; exact (Below.refl _ _).drew
 have HD := hid hD
 clear hD
 have K4 := hid (klD K0.out hbD)
 have R4 := hid (R0.out.grow hbD)
 have HCL := hid (StepSeek_any M s wa la wc lc D R4.out.mem.memL hok)
 rw [hX] at HCL
 unfold memV skV at HCL
 clear K0 R0 hbD hK hR hj hn hX
 haveI : Nonempty (RG G (g23 wa M.W.length wc la M.L.length lc M.F d eb e s ra R.length rc ja nj jc head)) := ⟨⟨D, K4.out⟩⟩
 go_enter Tryz.func69, Tryz.ntmps69
 go_wp2
 refine wp_region_turn (fun W => ∃ z : RG G (g23 wa M.W.length wc la M.L.length lc M.F d eb e s ra R.length rc ja nj jc head), W = z.w) 20 (.p 0 (.p 1 (.p 2 (.p 3 (.p 4 (.p 5 (.q 6 (.p 7 (.p 8 (.p 9 (.p 10 (.q 11 (.h 12 (.p 13 (.p 14 (.p 15 (.p 16 (.p 17 (.p 18 (.p 19 (.h 20 (.p 21 (.p 22 (.p 23 (.h 24 (.done)))))))))))))))))))))))))) (by kernel_rfl) (by kernel_rfl) (by rw [HD.out]; exact ⟨⟨D, K4.out⟩, rfl⟩) ?_
 rw [HD.out]
 iterate 6 (refine wpTurn_p rfl rfl ?_; go_big_quiet_step (fail); refine wpQuiet_nil ?_)
 refine wpTurn_q rfl rfl ?_
 refine wpQuiet_loadP rfl 25 (.tmp 9) rfl G 0 [.slice wa M.W.length wc, .slice la M.L.length lc, .bool M.F] rfl (by rintro _ ⟨z, rfl⟩; exact rangeAt_part z.bg rfl) _ Tryz.underlying25 rfl (by kernel_rfl) ?_
 intro v hv
 subst hv
 refine wpQuiet_nil ?_
 simp only [Act.put, List.setIfInBounds_toArray, List.set_cons_succ, List.set_cons_zero]
 iterate 4 (refine wpTurn_p rfl rfl ?_; go_big_quiet_step (fail); refine wpQuiet_nil ?_)
 refine wpTurn_q rfl rfl ?_
 refine wpQuiet_loadP rfl 46 (.tmp 14) rfl G 13 [.int .i64 s.ph, .int .u64 s.hash, .int .u64 s.key, .int .u64 s.link, .int .u64 s.node, .int .u64 s.val, .bool s.found] rfl (by rintro _ ⟨z, rfl⟩; exact rangeAt_part z.bg rfl) _ Tryz.underlying46 rfl (by kernel_rfl) ?_
 intro v hv
 subst hv
 refine wpQuiet_nil ?_
 simp only [Act.put, List.setIfInBounds_toArray, List.set_cons_succ, List.set_cons_zero]
 refine wpTurn_h rfl rfl fun R' hR' hO => ?_
 go_wp2_with fail
 refine HCL.out.mono ?_
 rintro e9 w5 ⟨wa', wc', la', lc', rfl, hmo, hb5⟩
 have K9 := hid (klD K4.out hb5)
 have R9 := hid (R4.out.mem' hmo hb5)
 clear K4 R4 hb5 hmo HCL
 unfold memV skV
 go_wp2
 refine hR' _ _ ⟨⟨w5, K9.out⟩, rfl⟩ ?_
 clear hR' hO R'
 iterate 7 (refine wpTurn_p rfl rfl ?_; go_big_quiet_step (fail); refine wpQuiet_nil ?_)
 refine wpTurn_m rfl fun R' hR' hO => ?_
 go_wp2_with (refine wsP rfl 25 (.tmp 22) (.tmp 17) rfl G 0 _ (g23 wa' M'.W.length wc' la' M'.L.length lc' M'.F d eb e s ra R.length rc ja nj jc head) _ rfl rfl _ K9.out (by kernel_rfl) (Nat.le_of_ble_eq_true rfl) (by kernel_rfl) rfl ?_; intro u1 a1 a2 a3 a4; have K1 := hid a1; have R1 := hid (R9.out.put K9.out (by decide) (by decide) (by decide) a2 a3 hG a4 (.inl hP)); clear a1 a2 a3 a4 K9 R9; (try simp only [Act.put]))
 refine hR' _ _ ?_
 clear hR' hO R'
 iterate 3 (refine wpTurn_p rfl rfl ?_; go_big_quiet_step (fail); refine wpQuiet_nil ?_)
 refine wpTurn_b rfl fun R' hR' hO => ?_
 go_wp2_with (refine wsP rfl 46 (.tmp 25) (.tmp 18) rfl G 13 _ (g23 wa' M'.W.length wc' la' M'.L.length lc' M'.F d eb e s' ra R.length rc ja nj jc head) _ rfl rfl _ K1.out (by kernel_rfl) (Nat.le_of_ble_eq_true rfl) (by kernel_rfl) rfl ?_; intro u2 a1 a2 a3 a4; have K2 := hid a1; have R2 := hid (R1.out.put K1.out (by decide) (by decide) (by decide) a2 a3 hG a4 (.inl hP)); clear a1 a2 a3 a4 K1 R1; (try simp only [Act.put]))
 refine hR' _ _ ?_
 clear hR' hO R'
 refine wpTurn_done ?_
 clear HD
 have x13 := clD (i := 13) K2.out rfl
 have HRES : Hid (seekG J head ⟨M, d, eb, e, s, R⟩ = if s'.ph = 4 then overG J head ⟨M', d, eb, e, s', R⟩ else ⟨M', d, eb, e, s', R⟩) := hid (by unfold seekG; dsimp only; rw [HX.out])
 by_cases h4 : s'.ph = 4
 ·have tq : (s'.ph != 4) = false := by simp [h4]
  have HR1 := hid (HRES.out.trans (if_pos h4))
  replace hd : d < J.length := hd
  obtain ⟨⟨cb, n0, n1, n2, n3⟩, hp⟩ : ∃ x, J[d]? = some x := ⟨_, List.getElem?_eq_getElem hd⟩
  have HP := hid hp
  rw [HN.out] at hd
  obtain ⟨jb, jo, rfl, hcc⟩ : ∃ b o, ja = some ⟨b, o, none⟩ ∧ ∀ i v, (jbcells J)[i]? = some v → ∀ W, Below V0.heap.size V0 W → W.cell? ⟨b, o + i, none⟩ = some v := by
   obtain ⟨_, _, ⟨q, _⟩ | ⟨b, off, e, h3, h4⟩⟩ := HJ.out
   ·omega
   ·exact ⟨b, off, e, fun i v hv W hW => (hW.cell (p := ⟨b, off + i, none⟩) h3).trans (h4 i v hv)⟩
  have hat : ∀ i, i < 5 → (jbcells J)[d * 5 + i]? = (jb5 (cb, n0, n1, n2, n3))[i]? := fun i hi => jbcell_at hp i hi
  have HRA : Hid (∀ W, Below V0.heap.size V0 W → W.rangeAt jb (jo + d * 5) [.bool cb, .int .u64 n0, .int .u64 n1, .int .u64 n2, .int .u64 n3]) := hid (fun W hW j v hv => by
   have hj5 : j < 5 := (List.getElem?_eq_some_iff.1 hv).1
   have := hcc (d * 5 + j) v (by rw [hat j hj5]; exact hv) W hW
   rw [show jo + d * 5 + j = jo + (d * 5 + j) by omega]
   exact this)
  have HOV : Hid (overG J head ⟨M', d, eb, e, s', R⟩ = if cb = true ∧ s'.found = true then ⟨M', d, true, cutK s'.link s'.node, s', R⟩ else if cb = false ∧ s'.found = false then ⟨M', d, true, putK s'.link (n0, n1, n2, n3) s'.node, s', R⟩ else doneG J head ⟨M', d, eb, e, s', R⟩) := hid (by unfold overG; dsimp only; rw [hp])
  clear hcc hat hp HRES h4
  go_wp2
  obtain ⟨D2, hD⟩ := nm (World.drew u2)
  have hbD : Below u2.heap.size u2 D2 := by rw [← hD]; exact (Below.refl _ _).drew
  have HD := hid hD
  clear hD
  have K5 := hid (klD K2.out hbD)
  have R5 := hid (R2.out.grow hbD)
  clear K2 R2 hbD x13
  haveI : Nonempty (RJ V0 G (g23 wa' M'.W.length wc' la' M'.L.length lc' M'.F d eb e s' ra R.length rc (some ⟨jb, jo, none⟩) nj jc head)) := ⟨⟨D2, K5.out, R5.out.below⟩⟩
  have q3 : ∀ z : RJ V0 G (g23 wa' M'.W.length wc' la' M'.L.length lc' M'.F d eb e s' ra R.length rc (some ⟨jb, jo, none⟩) nj jc head), z.w.cell? ⟨G, 3, none⟩ = some (.int .i64 d) := fun z => clD (i := 3) z.bg rfl
  have q21 : ∀ z : RJ V0 G (g23 wa' M'.W.length wc' la' M'.L.length lc' M'.F d eb e s' ra R.length rc (some ⟨jb, jo, none⟩) nj jc head), z.w.cell? ⟨G, 21, none⟩ = some (.slice (some ⟨jb, jo, none⟩) nj jc) := fun z => clD (i := 21) z.bg rfl
  refine rgm2 (fun W => ∃ z : RJ V0 G (g23 wa' M'.W.length wc' la' M'.L.length lc' M'.F d eb e s' ra R.length rc (some ⟨jb, jo, none⟩) nj jc head), W = z.w) 12 (.q 0 (.q 1 (.q 2 (.q 3 (.q 4 (.q 5 (.q 6 (.q 7 (.q 8 (.q 9 (.q 10 (.h 11 (.done))))))))))))) (by kernel_rfl) (by kernel_rfl) (by rw [HD.out]; exact ⟨⟨D2, K5.out, R5.out.below⟩, rfl⟩) ?_
  rw [HD.out]
  iterate 10 (refine m2q rfl rfl ?_; go_big_quiet_step (fail); refine wpQuiet_nil ?_)
  refine m2q rfl rfl ?_
  refine wpQuiet_loadP rfl 66 (.tmp 42) rfl _ _ [.bool cb, .int .u64 n0, .int .u64 n1, .int .u64 n2, .int .u64 n3] rfl (by rintro _ ⟨z, rfl⟩; exact HRA.out _ z.bel) _ Tryz.underlying66 rfl (by kernel_rfl) ?_
  intro v hv
  subst hv
  refine wpQuiet_nil ?_
  simp only [Act.put, List.setIfInBounds_toArray, List.set_cons_succ, List.set_cons_zero]
  refine m2h rfl fun R' hR' hO => ?_
  obtain ⟨D3, hD3, hbn, hsn, hln⟩ := laid D2 #[.bool false, .int .u64 0, .int .u64 0, .int .u64 0, .int .u64 0] 66
  obtain ⟨B, hB⟩ := nm (D2.heap.size)
  rw [hB] at hln
  have hGB : G < B := by have := llD K5.out; omega
  have K6 := hid (klD K5.out hbn)
  have R6 := hid (R5.out.grow hbn)
  have hVB : V0.heap.size ≤ B := by omega
  have hUB : U.heap.size ≤ B := by have := R5.out.tch.size; omega
  have KB := hid hln
  clear K5 R5 hbn hsn hln
  go_wp2
  refine hR' _ _ ⟨⟨D3, K6.out, R6.out.below⟩, rfl⟩ ?_
  clear hR' hO R'
  refine m2d ?_
  simp only [List.drop_succ_cons, List.drop_zero]
  clear q3 q21 HD HRA
  have HSEL : Hid (True) := hid trivial
  go_upto_region 4 with (refine wsP rfl 66 (.tmp 2) (.tmp 43) rfl B 0 _ #[.bool cb, .int .u64 n0, .int .u64 n1, .int .u64 n2, .int .u64 n3] _ rfl rfl _ KB.out (by kernel_rfl) (Nat.le_of_ble_eq_true rfl) (by kernel_rfl) rfl ?_; intro u4 a1 a2 a3 a4; have KB7 := hid a1; have K7 := hid (a2 G _ (by omega) K6.out); have R7 := hid (R6.out.put KB.out (by decide) (by decide) (by decide) a2 a3 hVB a4 (.inr hUB)); clear a1 a2 a3 a4 K6 R6 KB; (try simp only [Act.put]))
  clear hD3 hB
  have y0 := clD (i := 0) KB7.out rfl
  have x19 : u4.cell? ⟨G, 19, none⟩ = some (.bool s'.found) := clD (i := 19) K7.out rfl
  obtain ⟨fd, hfd⟩ := nm (s'.found)
  rw [hfd] at x19
  have HFD := hid hfd
  clear hfd
  cases cb
  case' true =>
   cases fd
   case' true =>
    have HR2 := hid (HR1.out.trans (HOV.out.trans (if_pos ⟨rfl, HFD.out⟩)))
    clear HR1 HOV
    go_wp2
    clear y0 x19
    obtain ⟨D4, hD⟩ := nm (World.drew u4)
    have hbD : Below u4.heap.size u4 D4 := by rw [← hD]; exact (Below.refl _ _).drew
    have HD := hid hD
    clear hD
    have K8 := hid (klD K7.out hbD)
    have R8 := hid (R7.out.grow hbD)
    have KB8 := hid (klD KB7.out hbD)
    clear K7 R7 KB7 hbD
    haveI : Nonempty (RG G (g23 wa' M'.W.length wc' la' M'.L.length lc' M'.F d eb e s' ra R.length rc (some ⟨jb, jo, none⟩) nj jc head)) := ⟨⟨D4, K8.out⟩⟩
    have q16 : ∀ z : RG G (g23 wa' M'.W.length wc' la' M'.L.length lc' M'.F d eb e s' ra R.length rc (some ⟨jb, jo, none⟩) nj jc head), z.w.cell? ⟨G, 16, none⟩ = some (.int .u64 s'.link) := fun z => clD (i := 16) z.bg rfl
    have q17 : ∀ z : RG G (g23 wa' M'.W.length wc' la' M'.L.length lc' M'.F d eb e s' ra R.length rc (some ⟨jb, jo, none⟩) nj jc head), z.w.cell? ⟨G, 17, none⟩ = some (.int .u64 s'.node) := fun z => clD (i := 17) z.bg rfl
    refine wp_region_turn (fun W => ∃ z : RG G (g23 wa' M'.W.length wc' la' M'.L.length lc' M'.F d eb e s' ra R.length rc (some ⟨jb, jo, none⟩) nj jc head), W = z.w) 18 (.p 0 (.p 1 (.p 2 (.p 3 (.p 4 (.p 5 (.p 6 (.q 7 (.p 8 (.p 9 (.p 10 (.p 11 (.p 12 (.q 13 (.h 14 (.p 15 (.p 16 (.p 17 (.h 18 (.p 19 (.p 20 (.p 21 (.h 22 (.done)))))))))))))))))))))))) (by kernel_rfl) (by kernel_rfl) (by rw [HD.out]; exact ⟨⟨D4, K8.out⟩, rfl⟩) ?_
    rw [HD.out]
    iterate 7 (refine wpTurn_p rfl rfl ?_; go_big_quiet_step (fail); refine wpQuiet_nil ?_)
    (refine wpTurn_q rfl rfl ?_; go_big_quiet_step (fail); refine wpQuiet_nil ?_)
    iterate 5 (refine wpTurn_p rfl rfl ?_; go_big_quiet_step (fail); refine wpQuiet_nil ?_)
    (refine wpTurn_q rfl rfl ?_; go_big_quiet_step (fail); refine wpQuiet_nil ?_)
    refine wpTurn_h rfl rfl fun R' hR' hO => ?_
    go_wp2_with fail
    refine (Cut_any s'.link s'.node D4).mono ?_
    rintro e9 w7 ⟨rfl, hb7⟩
    have K9 := hid (klD K8.out hb7)
    have R9 := hid (R8.out.grow hb7)
    clear K8 R8 KB8 hb7
    unfold edV cutK
    go_wp2
    refine hR' _ _ ⟨⟨w7, K9.out⟩, rfl⟩ ?_
    clear hR' hO R'
    iterate 3 (refine wpTurn_p rfl rfl ?_; go_big_quiet_step (fail); refine wpQuiet_nil ?_)
    refine wpTurn_m rfl fun R' hR' hO => ?_
    go_wp2_with (refine wsP rfl 4 (.tmp 74) (.const (.bool true)) rfl G 4 _ (g23 wa' M'.W.length wc' la' M'.L.length lc' M'.F d true e s' ra R.length rc (some ⟨jb, jo, none⟩) nj jc head) _ rfl rfl _ K9.out (by kernel_rfl) (Nat.le_of_ble_eq_true rfl) (by kernel_rfl) rfl ?_; intro u6 a1 a2 a3 a4; have K10 := hid a1; have R10 := hid (R9.out.put K9.out (by decide) (by decide) (by decide) a2 a3 hG a4 (.inl hP)); clear a1 a2 a3 a4 K9 R9; (try simp only [Act.put]))
    refine hR' _ _ ?_
    clear hR' hO R'
    iterate 3 (refine wpTurn_p rfl rfl ?_; go_big_quiet_step (fail); refine wpQuiet_nil ?_)
    refine wpTurn_b rfl fun R' hR' hO => ?_
    go_wp2_with (refine wsP rfl 44 (.tmp 77) (.tmp 71) rfl G 5 _ (g23 wa' M'.W.length wc' la' M'.L.length lc' M'.F d true (cutK s'.link s'.node) s' ra R.length rc (some ⟨jb, jo, none⟩) nj jc head) _ rfl rfl _ K10.out (by kernel_rfl) (Nat.le_of_ble_eq_true rfl) (by kernel_rfl) rfl ?_; intro u7 a1 a2 a3 a4; have K11 := hid a1; have R11 := hid (R10.out.put K10.out (by decide) (by decide) (by decide) a2 a3 hG a4 (.inl hP)); clear a1 a2 a3 a4 K10 R10; (try simp only [Act.put]))
    refine hR' _ _ ?_
    clear hR' hO R'
    refine wpTurn_done ?_
    clear HD q16 q17
    go_wp2
    go_end0
    exact ⟨rfl, by rw [HR2.out]; exact ⟨_, _, _, _, _, _, K11.out, R11.out⟩⟩
   case' false =>
    have HR2 := hid (HR1.out.trans (HOV.out.trans ((if_neg (by rw [HFD.out]; simp)).trans (if_neg (by simp)))))
    clear HR1 HOV
    have HC := hid (done_any V0 U P G (some ⟨jb, jo, none⟩) nj jc head J ⟨M', d, eb, e, s', R⟩ u4 hG hP HJ.out HN.out ⟨_, _, _, _, _, _, K7.out, R7.out⟩ hd2)
    clear K7 R7 KB7
    go_wp2_with fail
    refine HC.out.mono ?_
    rintro e9 W ⟨rfl, hW⟩
    have HW := hid hW
    clear hW HC
    go_wp2
    go_end0
    exact ⟨rfl, by rw [HR2.out]; exact HW.out⟩
  case' false =>
   cases fd
   case' true =>
    have HR2 := hid (HR1.out.trans (HOV.out.trans ((if_neg (by simp)).trans (if_neg (by rw [HFD.out]; simp)))))
    clear HR1 HOV
    have HC := hid (done_any V0 U P G (some ⟨jb, jo, none⟩) nj jc head J ⟨M', d, eb, e, s', R⟩ u4 hG hP HJ.out HN.out ⟨_, _, _, _, _, _, K7.out, R7.out⟩ hd2)
    clear K7 R7 KB7
    go_wp2_with fail
    refine HC.out.mono ?_
    rintro e9 W ⟨rfl, hW⟩
    have HW := hid hW
    clear hW HC
    go_wp2
    go_end0
    exact ⟨rfl, by rw [HR2.out]; exact HW.out⟩
   case' false =>
    have HR2 := hid (HR1.out.trans (HOV.out.trans ((if_neg (by simp)).trans (if_pos ⟨rfl, HFD.out⟩))))
    clear HR1 HOV
    go_wp2
    clear y0 x19
    obtain ⟨D4, hD⟩ := nm (World.drew u4)
    have hbD : Below u4.heap.size u4 D4 := by rw [← hD]; exact (Below.refl _ _).drew
    have HD := hid hD
    clear hD
    have K8 := hid (klD K7.out hbD)
    have R8 := hid (R7.out.grow hbD)
    have KB8 := hid (klD KB7.out hbD)
    clear K7 R7 KB7 hbD
    haveI : Nonempty (RGB G B (g23 wa' M'.W.length wc' la' M'.L.length lc' M'.F d eb e s' ra R.length rc (some ⟨jb, jo, none⟩) nj jc head) #[.bool false, .int .u64 n0, .int .u64 n1, .int .u64 n2, .int .u64 n3] 66) := ⟨⟨D4, K8.out, KB8.out⟩⟩
    have q16 : ∀ z : RGB G B (g23 wa' M'.W.length wc' la' M'.L.length lc' M'.F d eb e s' ra R.length rc (some ⟨jb, jo, none⟩) nj jc head) #[.bool false, .int .u64 n0, .int .u64 n1, .int .u64 n2, .int .u64 n3] 66, z.w.cell? ⟨G, 16, none⟩ = some (.int .u64 s'.link) := fun z => clD (i := 16) z.bg rfl
    have q17 : ∀ z : RGB G B (g23 wa' M'.W.length wc' la' M'.L.length lc' M'.F d eb e s' ra R.length rc (some ⟨jb, jo, none⟩) nj jc head) #[.bool false, .int .u64 n0, .int .u64 n1, .int .u64 n2, .int .u64 n3] 66, z.w.cell? ⟨G, 17, none⟩ = some (.int .u64 s'.node) := fun z => clD (i := 17) z.bg rfl
    refine wp_region_turn (fun W => ∃ z : RGB G B (g23 wa' M'.W.length wc' la' M'.L.length lc' M'.F d eb e s' ra R.length rc (some ⟨jb, jo, none⟩) nj jc head) #[.bool false, .int .u64 n0, .int .u64 n1, .int .u64 n2, .int .u64 n3] 66, W = z.w) 20 (.p 0 (.p 1 (.p 2 (.p 3 (.p 4 (.p 5 (.p 6 (.q 7 (.p 8 (.q 9 (.p 10 (.p 11 (.p 12 (.p 13 (.p 14 (.q 15 (.h 16 (.p 17 (.p 18 (.p 19 (.h 20 (.p 21 (.p 22 (.p 23 (.h 24 (.done)))))))))))))))))))))))))) (by kernel_rfl) (by kernel_rfl) (by rw [HD.out]; exact ⟨⟨D4, K8.out, KB8.out⟩, rfl⟩) ?_
    rw [HD.out]
    iterate 7 (refine wpTurn_p rfl rfl ?_; go_big_quiet_step (fail); refine wpQuiet_nil ?_)
    (refine wpTurn_q rfl rfl ?_; go_big_quiet_step (fail); refine wpQuiet_nil ?_)
    (refine wpTurn_p rfl rfl ?_; go_big_quiet_step (fail); refine wpQuiet_nil ?_)
    refine wpTurn_q rfl rfl ?_
    refine wpQuiet_loadP rfl 42 (.tmp 99) rfl B 1 [.int .u64 n0, .int .u64 n1, .int .u64 n2, .int .u64 n3] rfl (by rintro _ ⟨z, rfl⟩; exact rangeAt_part z.bb rfl) _ Tryz.underlying42 rfl (by kernel_rfl) ?_
    intro v hv
    subst hv
    refine wpQuiet_nil ?_
    simp only [Act.put, List.setIfInBounds_toArray, List.set_cons_succ, List.set_cons_zero]
    iterate 5 (refine wpTurn_p rfl rfl ?_; go_big_quiet_step (fail); refine wpQuiet_nil ?_)
    (refine wpTurn_q rfl rfl ?_; go_big_quiet_step (fail); refine wpQuiet_nil ?_)
    refine wpTurn_h rfl rfl fun R' hR' hO => ?_
    go_wp2_with fail
    refine (Put_any s'.link s'.node (n0, n1, n2, n3) D4).mono ?_
    rintro e9 w7 ⟨rfl, hb7⟩
    have K9 := hid (klD K8.out hb7)
    have R9 := hid (R8.out.grow hb7)
    have KB9 := hid (klD KB8.out hb7)
    clear K8 R8 KB8 hb7
    unfold edV putK
    go_wp2
    refine hR' _ _ ⟨⟨w7, K9.out, KB9.out⟩, rfl⟩ ?_
    clear hR' hO R'
    iterate 3 (refine wpTurn_p rfl rfl ?_; go_big_quiet_step (fail); refine wpQuiet_nil ?_)
    refine wpTurn_m rfl fun R' hR' hO => ?_
    go_wp2_with (refine wsP rfl 4 (.tmp 110) (.const (.bool true)) rfl G 4 _ (g23 wa' M'.W.length wc' la' M'.L.length lc' M'.F d true e s' ra R.length rc (some ⟨jb, jo, none⟩) nj jc head) _ rfl rfl _ K9.out (by kernel_rfl) (Nat.le_of_ble_eq_true rfl) (by kernel_rfl) rfl ?_; intro u6 a1 a2 a3 a4; have K10 := hid a1; have R10 := hid (R9.out.put K9.out (by decide) (by decide) (by decide) a2 a3 hG a4 (.inl hP)); clear a1 a2 a3 a4 K9 R9; (try simp only [Act.put]))
    refine hR' _ _ ?_
    clear hR' hO R'
    iterate 3 (refine wpTurn_p rfl rfl ?_; go_big_quiet_step (fail); refine wpQuiet_nil ?_)
    refine wpTurn_b rfl fun R' hR' hO => ?_
    go_wp2_with (refine wsP rfl 44 (.tmp 113) (.tmp 107) rfl G 5 _ (g23 wa' M'.W.length wc' la' M'.L.length lc' M'.F d true (putK s'.link (n0, n1, n2, n3) s'.node) s' ra R.length rc (some ⟨jb, jo, none⟩) nj jc head) _ rfl rfl _ K10.out (by kernel_rfl) (Nat.le_of_ble_eq_true rfl) (by kernel_rfl) rfl ?_; intro u7 a1 a2 a3 a4; have K11 := hid a1; have R11 := hid (R10.out.put K10.out (by decide) (by decide) (by decide) a2 a3 hG a4 (.inl hP)); clear a1 a2 a3 a4 K10 R10; (try simp only [Act.put]))
    refine hR' _ _ ?_
    clear hR' hO R'
    refine wpTurn_done ?_
    clear HD q16 q17
    go_wp2
    go_end0
    exact ⟨rfl, by rw [HR2.out]; exact ⟨_, _, _, _, _, _, K11.out, R11.out⟩⟩
 ·have tq : (s'.ph != 4) = true := by simp [h4]
  have HR2 := hid (HRES.out.trans (if_neg h4))
  clear HRES h4
  go_wp2
  go_end0
  exact ⟨rfl, by rw [HR2.out]; exact ⟨_, _, _, _, _, _, K2.out, R2.out⟩⟩
end Go.Proofs.YtipohagcppfgiaaGreat
