/- Maps of numbers that a call has made: which pairs they hold. -/
import Derived.Test.YtipohagcppfgiaaProg
import Derived.Test.YtipohagcppfgiaaKit
import Derived.Maps.OwnOps
import Derived.Maps.OwnSet
namespace Go.Proofs.Ytipohagcppfgiaa
open Go.RowKit
open Go.Proofs
open Go.Maps (has size Tidy IsMap)
set_option linter.unusedVariables false

theorem wfU {k : Nat} (h : k < 18446744073709551616) : (Lit.int .u64 ((k : Nat) : Int)).wf = true := by
  simp [Lit.wf, IntKind.min, IntKind.max, IntKind.signed, IntKind.bits]
  omega

/-- The datum of a map to which these pairs were written, one behind the other. -/
def mapD (l : List (Nat × Nat)) : DataW Unit := l.foldl (fun D p => D.put (.int .u64 ((p.1 : Nat) : Int)) (.lit (.int .u64 ((p.2 : Nat) : Int)))) (.map [])
theorem mapD_snoc (l : List (Nat × Nat)) (p : Nat × Nat) : mapD (l ++ [p]) = (mapD l).put (.int .u64 ((p.1 : Nat) : Int)) (.lit (.int .u64 ((p.2 : Nat) : Int))) := by simp [mapD, List.foldl_append]
theorem isKey (k : Nat) : WideAt.IsKeyLit (.int .u64 ((k : Nat) : Int)) := trivial
theorem mapD_tidy (l : List (Nat × Nat)) : Tidy (mapD l) := by
  refine snocRec (p := fun l => Tidy (mapD l)) Maps.tidy_empty (fun l p h => ?_) l
  rw [mapD_snoc]; exact h.put (isKey _) _
theorem key_ne {a b : Nat} (h : a ≠ b) : (Lit.int .u64 ((a : Nat) : Int)) ≠ (Lit.int .u64 ((b : Nat) : Int)) := by
  intro e
  simp only [Lit.int.injEq, true_and] at e
  omega
/-- What is read at a key: what was written there last; 0: nothing was. -/
def atM (l : List (Nat × Nat)) (k : Nat) : Nat := l.foldl (fun a p => if p.1 = k then p.2 else a) 0
theorem atM_snoc (l : List (Nat × Nat)) (p : Nat × Nat) (k : Nat) : atM (l ++ [p]) k = if p.1 = k then p.2 else atM l k := by simp [atM, List.foldl_append]
def hasM (l : List (Nat × Nat)) (k : Nat) : Bool := l.any fun p => decide (p.1 = k)
theorem mapD_has (l : List (Nat × Nat)) (k : Nat) : has (mapD l) (.int .u64 ((k : Nat) : Int)) = hasM l k := by
  refine snocRec (p := fun l => has (mapD l) (.int .u64 ((k : Nat) : Int)) = hasM l k) rfl (fun l p h => ?_) l
  rw [mapD_snoc]
  by_cases e : p.1 = k
  · rw [← e, Maps.has_put_same (mapD_tidy l).isMap (isKey _)]
    simp [hasM]
  · rw [Maps.has_put_other (key_ne (Ne.symm e)), h]
    simp [hasM, e]
theorem mapD_at (l : List (Nat × Nat)) (k : Nat) : (mapD l).atKey (.int .u64 ((k : Nat) : Int)) (.lit (.int .u64 0)) = .lit (.int .u64 ((atM l k : Nat) : Int)) := by
  refine snocRec (p := fun l => (mapD l).atKey (.int .u64 ((k : Nat) : Int)) (.lit (.int .u64 0)) = .lit (.int .u64 ((atM l k : Nat) : Int))) rfl (fun l p h => ?_) l
  rw [mapD_snoc, atM_snoc]
  by_cases e : p.1 = k
  · rw [← e, Maps.atKey_put_same (mapD_tidy l).isMap (isKey _), if_pos rfl]
  · rw [Maps.atKey_put_other (key_ne (Ne.symm e)), h, if_neg e]
theorem mapD_size_snoc (l : List (Nat × Nat)) (p : Nat × Nat) : size (mapD (l ++ [p])) = if hasM l p.1 then size (mapD l) else size (mapD l) + 1 := by
  rw [mapD_snoc, Maps.size_put (mapD_tidy l), mapD_has]
theorem mapD_size_le (l : List (Nat × Nat)) : size (mapD l) ≤ l.length := by
  refine snocRec (p := fun l => size (mapD l) ≤ l.length) (Nat.le_refl _) (fun l p h => ?_) l
  rw [mapD_size_snoc, List.length_append]
  split <;> simp <;> omega
/-- No key comes twice. -/
def apartM (l : List (Nat × Nat)) : Bool := decide (l.map (·.1)).Nodup
theorem mapD_size (l : List (Nat × Nat)) : decide (size (mapD l) < l.length) = !apartM l := by
  refine snocRec (p := fun l => decide (size (mapD l) < l.length) = !apartM l) (by rfl) (fun l p h => ?_) l
  have hle := mapD_size_le l
  rw [mapD_size_snoc]
  unfold apartM at *
  have hn : (List.map (·.1) (l ++ [p])).Nodup ↔ (l.map (·.1)).Nodup ∧ hasM l p.1 = false := by
    rw [List.map_append, List.nodup_append]
    unfold hasM
    rw [List.any_eq_false]
    simp
  cases hh : hasM l p.1 with
  | true =>
    rw [if_pos rfl, decide_eq_true (by rw [List.length_append]; simp; omega), decide_eq_false (by rw [hn, hh]; simp)]; rfl
  | false =>
    rw [if_neg (by simp)]
    have e : decide ((List.map (·.1) (l ++ [p])).Nodup) = decide ((l.map (·.1)).Nodup) := by
      rw [Bool.eq_iff_iff, decide_eq_true_iff, decide_eq_true_iff, hn, hh]; simp
    rw [e, ← h]
    simp [Nat.succ_lt_succ_iff]

/-- A block is a map to which these pairs were written. -/
def Ids (w : World) (b : Nat) (l : List (Nat × Nat)) : Prop := World.ownsMap w Try.prog 26 (plainElem Try.prog 26) b l.length (mapD l)
theorem keyedU : Maps.Keyed Try.prog 26 := Maps.int_keyed Try.underlying26
theorem keyU {k : Nat} (h : k < 18446744073709551616) : keyOf Try.prog 26 (.int .u64 ((k : Nat) : Int)) = some (.int .u64 ((k : Nat) : Int)) := Maps.keyOf_int_mk Try.underlying26 (wfU h)
theorem Ids.made (w : World) : Ids (w.alloc (.map #[] 0)) w.heap.size [] := World.ownsMap_made w _ _ _
theorem Ids.grow {w w' : World} {b : Nat} {l : List (Nat × Nat)} (h : Ids w b l) (hb : Below w.heap.size w w') : Ids w' b l := by
  have hlt := World.ownsMap.lt h
  obtain ⟨es, clock, hb', F, hs, hD⟩ := h
  exact ⟨es, clock, (hb.block b hlt).trans hb', F, hs, hD⟩
theorem below_grown {w w' : World} {b base : Nat} (h : w.grownBy w' (some b)) (hb : base ≤ b) (hs : base ≤ w.heap.size) : Below base w w' := (Below.refl base w).grown h hs (fun k e => by cases e; exact hb)

theorem wp_put {w : World} {ops : Array Oper} {rest : List Oper} {o : Oper} {a : Act} {Q : Exit → Act → World → Prop} (hg : o.guard = none) (m x v : Operand) (t : TypeId) (hop : o.op = Op.mapUpdate t m x v) (ht : Try.prog.underlying t = some (.map 26 26))
    (b k u : Nat) (l : List (Nat × Nat)) (hm : a.eval m = .map (some b)) (hown : Ids w b l) (hl : l.length ≤ 1000) (hx : a.eval x = .int .u64 ((k : Nat) : Int)) (hv : a.eval v = .int .u64 ((u : Nat) : Int)) (hk : k < 18446744073709551616) (hu : u < 18446744073709551616)
    (base : Nat) (hb : base ≤ b) (h : ∀ w', Ids w' b (l ++ [(k, u)]) → Below base w w' → w.heap.size ≤ w'.heap.size → wpList Try.prog ops Q rest (a.put o.dst undef) w') : wpList Try.prog ops Q (o :: rest) a w := by
  refine wpList_mapUpdate_own w hg m x v t hop 26 26 keyedU ht (plainElem Try.prog 26) b l.length (mapD l) hm hown (by unfold maxLen; omega) _ _ _ hx hv (keyU hk) _ [] (plainElem_int Try.underlying26 (wfU hu)) ?_
  intro w' h1 h2
  refine h w' ?_ (below_grown h2 hb (Nat.le_of_lt (Nat.lt_of_le_of_lt hb (World.ownsMap.lt hown)))) h2.size
  unfold Ids
  rw [mapD_snoc, List.length_append]
  exact h1
theorem wp_at {w : World} {ops : Array Oper} {rest : List Oper} {o : Oper} {a : Act} {Q : Exit → Act → World → Prop} (hg : o.guard = none) (m x : Operand) (t : TypeId) (hop : o.op = Op.lookup t m x false) (ht : Try.prog.underlying t = some (.map 26 26))
    (b k : Nat) (l : List (Nat × Nat)) (hm : a.eval m = .map (some b)) (hown : Ids w b l) (hx : a.eval x = .int .u64 ((k : Nat) : Int)) (hk : k < 18446744073709551616)
    (h : wpList Try.prog ops Q rest (a.put o.dst (.int .u64 ((atM l k : Nat) : Int))) w) : wpList Try.prog ops Q (o :: rest) a w := by
  refine wpList_lookup_own_int w hg m x t hop 26 26 .u64 keyedU ht Try.underlying26 (by kernel_rfl) b l.length (mapD l) hm hown _ _ hx (keyU hk) ?_
  intro c hc _
  rw [mapD_at] at hc
  obtain rfl : c = ((atM l k : Nat) : Int) := by simp at hc; omega
  exact h
theorem wp_look {w : World} {ops : Array Oper} {rest : List Oper} {o : Oper} {a : Act} {Q : Exit → Act → World → Prop} (hg : o.guard = none) (m x : Operand) (t : TypeId) (hop : o.op = Op.lookup t m x true) (ht : Try.prog.underlying t = some (.map 26 26))
    (b k : Nat) (l : List (Nat × Nat)) (hm : a.eval m = .map (some b)) (hown : Ids w b l) (hx : a.eval x = .int .u64 ((k : Nat) : Int)) (hk : k < 18446744073709551616)
    (h : wpList Try.prog ops Q rest (a.put o.dst (.tuple #[.int .u64 ((atM l k : Nat) : Int), .bool (hasM l k)])) w) : wpList Try.prog ops Q (o :: rest) a w := by
  refine wpList_lookup_own_ok_int w hg m x t hop 26 26 .u64 keyedU ht Try.underlying26 (by kernel_rfl) b l.length (mapD l) hm hown _ _ hx (keyU hk) ?_
  intro c hc _
  rw [mapD_at] at hc
  obtain rfl : c = ((atM l k : Nat) : Int) := by simp at hc; omega
  rw [mapD_has]
  exact h
theorem wp_mapLen {w : World} {ops : Array Oper} {rest : List Oper} {o : Oper} {a : Act} {Q : Exit → Act → World → Prop} (hg : o.guard = none) (m : Operand) (t : TypeId) (hop : o.op = Op.call { callee := Callee.builtin Builtin.len, args := #[m], argTypes := #[t] }) (ht : Try.prog.underlying t = some (.map 26 26))
    (b : Nat) (l : List (Nat × Nat)) (hm : a.eval m = .map (some b)) (hown : Ids w b l)
    (h : wpList Try.prog ops Q rest (a.put o.dst (.int .i64 ((size (mapD l) : Nat) : Int))) w) : wpList Try.prog ops Q (o :: rest) a w :=
  wpList_len_own w hg m t hop 26 26 ht _ b l.length (mapD l) hm hown h
theorem Ids.len {w : World} {b : Nat} {l : List (Nat × Nat)} (h : Ids w b l) {t : TypeId} (ht : Try.prog.underlying t = some (.map 26 26)) (ty : TypeId) : (Builtin.len_ #[t] ty #[.map (some b)]).run Try.prog w = .ok (.int .i64 ((size (mapD l) : Nat) : Int)) w := World.ownsMap.len h ht ty
end Go.Proofs.Ytipohagcppfgiaa
