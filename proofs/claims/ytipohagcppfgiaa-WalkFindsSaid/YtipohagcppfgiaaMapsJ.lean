/- Maps of numbers that a call has made: which pairs they hold. -/
import Derived.Test.YtipohagcppfgiaaProg
import Derived.Test.YtipohagcppfgiaaKit
import Derived.Maps.OwnOps
import Derived.Maps.OwnSet
namespace Go.Proofs.Ytipohagcppfgiaa
open Go.RowKit
open Go.Proofs
open Go.Maps (has size Tidy IsMap)
set_option linter.unusedVariables false

theorem wfUJ {k : Nat} (h : k < 9223372036854775808) : (Lit.int .i64 ((k : Nat) : Int)).wf = true := by
  simp [Lit.wf, IntKind.min, IntKind.max, IntKind.signed, IntKind.bits]
  omega

/-- The datum of a map to which these pairs were written, one behind the other. -/
def mapDJ (l : List (Nat × Nat)) : DataW Unit := l.foldl (fun D p => D.put (.int .i64 ((p.1 : Nat) : Int)) (.lit (.int .i64 ((p.2 : Nat) : Int)))) (.map [])
theorem mapD_snocJ (l : List (Nat × Nat)) (p : Nat × Nat) : mapDJ (l ++ [p]) = (mapDJ l).put (.int .i64 ((p.1 : Nat) : Int)) (.lit (.int .i64 ((p.2 : Nat) : Int))) := by simp [mapDJ, List.foldl_append]
theorem isKeyJ (k : Nat) : WideAt.IsKeyLit (.int .i64 ((k : Nat) : Int)) := trivial
theorem mapD_tidyJ (l : List (Nat × Nat)) : Tidy (mapDJ l) := by
  refine snocRec (p := fun l => Tidy (mapDJ l)) Maps.tidy_empty (fun l p h => ?_) l
  rw [mapD_snocJ]; exact h.put (isKeyJ _) _
theorem key_neJ {a b : Nat} (h : a ≠ b) : (Lit.int .i64 ((a : Nat) : Int)) ≠ (Lit.int .i64 ((b : Nat) : Int)) := by
  intro e
  simp only [Lit.int.injEq, true_and] at e
  omega
/-- What is read at a key: what was written there last; 0: nothing was. -/
def atMJ (l : List (Nat × Nat)) (k : Nat) : Nat := l.foldl (fun a p => if p.1 = k then p.2 else a) 0
theorem atM_snocJ (l : List (Nat × Nat)) (p : Nat × Nat) (k : Nat) : atMJ (l ++ [p]) k = if p.1 = k then p.2 else atMJ l k := by simp [atMJ, List.foldl_append]
def hasMJ (l : List (Nat × Nat)) (k : Nat) : Bool := l.any fun p => decide (p.1 = k)
theorem mapD_hasJ (l : List (Nat × Nat)) (k : Nat) : has (mapDJ l) (.int .i64 ((k : Nat) : Int)) = hasMJ l k := by
  refine snocRec (p := fun l => has (mapDJ l) (.int .i64 ((k : Nat) : Int)) = hasMJ l k) rfl (fun l p h => ?_) l
  rw [mapD_snocJ]
  by_cases e : p.1 = k
  · rw [← e, Maps.has_put_same (mapD_tidyJ l).isMap (isKeyJ _)]
    simp [hasMJ]
  · rw [Maps.has_put_other (key_neJ (Ne.symm e)), h]
    simp [hasMJ, e]
theorem mapD_atJ (l : List (Nat × Nat)) (k : Nat) : (mapDJ l).atKey (.int .i64 ((k : Nat) : Int)) (.lit (.int .i64 0)) = .lit (.int .i64 ((atMJ l k : Nat) : Int)) := by
  refine snocRec (p := fun l => (mapDJ l).atKey (.int .i64 ((k : Nat) : Int)) (.lit (.int .i64 0)) = .lit (.int .i64 ((atMJ l k : Nat) : Int))) rfl (fun l p h => ?_) l
  rw [mapD_snocJ, atM_snocJ]
  by_cases e : p.1 = k
  · rw [← e, Maps.atKey_put_same (mapD_tidyJ l).isMap (isKeyJ _), if_pos rfl]
  · rw [Maps.atKey_put_other (key_neJ (Ne.symm e)), h, if_neg e]
theorem mapD_size_snocJ (l : List (Nat × Nat)) (p : Nat × Nat) : size (mapDJ (l ++ [p])) = if hasMJ l p.1 then size (mapDJ l) else size (mapDJ l) + 1 := by
  rw [mapD_snocJ, Maps.size_put (mapD_tidyJ l), mapD_hasJ]
theorem mapD_size_leJ (l : List (Nat × Nat)) : size (mapDJ l) ≤ l.length := by
  refine snocRec (p := fun l => size (mapDJ l) ≤ l.length) (Nat.le_refl _) (fun l p h => ?_) l
  rw [mapD_size_snocJ, List.length_append]
  split <;> simp <;> omega
/-- No key comes twice. -/
def apartMJ (l : List (Nat × Nat)) : Bool := decide (l.map (·.1)).Nodup
theorem mapD_sizeJ (l : List (Nat × Nat)) : decide (size (mapDJ l) < l.length) = !apartMJ l := by
  refine snocRec (p := fun l => decide (size (mapDJ l) < l.length) = !apartMJ l) (by rfl) (fun l p h => ?_) l
  have hle := mapD_size_leJ l
  rw [mapD_size_snocJ]
  unfold apartMJ at *
  have hn : (List.map (·.1) (l ++ [p])).Nodup ↔ (l.map (·.1)).Nodup ∧ hasMJ l p.1 = false := by
    rw [List.map_append, List.nodup_append]
    unfold hasMJ
    rw [List.any_eq_false]
    simp
  cases hh : hasMJ l p.1 with
  | true =>
    rw [if_pos rfl, decide_eq_true (by rw [List.length_append]; simp; omega), decide_eq_false (by rw [hn, hh]; simp)]; rfl
  | false =>
    rw [if_neg (by simp)]
    have e : decide ((List.map (·.1) (l ++ [p])).Nodup) = decide ((l.map (·.1)).Nodup) := by
      rw [Bool.eq_iff_iff, decide_eq_true_iff, decide_eq_true_iff, hn, hh]; simp
    rw [e, ← h]
    simp [Nat.succ_lt_succ_iff]

/-- A block is a map to which these pairs were written. -/
def IdsJ (w : World) (b : Nat) (l : List (Nat × Nat)) : Prop := World.ownsMap w Try.prog 3 (plainElem Try.prog 3) b l.length (mapDJ l)
theorem keyedUJ : Maps.Keyed Try.prog 3 := Maps.int_keyed Try.underlying3
theorem keyUJ {k : Nat} (h : k < 9223372036854775808) : keyOf Try.prog 3 (.int .i64 ((k : Nat) : Int)) = some (.int .i64 ((k : Nat) : Int)) := Maps.keyOf_int_mk Try.underlying3 (wfUJ h)
theorem IdsJ.made (w : World) : IdsJ (w.alloc (.map #[] 0)) w.heap.size [] := World.ownsMap_made w _ _ _
theorem IdsJ.grow {w w' : World} {b : Nat} {l : List (Nat × Nat)} (h : IdsJ w b l) (hb : Below w.heap.size w w') : IdsJ w' b l := by
  have hlt := World.ownsMap.lt h
  obtain ⟨es, clock, hb', F, hs, hD⟩ := h
  exact ⟨es, clock, (hb.block b hlt).trans hb', F, hs, hD⟩
theorem below_grownJ {w w' : World} {b base : Nat} (h : w.grownBy w' (some b)) (hb : base ≤ b) (hs : base ≤ w.heap.size) : Below base w w' := (Below.refl base w).grown h hs (fun k e => by cases e; exact hb)

theorem wp_putJ {w : World} {ops : Array Oper} {rest : List Oper} {o : Oper} {a : Act} {Q : Exit → Act → World → Prop} (hg : o.guard = none) (m x v : Operand) (t : TypeId) (hop : o.op = Op.mapUpdate t m x v) (ht : Try.prog.underlying t = some (.map 3 3))
    (b k u : Nat) (l : List (Nat × Nat)) (hm : a.eval m = .map (some b)) (hown : IdsJ w b l) (hl : l.length ≤ 100000) (hx : a.eval x = .int .i64 ((k : Nat) : Int)) (hv : a.eval v = .int .i64 ((u : Nat) : Int)) (hk : k < 9223372036854775808) (hu : u < 9223372036854775808)
    (base : Nat) (hb : base ≤ b) (h : ∀ w', IdsJ w' b (l ++ [(k, u)]) → Below base w w' → w.heap.size ≤ w'.heap.size → wpList Try.prog ops Q rest (a.put o.dst undef) w') : wpList Try.prog ops Q (o :: rest) a w := by
  refine wpList_mapUpdate_own w hg m x v t hop 3 3 keyedUJ ht (plainElem Try.prog 3) b l.length (mapDJ l) hm hown (by unfold maxLen; omega) _ _ _ hx hv (keyUJ hk) _ [] (plainElem_int Try.underlying3 (wfUJ hu)) ?_
  intro w' h1 h2
  refine h w' ?_ (below_grownJ h2 hb (Nat.le_of_lt (Nat.lt_of_le_of_lt hb (World.ownsMap.lt hown)))) h2.size
  unfold IdsJ
  rw [mapD_snocJ, List.length_append]
  exact h1
theorem wp_atJ {w : World} {ops : Array Oper} {rest : List Oper} {o : Oper} {a : Act} {Q : Exit → Act → World → Prop} (hg : o.guard = none) (m x : Operand) (t : TypeId) (hop : o.op = Op.lookup t m x false) (ht : Try.prog.underlying t = some (.map 3 3))
    (b k : Nat) (l : List (Nat × Nat)) (hm : a.eval m = .map (some b)) (hown : IdsJ w b l) (hx : a.eval x = .int .i64 ((k : Nat) : Int)) (hk : k < 9223372036854775808)
    (h : wpList Try.prog ops Q rest (a.put o.dst (.int .i64 ((atMJ l k : Nat) : Int))) w) : wpList Try.prog ops Q (o :: rest) a w := by
  refine wpList_lookup_own_int w hg m x t hop 3 3 .i64 keyedUJ ht Try.underlying3 (by kernel_rfl) b l.length (mapDJ l) hm hown _ _ hx (keyUJ hk) ?_
  intro c hc _
  rw [mapD_atJ] at hc
  obtain rfl : c = ((atMJ l k : Nat) : Int) := by simp at hc; omega
  exact h
theorem wp_lookJ {w : World} {ops : Array Oper} {rest : List Oper} {o : Oper} {a : Act} {Q : Exit → Act → World → Prop} (hg : o.guard = none) (m x : Operand) (t : TypeId) (hop : o.op = Op.lookup t m x true) (ht : Try.prog.underlying t = some (.map 3 3))
    (b k : Nat) (l : List (Nat × Nat)) (hm : a.eval m = .map (some b)) (hown : IdsJ w b l) (hx : a.eval x = .int .i64 ((k : Nat) : Int)) (hk : k < 9223372036854775808)
    (h : wpList Try.prog ops Q rest (a.put o.dst (.tuple #[.int .i64 ((atMJ l k : Nat) : Int), .bool (hasMJ l k)])) w) : wpList Try.prog ops Q (o :: rest) a w := by
  refine wpList_lookup_own_ok_int w hg m x t hop 3 3 .i64 keyedUJ ht Try.underlying3 (by kernel_rfl) b l.length (mapDJ l) hm hown _ _ hx (keyUJ hk) ?_
  intro c hc _
  rw [mapD_atJ] at hc
  obtain rfl : c = ((atMJ l k : Nat) : Int) := by simp at hc; omega
  rw [mapD_hasJ]
  exact h
theorem wp_mapLenJ {w : World} {ops : Array Oper} {rest : List Oper} {o : Oper} {a : Act} {Q : Exit → Act → World → Prop} (hg : o.guard = none) (m : Operand) (t : TypeId) (hop : o.op = Op.call { callee := Callee.builtin Builtin.len, args := #[m], argTypes := #[t] }) (ht : Try.prog.underlying t = some (.map 3 3))
    (b : Nat) (l : List (Nat × Nat)) (hm : a.eval m = .map (some b)) (hown : IdsJ w b l)
    (h : wpList Try.prog ops Q rest (a.put o.dst (.int .i64 ((size (mapDJ l) : Nat) : Int))) w) : wpList Try.prog ops Q (o :: rest) a w :=
  wpList_len_own w hg m t hop 3 3 ht _ b l.length (mapDJ l) hm hown h
theorem IdsJ.len {w : World} {b : Nat} {l : List (Nat × Nat)} (h : IdsJ w b l) {t : TypeId} (ht : Try.prog.underlying t = some (.map 3 3)) (ty : TypeId) : (Builtin.len_ #[t] ty #[.map (some b)]).run Try.prog w = .ok (.int .i64 ((size (mapDJ l) : Nat) : Int)) w := World.ownsMap.len h ht ty
end Go.Proofs.Ytipohagcppfgiaa
