/- Maps from numbers to ints that a call has made (printed by gen_mapi.py out of XMaps). -/
import Derived.Test.YtipohagcppfgiaaMaps
namespace Go.Proofs.Ytipohagcppfgiaa
open Go.RowKit
open Go.Proofs
open Go.Maps (has size Tidy IsMap)
set_option linter.unusedVariables false

theorem wfI {k : Nat} (h : k < 1000) : (Lit.int .i64 ((k : Nat) : Int)).wf = true := by
  simp [Lit.wf, IntKind.min, IntKind.max, IntKind.signed, IntKind.bits]
  omega
def mapDI (l : List (Nat × Nat)) : DataW Unit := l.foldl (fun D p => D.put (.int .u64 ((p.1 : Nat) : Int)) (.lit (.int .i64 ((p.2 : Nat) : Int)))) (.map [])
theorem mapD_snocI (l : List (Nat × Nat)) (p : Nat × Nat) : mapDI (l ++ [p]) = (mapDI l).put (.int .u64 ((p.1 : Nat) : Int)) (.lit (.int .i64 ((p.2 : Nat) : Int))) := by simp [mapDI, List.foldl_append]
theorem mapD_tidyI (l : List (Nat × Nat)) : Tidy (mapDI l) := by
  refine snocRec (p := fun l => Tidy (mapDI l)) Maps.tidy_empty (fun l p h => ?_) l
  rw [mapD_snocI]; exact h.put (isKey _) _
theorem mapD_hasI (l : List (Nat × Nat)) (k : Nat) : has (mapDI l) (.int .u64 ((k : Nat) : Int)) = hasM l k := by
  refine snocRec (p := fun l => has (mapDI l) (.int .u64 ((k : Nat) : Int)) = hasM l k) rfl (fun l p h => ?_) l
  rw [mapD_snocI]
  by_cases e : p.1 = k
  · rw [← e, Maps.has_put_same (mapD_tidyI l).isMap (isKey _)]
    simp [hasM]
  · rw [Maps.has_put_other (key_ne (Ne.symm e)), h]
    simp [hasM, e]
theorem mapD_atI (l : List (Nat × Nat)) (k : Nat) : (mapDI l).atKey (.int .u64 ((k : Nat) : Int)) (.lit (.int .i64 0)) = .lit (.int .i64 ((atM l k : Nat) : Int)) := by
  refine snocRec (p := fun l => (mapDI l).atKey (.int .u64 ((k : Nat) : Int)) (.lit (.int .i64 0)) = .lit (.int .i64 ((atM l k : Nat) : Int))) rfl (fun l p h => ?_) l
  rw [mapD_snocI, atM_snoc]
  by_cases e : p.1 = k
  · rw [← e, Maps.atKey_put_same (mapD_tidyI l).isMap (isKey _), if_pos rfl]
  · rw [Maps.atKey_put_other (key_ne (Ne.symm e)), h, if_neg e]
def IdsI (w : World) (b : Nat) (l : List (Nat × Nat)) : Prop := World.ownsMap w Try.prog 26 (plainElem Try.prog 3) b l.length (mapDI l)
theorem IdsI.made (w : World) : IdsI (w.alloc (.map #[] 0)) w.heap.size [] := World.ownsMap_made w _ _ _
theorem IdsI.grow {w w' : World} {b : Nat} {l : List (Nat × Nat)} (h : IdsI w b l) (hb : Below w.heap.size w w') : IdsI w' b l := by
  have hlt := World.ownsMap.lt h
  obtain ⟨es, clock, hb', F, hs, hD⟩ := h
  exact ⟨es, clock, (hb.block b hlt).trans hb', F, hs, hD⟩
theorem wp_putI {w : World} {ops : Array Oper} {rest : List Oper} {o : Oper} {a : Act} {Q : Exit → Act → World → Prop} (hg : o.guard = none) (m x v : Operand) (t : TypeId) (hop : o.op = Op.mapUpdate t m x v) (ht : Try.prog.underlying t = some (.map 26 3))
    (b k u : Nat) (l : List (Nat × Nat)) (hm : a.eval m = .map (some b)) (hown : IdsI w b l) (hl : l.length ≤ 1000) (hx : a.eval x = .int .u64 ((k : Nat) : Int)) (hv : a.eval v = .int .i64 ((u : Nat) : Int)) (hk : k < 18446744073709551616) (hu : u < 1000)
    (base : Nat) (hb : base ≤ b) (h : ∀ w', IdsI w' b (l ++ [(k, u)]) → Below base w w' → w.heap.size ≤ w'.heap.size → wpList Try.prog ops Q rest (a.put o.dst undef) w') : wpList Try.prog ops Q (o :: rest) a w := by
  refine wpList_mapUpdate_own w hg m x v t hop 26 3 keyedU ht (plainElem Try.prog 3) b l.length (mapDI l) hm hown (by unfold maxLen; omega) _ _ _ hx hv (keyU hk) _ [] (plainElem_int Try.underlying3 (wfI hu)) ?_
  intro w' h1 h2
  refine h w' ?_ (below_grown h2 hb (Nat.le_of_lt (Nat.lt_of_le_of_lt hb (World.ownsMap.lt hown)))) h2.size
  unfold IdsI
  rw [mapD_snocI, List.length_append]
  exact h1
theorem wp_atI {w : World} {ops : Array Oper} {rest : List Oper} {o : Oper} {a : Act} {Q : Exit → Act → World → Prop} (hg : o.guard = none) (m x : Operand) (t : TypeId) (hop : o.op = Op.lookup t m x false) (ht : Try.prog.underlying t = some (.map 26 3))
    (b k : Nat) (l : List (Nat × Nat)) (hm : a.eval m = .map (some b)) (hown : IdsI w b l) (hx : a.eval x = .int .u64 ((k : Nat) : Int)) (hk : k < 18446744073709551616)
    (h : wpList Try.prog ops Q rest (a.put o.dst (.int .i64 ((atM l k : Nat) : Int))) w) : wpList Try.prog ops Q (o :: rest) a w := by
  refine wpList_lookup_own_int w hg m x t hop 26 3 .i64 keyedU ht Try.underlying3 (by kernel_rfl) b l.length (mapDI l) hm hown _ _ hx (keyU hk) ?_
  intro c hc _
  rw [mapD_atI] at hc
  obtain rfl : c = ((atM l k : Nat) : Int) := by simp at hc; omega
  exact h
end Go.Proofs.Ytipohagcppfgiaa
