/- Maps of numbers that a call has made: which pairs they hold. -/
import Derived.Test.YtipohagcppfgiaaGreatProg
import Derived.Test.YtipohagcppfgiaaGreatKit
import Derived.Maps.OwnOps
import Derived.Maps.OwnSet
namespace Go.Proofs.YtipohagcppfgiaaGreat
open Go.RowKit
open Go.Proofs
open Go.Maps (has size Tidy IsMap)
set_option linter.unusedVariables false
theorem wfUJ {k : Nat} (h : k < 9223372036854775808) : (Lit.int .i64 k).wf = true := by
 simp [Lit.wf, IntKind.min, IntKind.max, IntKind.signed, IntKind.bits]
 omega
/-- The datum of a map to which these pairs were written, one behind the other. -/
def mapDJ (l : List (Nat × Nat)) : DataW Unit := l.foldl (fun D p => D.put (.int .i64 ((p.1 : Nat) : Int)) (.lit (.int .i64 ((p.2 : Nat) : Int)))) (.map [])
theorem mapD_snocJ (l : List (Nat × Nat)) (p : Nat × Nat) : mapDJ (l ++ [p]) = (mapDJ l).put (.int .i64 p.1) (.lit (.int .i64 p.2)) := by simp [mapDJ, List.foldl_append]
theorem isKeyJ (k : Nat) : WideAt.IsKeyLit (.int .i64 k) := trivial
theorem mapD_tidyJ (l : List (Nat × Nat)) : Tidy (mapDJ l) := by
 refine snocRec (p := fun l => Tidy (mapDJ l)) Maps.tidy_empty (fun l p h => ?_) l
 rw [mapD_snocJ]; exact h.put (isKeyJ _) _
theorem key_neJ {a b : Nat} (h : a ≠ b) : (Lit.int .i64 a) ≠ (Lit.int .i64 b) := by
 intro e
 simp only [Lit.int.injEq, true_and] at e
 omega
/-- What is read at a key: what was written there last; 0: nothing was. -/
def atMJ (l : List (Nat × Nat)) (k : Nat) : Nat := l.foldl (fun a p => if p.1 = k then p.2 else a) 0
theorem atM_snocJ (l : List (Nat × Nat)) (p : Nat × Nat) (k : Nat) : atMJ (l ++ [p]) k = if p.1 = k then p.2 else atMJ l k := by simp [atMJ, List.foldl_append]
theorem mapD_atJ (l : List (Nat × Nat)) (k : Nat) : (mapDJ l).atKey (.int .i64 k) (.lit (.int .i64 0)) = .lit (.int .i64 ((atMJ l k : Nat) : Int)) := by
 refine snocRec (p := fun l => (mapDJ l).atKey (.int .i64 k) (.lit (.int .i64 0)) = .lit (.int .i64 ((atMJ l k : Nat) : Int))) rfl (fun l p h => ?_) l
 rw [mapD_snocJ, atM_snocJ]
 by_cases e : p.1 = k
 ·rw [← e, Maps.atKey_put_same (mapD_tidyJ l).isMap (isKeyJ _), if_pos rfl]
 ·rw [Maps.atKey_put_other (key_neJ (Ne.symm e)), h, if_neg e]
/-- A block is a map to which these pairs were written. -/
def IdsJ (w : World) (b : Nat) (l : List (Nat × Nat)) : Prop := World.ownsMap w Tryz.prog 3 (plainElem Tryz.prog 3) b l.length (mapDJ l)
theorem keyedUJ : Maps.Keyed Tryz.prog 3 := Maps.int_keyed Tryz.underlying3
theorem keyUJ {k : Nat} (h : k < 9223372036854775808) : keyOf Tryz.prog 3 (.int .i64 k) = some (.int .i64 k) := Maps.keyOf_int_mk Tryz.underlying3 (wfUJ h)
theorem IdsJ.made (w : World) : IdsJ (w.alloc (.map #[] 0)) w.heap.size [] := World.ownsMap_made w _ _ _
theorem IdsJ.grow {w w' : World} {b : Nat} {l : List (Nat × Nat)} (h : IdsJ w b l) (hb : Below w.heap.size w w') : IdsJ w' b l := by
 have hlt := World.ownsMap.lt h
 obtain ⟨es, clock, hb', F, hs, hD⟩ := h
 exact ⟨es, clock, (hb.block b hlt).trans hb', F, hs, hD⟩
theorem IdsJ.len {w : World} {b : Nat} {l : List (Nat × Nat)} (h : IdsJ w b l) {t : TypeId} (ht : Tryz.prog.underlying t = some (.map 3 3)) (ty : TypeId) : (Builtin.len_ #[t] ty #[.map (some b)]).run Tryz.prog w = .ok (.int .i64 ((size (mapDJ l) : Nat) : Int)) w := World.ownsMap.len h ht ty
end Go.Proofs.YtipohagcppfgiaaGreat
