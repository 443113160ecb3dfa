/- Maps from numbers to ints that a call has made (printed by gen_mapi.py out of XMaps). -/
import Derived.Test.YtipohagcppfgiaaGreatMaps
namespace Go.Proofs.YtipohagcppfgiaaGreat
open Go.RowKit
open Go.Proofs
open Go.Maps (has size Tidy IsMap)
set_option linter.unusedVariables false
theorem wfI {k : Nat} (h : k < 1000) : (Lit.int .i64 k).wf = true := by
 simp [Lit.wf, IntKind.min, IntKind.max, IntKind.signed, IntKind.bits]
 omega
def mapDI (l : List (Nat × Nat)) : DataW Unit := l.foldl (fun D p => D.put (.int .u64 ((p.1 : Nat) : Int)) (.lit (.int .i64 ((p.2 : Nat) : Int)))) (.map [])
theorem mapD_snocI (l : List (Nat × Nat)) (p : Nat × Nat) : mapDI (l ++ [p]) = (mapDI l).put (.int .u64 p.1) (.lit (.int .i64 p.2)) := by simp [mapDI, List.foldl_append]
theorem mapD_tidyI (l : List (Nat × Nat)) : Tidy (mapDI l) := by
 refine snocRec (p := fun l => Tidy (mapDI l)) Maps.tidy_empty (fun l p h => ?_) l
 rw [mapD_snocI]; exact h.put (isKey _) _
theorem mapD_atI (l : List (Nat × Nat)) (k : Nat) : (mapDI l).atKey (.int .u64 k) (.lit (.int .i64 0)) = .lit (.int .i64 ((atM l k : Nat) : Int)) := by
 refine snocRec (p := fun l => (mapDI l).atKey (.int .u64 k) (.lit (.int .i64 0)) = .lit (.int .i64 ((atM l k : Nat) : Int))) rfl (fun l p h => ?_) l
 rw [mapD_snocI, atM_snoc]
 by_cases e : p.1 = k
 ·rw [← e, Maps.atKey_put_same (mapD_tidyI l).isMap (isKey _), if_pos rfl]
 ·rw [Maps.atKey_put_other (key_ne (Ne.symm e)), h, if_neg e]
def IdsI (w : World) (b : Nat) (l : List (Nat × Nat)) : Prop := World.ownsMap w Tryz.prog 26 (plainElem Tryz.prog 3) b l.length (mapDI l)
theorem IdsI.made (w : World) : IdsI (w.alloc (.map #[] 0)) w.heap.size [] := World.ownsMap_made w _ _ _
theorem IdsI.grow {w w' : World} {b : Nat} {l : List (Nat × Nat)} (h : IdsI w b l) (hb : Below w.heap.size w w') : IdsI w' b l := by
 have hlt := World.ownsMap.lt h
 obtain ⟨es, clock, hb', F, hs, hD⟩ := h
 exact ⟨es, clock, (hb.block b hlt).trans hb', F, hs, hD⟩
end Go.Proofs.YtipohagcppfgiaaGreat
