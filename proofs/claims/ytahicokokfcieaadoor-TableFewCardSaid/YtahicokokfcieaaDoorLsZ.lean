/- Several texts in one. -/
import Derived.Test.YtahicokokfcieaaDoorTgAr
import Derived.Test.YtahicokokfcieaaDoorTgAe
namespace Go.Proofs.YtahicokokfcieaaDoor
open Go.RowKit
open Go.Proofs
set_option linter.unusedVariables false
attribute [local go_sem] Oper.semAt_some

theorem elemInts : Elem Tryd.prog 23 3 1 8 := Elem.mk' (z := .int .i64 0) Tryd.underlying23 (by kernel_rfl) rfl (by decide) (by decide)
/-- What the document's walk over nodes has made. -/
structure RNs (V : World) (X : Nat) (cs : Array Value) (met : List Nat) (pre : List Nd) (v6 v7 : Value) (W : World) : Prop where
  bx : W.heap[X]? = some (.cells cs 38 (0, 0))
  r6 : W.ownsRow V.heap.size 57 4 v6 pre.length (ndcells pre)
  r7 : W.ownsRow V.heap.size 3 1 v7 met.length (ncells met)
  below : Below V.heap.size V W
structure RNc (V : World) (X : Nat) (cs : Array Value) where
  w : World
  bx : w.heap[X]? = some (.cells cs 38 (0, 0))
  below : Below V.heap.size V w
section
variable {V W W' : World} {X : Nat} {cs : Array Value} {met : List Nat} {pre : List Nd} {v6 v7 v : Value}
theorem RNs.grow (h : RNs V X cs met pre v6 v7 W) (hb : Below W.heap.size W W') : RNs V X cs met pre v6 v7 W' :=
  ⟨keep_laid h.bx hb, own_grow h.r6 hb, own_grow h.r7 hb, h.below.trans (hb.mono h.below.size)⟩
theorem RNs.cls (h : RNs V X cs met pre v6 v7 W) : ∃ z : RNc V X cs, W = z.w := ⟨⟨W, h.bx, h.below⟩, rfl⟩
theorem own_ne {e e' : TypeId} {size base n : Nat} {xs : List Value} {cur : Array Value} (h : W.ownsRow base e size v n xs) (hX : W.heap[X]? = some (.cells cur e' (0, 0))) (hne : e ≠ e') : v.ownBlock ≠ some X := by
  intro hk
  obtain ⟨c, hc⟩ := own_type h X hk
  exact type_ne hc hX hne rfl
theorem own_own {e e' : TypeId} {size size' base base' n n' : Nat} {xs xs' : List Value} {u : Value} (h : W.ownsRow base e size v n xs) (h' : W.ownsRow base' e' size' u n' xs') (hne : e ≠ e') (hg : W.grownBy W' v.ownBlock) : W'.ownsRow base' e' size' u n' xs' := by
  refine own_keep h' fun k o hk ho => keep_grown ho hg fun hv => ?_
  obtain ⟨c, hc⟩ := own_type h k hv
  obtain ⟨c', hc'⟩ := own_type h' k hk
  exact type_ne hc hc' hne rfl
theorem RNs.app7 {q : Nat} {v7' : Value} (h : RNs V X cs met pre v6 v7 W) (ho : W'.ownsRow V.heap.size 3 1 v7' (met.length + 1) (ncells met ++ [.int .i64 ((q : Nat) : Int)])) (hg : W.grownBy W' v7.ownBlock) : RNs V X cs (met ++ [q]) pre v6 v7' W' := by
  refine ⟨keep_grown h.bx hg (own_ne h.r7 h.bx (by decide)), own_own h.r7 h.r6 (by decide) hg, ?_, h.below.trans (own_below h.r7 hg h.below.size)⟩
  rw [List.length_append, ncells_app]
  exact ho
theorem RNs.app6 {t : Nd} {v6' : Value} (h : RNs V X cs met pre v6 v7 W) (ho : W'.ownsRow V.heap.size 57 4 v6' (pre.length + 1) (ndcells pre ++ nd4 t)) (hg : W.grownBy W' v6.ownBlock) : RNs V X cs met (pre ++ [t]) v6' v7 W' := by
  refine ⟨keep_grown h.bx hg (own_ne h.r6 h.bx (by decide)), ?_, own_own h.r6 h.r7 (by decide) hg, h.below.trans (own_below h.r6 hg h.below.size)⟩
  rw [List.length_append, ndcells_snoc]
  exact ho
end
def GivesRN (M : Mem) (head : Nat) (V : World) (e : Ending) (W : World) : Prop := ∃ v b, e = .returned (.tuple #[v, .bool b]) ∧ Below V.heap.size V W ∧ (nodesR M head = none → b = false ∧ v = .slice none 0 0) ∧ (∀ xs, nodesR M head = some xs → b = true ∧ W.ownsRow V.heap.size 57 4 v xs.length (ndcells xs))
def endR : Option (List Nd) → Option (List Nd)
  | none => none
  | some xs => if incr xs = true then some xs else none
theorem nodesR_eq (M : Mem) (head : Nat) : nodesR M head = endR (nodesW M head) := by unfold nodesR endR; rfl
theorem endR_bad {M : Mem} {f place : Nat} {met : List Nat} {out : List Nd} (h : incr out = false) : endR (goW M f place met out) = none := by
  cases hg : goW M f place met out with
  | none => rfl
  | some xs =>
    show (if incr xs = true then some xs else none) = none
    have hp := goW_prefix _ _ _ _ _ hg
    cases hi : incr xs with
    | false => rfl
    | true => rw [incr_prefix hp hi] at h; cases h

end Go.Proofs.YtahicokokfcieaaDoor
namespace Go.Proofs.YtahicokokfcieaaDoor
open Go.RowKit
open Go.Proofs
set_option linter.unusedVariables false
attribute [local go_sem] Oper.semAt_some

theorem four_snoc (p j : Nat) (h : j < 4) : ([posL p 0, posL p 1, posL p 2, posL p 3] : List Nat).take (j + 1) = ([posL p 0, posL p 1, posL p 2, posL p 3] : List Nat).take j ++ [posL p j] := by
  match j, h with
  | 0, _ => rfl
  | 1, _ => rfl
  | 2, _ => rfl
  | 3, _ => rfl
/-- Does a node fit? -/
def fitsP (M : Mem) (head : Nat) (xs : List Nd) (t : Nd) : Bool := decide (t.1 ≠ 0) && (List.range' 0 4).all fun k => liveN M (posL t.1 k) && !decide (posL t.1 k ∈ wordsL head xs)
/-- Between two rounds of the gathering of words. -/
structure Ft (V : World) (X Y : Nat) (csx csy : Array Value) (tk : List Nat) (v9 : Value) (W : World) : Prop where
  bx : W.heap[X]? = some (.cells csx 38 (0, 0))
  by_ : W.heap[Y]? = some (.cells csy 57 (0, 0))
  r9 : W.ownsRow V.heap.size 3 1 v9 tk.length (ncells tk)
  below : Below V.heap.size V W
theorem Ft.grow {V W W' : World} {X Y : Nat} {csx csy : Array Value} {tk : List Nat} {v9 : Value} (h : Ft V X Y csx csy tk v9 W) (hb : Below W.heap.size W W') : Ft V X Y csx csy tk v9 W' :=
  ⟨keep_laid h.bx hb, keep_laid h.by_ hb, own_grow h.r9 hb, h.below.trans (hb.mono h.below.size)⟩
theorem Ft.app {V W W' : World} {X Y q : Nat} {csx csy : Array Value} {tk : List Nat} {v9 v9' : Value} (h : Ft V X Y csx csy tk v9 W) (ho : W'.ownsRow V.heap.size 3 1 v9' (tk.length + 1) (ncells tk ++ [.int .i64 ((q : Nat) : Int)])) (hg : W.grownBy W' v9.ownBlock) : Ft V X Y csx csy (tk ++ [q]) v9' W' := by
  refine ⟨keep_grown h.bx hg (own_ne h.r9 h.bx (by decide)), keep_grown h.by_ hg (own_ne h.r9 h.by_ (by decide)), ?_, h.below.trans (own_below h.r9 hg h.below.size)⟩
  rw [List.length_append, ncells_app]
  exact ho
end Go.Proofs.YtahicokokfcieaaDoor
