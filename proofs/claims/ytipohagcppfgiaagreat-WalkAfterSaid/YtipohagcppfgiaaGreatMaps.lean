/- Maps of numbers that a call has made: which pairs they hold. -/
import Derived.Test.YtipohagcppfgiaaGreatProg
import Derived.Test.YtipohagcppfgiaaGreatKit
import Derived.Maps.OwnOps
import Derived.Maps.OwnSet
namespace Go.Proofs.YtipohagcppfgiaaGreat
open Go.RowKit
open Go.Proofs
open Go.Maps (has size Tidy IsMap)
set_option linter.unusedVariables false
theorem wfU {k : Nat} (h : k < 18446744073709551616) : (Lit.int .u64 k).wf = true := by
 simp [Lit.wf, IntKind.min, IntKind.max, IntKind.signed, IntKind.bits]
 omega
/-- The datum of a map to which these pairs were written, one behind the other. -/
def mapD (l : List (Nat × Nat)) : DataW Unit := l.foldl (fun D p => D.put (.int .u64 ((p.1 : Nat) : Int)) (.lit (.int .u64 ((p.2 : Nat) : Int)))) (.map [])
theorem isKey (k : Nat) : WideAt.IsKeyLit (.int .u64 k) := trivial
theorem key_ne {a b : Nat} (h : a ≠ b) : (Lit.int .u64 a) ≠ (Lit.int .u64 b) := by
 intro e
 simp only [Lit.int.injEq, true_and] at e
 omega
/-- What is read at a key: what was written there last; 0: nothing was. -/
def atM (l : List (Nat × Nat)) (k : Nat) : Nat := l.foldl (fun a p => if p.1 = k then p.2 else a) 0
theorem atM_snoc (l : List (Nat × Nat)) (p : Nat × Nat) (k : Nat) : atM (l ++ [p]) k = if p.1 = k then p.2 else atM l k := by simp [atM, List.foldl_append]
/-- A block is a map to which these pairs were written. -/
def Ids (w : World) (b : Nat) (l : List (Nat × Nat)) : Prop := World.ownsMap w Tryz.prog 26 (plainElem Tryz.prog 26) b l.length (mapD l)
theorem keyedU : Maps.Keyed Tryz.prog 26 := Maps.int_keyed Tryz.underlying26
theorem keyU {k : Nat} (h : k < 18446744073709551616) : keyOf Tryz.prog 26 (.int .u64 k) = some (.int .u64 k) := Maps.keyOf_int_mk Tryz.underlying26 (wfU h)
theorem Ids.made (w : World) : Ids (w.alloc (.map #[] 0)) w.heap.size [] := World.ownsMap_made w _ _ _
theorem Ids.grow {w w' : World} {b : Nat} {l : List (Nat × Nat)} (h : Ids w b l) (hb : Below w.heap.size w w') : Ids w' b l := by
 have hlt := World.ownsMap.lt h
 obtain ⟨es, clock, hb', F, hs, hD⟩ := h
 exact ⟨es, clock, (hb.block b hlt).trans hb', F, hs, hD⟩
theorem below_grown {w w' : World} {b base : Nat} (h : w.grownBy w' (some b)) (hb : base ≤ b) (hs : base ≤ w.heap.size) : Below base w w' := (Below.refl base w).grown h hs (fun k e => by cases e; exact hb)
theorem Ids.len {w : World} {b : Nat} {l : List (Nat × Nat)} (h : Ids w b l) {t : TypeId} (ht : Tryz.prog.underlying t = some (.map 26 26)) (ty : TypeId) : (Builtin.len_ #[t] ty #[.map (some b)]).run Tryz.prog w = .ok (.int .i64 ((size (mapD l) : Nat) : Int)) w := World.ownsMap.len h ht ty
end Go.Proofs.YtipohagcppfgiaaGreat
