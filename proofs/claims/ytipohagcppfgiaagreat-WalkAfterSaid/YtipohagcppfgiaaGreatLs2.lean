/- Lists (printed by gen_ls2.py): the nodes, one behind the other; the iterator. -/
import Derived.Test.YtipohagcppfgiaaGreatLs1
import Derived.Test.YtipohagcppfgiaaGreatRegion5
import Derived.RangeFuncNested
import Derived.RangeFuncCalls
import Derived.TacticsInMore
import Derived.LoopNIn
import Derived.LoopIn
import Derived.OneCell
namespace Go.Proofs.YtipohagcppfgiaaGreat
open Go.RowKit
open Go.Proofs
set_option linter.unusedVariables false
attribute [local go_sem] Oper.semAt_some
/-- A node: where it is, its key, its value, its hash. -/
abbrev Nd := Nat × Nat × Nat × Nat
def nd4 (t : Nd) : List Value := [.int .u64 t.1, .int .u64 t.2.1, .int .u64 t.2.2.1, .int .u64 t.2.2.2]
def ndV (t : Nd) : Value := .agg #[.int .u64 t.1, .int .u64 t.2.1, .int .u64 t.2.2.1, .int .u64 t.2.2.2]
def Nd.Ok (t : Nd) : Prop := t.1 < 18446744073709551616 ∧ t.2.1 < 18446744073709551616 ∧ t.2.2.1 < 18446744073709551616 ∧ t.2.2.2 < 18446744073709551616
def wAt (M : Mem) (p k : Nat) : Nat := M.W.getD (posL p k) 0
theorem wAt_eq {M : Mem} {p k x : Nat} (h : M.W[posL p k]? = some x) : wAt M p k = x := by unfold wAt; rw [List.getD_eq_getElem?_getD, h]; rfl
theorem w_ex {M : Mem} {n p k : Nat} (hn : M.W.length = n) (hm : M.L.length = n) (h : liveN M (posL p k) = true) : M.W[posL p k]? = some (wAt M p k) := by
 have := live_lt h
 rw [hm, ← hn] at this
 rw [wAt_eq (List.getElem?_eq_getElem this)]
 exact List.getElem?_eq_getElem this
theorem wAt_lt {M : Mem} (hW : ∀ x ∈ M.W, x < 18446744073709551616) (p k : Nat) : wAt M p k < 18446744073709551616 := by
 unfold wAt
 rw [List.getD_eq_getElem?_getD]
 cases h : M.W[posL p k]? with
 | none => simp
 | some x => exact hW x (List.mem_of_getElem? h)
def ndAt (M : Mem) (p : Nat) : Nd := (p, wAt M p 0, wAt M p 1, wAt M p 3)
def goW (M : Mem) : Nat → Nat → List Nat → List Nd → Option (List Nd)
 | 0, _, _, _ => none
 | f + 1, place, met, out => if place = 0 then some out else
  match takeP M place (List.range 4) met with
  | none => none
  | some met' => goW M f (wAt M place 2) met' (out ++ [ndAt M place])
/-- The nodes that the words lead to, whatever their order. -/
def nodesW (M : Mem) (head : Nat) : Option (List Nd) :=
 match takeP M head [0] [] with
 | none => none
 | some m0 => goW M 4101 (wAt M head 0) m0 []
theorem nodesW_none {M : Mem} {head : Nat} (h : takeP M head [0] [] = none) : nodesW M head = none := by unfold nodesW; rw [h]
theorem nodesW_some {M : Mem} {head : Nat} {m0 : List Nat} (h : takeP M head [0] [] = some m0) : nodesW M head = goW M 4101 (wAt M head 0) m0 [] := by unfold nodesW; rw [h]
theorem goW_zero {M : Mem} {f : Nat} {met : List Nat} {out : List Nd} : goW M (f + 1) 0 met out = some out := by unfold goW; rw [if_pos rfl]
theorem goW_none {M : Mem} {f place : Nat} {met : List Nat} {out : List Nd} (hp : place ≠ 0) (h : takeP M place (List.range 4) met = none) : goW M (f + 1) place met out = none := by unfold goW; rw [if_neg hp, h]
theorem goW_some {M : Mem} {f place : Nat} {met met' : List Nat} {out : List Nd} (hp : place ≠ 0) (h : takeP M place (List.range 4) met = some met') : goW M (f + 1) place met out = goW M f (wAt M place 2) met' (out ++ [ndAt M place]) := by
 conv => lhs; unfold goW
 rw [if_neg hp, h]
theorem goW_prefix {M : Mem} : ∀ (f place : Nat) (met : List Nat) (out xs : List Nd), goW M f place met out = some xs → out <+: xs
 | 0, place, met, out, xs, h => by unfold goW at h; cases h
 | f + 1, place, met, out, xs, h => by
  by_cases h0 : place = 0
  ·subst h0; rw [goW_zero] at h; cases h; exact List.prefix_rfl
  ·cases ht : takeP M place (List.range 4) met with
   | none => rw [goW_none h0 ht] at h; cases h
   | some m2 =>
    rw [goW_some h0 ht] at h
    exact (List.prefix_append out [ndAt M place]).trans (goW_prefix f _ _ _ _ h)
theorem Turn.grown2 {Bs mb s0 : Nat} {A B : World} (h : A.grownBy B (some mb)) (hs : s0 ≤ mb) (hm : ∃ o, A.heap[mb]? = some o ∧ o.isCells = false) : Turn Bs s0 A B := ⟨some mb, h, fun r e => by cases e; exact .inr ⟨hs, hm⟩⟩
theorem ids_map {V : World} {mb : Nat} {l : List (Nat × Nat)} (h : IdsJ V mb l) : ∃ o, V.heap[mb]? = some o ∧ o.isCells = false := by
 obtain ⟨es, clock, hb, -⟩ := h
 exact ⟨_, hb, rfl⟩
/-- The iterator's variables, and its memory. -/
structure Itr (X H : Nat) (wa : Option Addr) (wc : Nat) (la : Option Addr) (lc n head : Nat) (M : Mem) (V : World) : Prop where
 x : V.heap[X]? = some (.cells #[.slice wa n wc, .slice la n lc, .bool M.F] 25 (0, 0))
 h : V.heap[H]? = some (.cells #[.int .u64 head] 26 (0, 0))
 mem : MemL V wa wc la lc M
theorem Itr.grow {X H : Nat} {wa : Option Addr} {wc : Nat} {la : Option Addr} {lc n head : Nat} {M : Mem} {V V' : World} (h : Itr X H wa wc la lc n head M V) (hb : Below V.heap.size V V') : Itr X H wa wc la lc n head M V' := ⟨klD h.x hb, klD h.h hb, h.mem.grow hb⟩
theorem ids_ne {V : World} {mb X : Nat} {l : List (Nat × Nat)} {cs : Array Value} {e : TypeId} (h : IdsJ V mb l) (hx : V.heap[X]? = some (.cells cs e (0, 0))) : some mb ≠ some X := by
 intro e'
 cases e'
 obtain ⟨es, clock, hb, -⟩ := h
 rw [hb] at hx
 cases hx
theorem Itr.put {X H : Nat} {wa : Option Addr} {wc : Nat} {la : Option Addr} {lc n head mb : Nat} {l : List (Nat × Nat)} {M : Mem} {V V' : World} (h : Itr X H wa wc la lc n head M V) (hi : IdsJ V mb l) (hg : V.grownBy V' (some mb)) : Itr X H wa wc la lc n head M V' :=
 ⟨kgr h.x hg (ids_ne hi h.x), kgr h.h hg (ids_ne hi h.h), ⟨h.mem.w.grownM hi hg, h.mem.l.grownM hi hg⟩⟩
theorem Itr.keeps {X H : Nat} {wa : Option Addr} {wc : Nat} {la : Option Addr} {lc n head : Nat} {M : Mem} {V V' : World} {kept : Nat → Prop} (h : Itr X H wa wc la lc n head M V) (hk : Keeps kept V V') (h1 : kept X) (h2 : kept H) (h3 : ∀ b off, wa = some ⟨b, off, none⟩ → kept b) (h4 : ∀ b off, la = some ⟨b, off, none⟩ → kept b) : Itr X H wa wc la lc n head M V' := by
 have hlead : ∀ {a : Option Addr} {n cap : Nat} {cs : List Value}, Leads V a n cap cs → (∀ b off, a = some ⟨b, off, none⟩ → kept b) → Leads V' a n cap cs := by
  rintro a n cap cs ⟨q1, q2, ⟨q3, q4⟩ | ⟨b, off, q3, q4, q5⟩⟩ hka
  ·exact ⟨q1, q2, .inl ⟨q3, q4⟩⟩
  ·have hb := hk b (hka b off q3)
   refine ⟨q1, q2, .inr ⟨b, off, q3, ?_, fun i v hv => ?_⟩⟩
   ·have : V'.heap[b]? = some V.heap[b] := by rw [hb]; exact Array.getElem?_eq_getElem q4
    exact llD this
   ·have := q5 i v hv
    unfold World.cell? at this ⊢
    rw [hb]
    exact this
 exact ⟨(hk _ h1).trans h.x, (hk _ h2).trans h.h, ⟨hlead h.mem.w h3, hlead h.mem.l h4⟩⟩
end Go.Proofs.YtipohagcppfgiaaGreat
