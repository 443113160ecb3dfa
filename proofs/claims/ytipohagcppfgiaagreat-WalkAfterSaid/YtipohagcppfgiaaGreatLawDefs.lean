/- Words for arguments of the laws. -/
import Derived.Test.YtipohagcppfgiaaGreatKit
namespace Go.Proofs.YtipohagcppfgiaaGreat
open Go.RowKit
def wcells (xs : List Nat) : List Value := xs.map fun (x : Nat) => .int .u64 (x : Int)
def wok (xs : List Nat) : Prop := ∀ x ∈ xs, x < 18446744073709551616
def icells (xs : List Int) : List Value := xs.map fun (x : Int) => .int .i64 x
def iok (xs : List Int) : Prop := ∀ x ∈ xs, -9223372036854775808 ≤ x ∧ x ≤ 9223372036854775807
/-- What a walk over a row of words is told: the k-th one, and its cell. -/
theorem Leads.word {w : World} {a : Option Addr} {n cap k : Nat} {xs : List Nat} (h : Leads w a n cap (wcells xs)) (e : xs.length = n) (hx : wok xs) (hk : k < n) :
  ∃ b off x, a = some ⟨b, off, none⟩ ∧ x < 18446744073709551616 ∧ xs[k]? = some x ∧ ∀ w', Below w.heap.size w w' → w'.cell? ⟨b, off + k, none⟩ = some (.int .u64 (x : Int)) := by
 obtain ⟨_, _, ⟨h, _⟩ | ⟨b, off, rfl, h3, h4⟩⟩ := h
 ·omega
 ·have hs := List.getElem?_eq_getElem (l := xs) (i := k) (by omega)
  exact ⟨b, off, _, rfl, hx _ (List.mem_of_getElem? hs), hs, fun w' hb => (hb.cell (p := ⟨b, off + k, none⟩) h3).trans (h4 k _ (by unfold wcells; rw [List.getElem?_map, hs]; rfl))⟩
theorem Leads.number {w : World} {a : Option Addr} {n cap k : Nat} {xs : List Int} (h : Leads w a n cap (icells xs)) (e : xs.length = n) (hx : iok xs) (hk : k < n) :
  ∃ b off x, a = some ⟨b, off, none⟩ ∧ (-9223372036854775808 ≤ x ∧ x ≤ 9223372036854775807) ∧ xs[k]? = some x ∧ ∀ w', Below w.heap.size w w' → w'.cell? ⟨b, off + k, none⟩ = some (.int .i64 x) := by
 obtain ⟨_, _, ⟨h, _⟩ | ⟨b, off, rfl, h3, h4⟩⟩ := h
 ·omega
 ·have hs := List.getElem?_eq_getElem (l := xs) (i := k) (by omega)
  exact ⟨b, off, _, rfl, hx _ (List.mem_of_getElem? hs), hs, fun w' hb => (hb.cell (p := ⟨b, off + k, none⟩) h3).trans (h4 k _ (by unfold icells; rw [List.getElem?_map, hs]; rfl))⟩
end Go.Proofs.YtipohagcppfgiaaGreat
