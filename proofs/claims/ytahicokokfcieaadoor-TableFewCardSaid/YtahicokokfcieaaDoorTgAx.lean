/- What the walks are told of arguments that came in. -/
import Derived.Test.YtahicokokfcieaaDoorRows
import Derived.Test.YtahicokokfcieaaDoorTgAa
import Derived.ProofKit
import Derived.OpenShut
import Derived.ShutString
import Derived.ChangeOld
import Derived.Deep.Slices
import Derived.Deep.SlicePairs
namespace Go.Proofs.YtahicokokfcieaaDoor
open Go.ChangeShapes Go.WideShapes Go.ChangeAt Go.RowKit
open Go.ChangeMaps (open_string shut_string)
set_option linter.unusedVariables false

theorem nat_of_wf {z : Int} (h : (Lit.int .u64 z).wf = true) : ∃ y : Nat, z = (y : Int) ∧ y < 18446744073709551616 := by
  simp [Lit.wf, IntKind.min, IntKind.max, IntKind.signed, IntKind.bits] at h
  exact ⟨z.toNat, by omega, by omega⟩
theorem int_of_wf {z : Int} (h : (Lit.int .i64 z).wf = true) : -9223372036854775808 ≤ z ∧ z ≤ 9223372036854775807 := by
  simp [Lit.wf, IntKind.min, IntKind.max, IntKind.signed, IntKind.bits] at h
  omega

section
variable {H : Type} {enc : TypeId × Value → H} {P : Program} {w : World} {base : Nat} {held : Bool}

theorem leads_of {a : Addr} {len cap : Nat} (cs : List Value) (h1 : len ≤ cap) (h2 : cap ≤ maxLen) (hl : cs.length = 0 → len = 0) (hc : ∀ i v, cs[i]? = some v → w.cell? (a.add i) = some v) : Leads w (some a) len cap cs := by
  refine ⟨h1, h2, ?_⟩
  cases cs with
  | nil => exact .inl ⟨hl rfl, rfl⟩
  | cons v r =>
    have h0 := hc 0 v rfl
    obtain ⟨b, off, spot⟩ := a
    have hs : spot = none := by
      cases spot with
      | none => rfl
      | some s =>
        have : (⟨b, off, some s⟩ : Addr).add 0 = ⟨b, off, some s⟩ := by simp [Addr.add]
        rw [this] at h0
        unfold World.cell? at h0
        cases hh : w.heap[b]? with
        | none => rw [hh] at h0; cases h0
        | some o => rw [hh] at h0; cases o <;> simp at h0
    subst hs
    refine .inr ⟨b, off, rfl, block_lt_of_cell h0, fun i u hu => ?_⟩
    have := hc i u hu
    rcases i with _ | i
    · simpa [Addr.add] using this
    · simpa [Addr.add] using this

theorem open_words {t e : TypeId} {fuel : Nat} {a : Option Addr} {len cap : Nat} {x : DataW H × List MemPlace} (ht : P.underlying t = some (.slice e)) (he : P.underlying e = some (.int .u64)) (hc : P.cellsOf e = 1)
    (h : DataW.trod enc P w base (fun _ => true) held fuel t (Value.slice a len cap).cells.toList = some x) : ∃ xs : List Nat, xs.length = len ∧ Leads w a len cap (wcells xs) ∧ wok xs := by
  rcases open_ints ht he hc h with ⟨hcs, _⟩ | ⟨ad, l, c, zs, hcs, _, hl, hm, hz, _, hcell, hwz⟩
  · simp [Value.cells] at hcs
    obtain ⟨rfl, rfl, rfl⟩ := hcs
    exact ⟨[], rfl, ⟨Nat.le_refl _, Nat.zero_le _, .inl ⟨rfl, rfl⟩⟩, fun x hx => by cases hx⟩
  · simp [Value.cells] at hcs
    obtain ⟨rfl, rfl, rfl⟩ := hcs
    simp at hz
    have hw : ∀ n ∈ zs, 0 ≤ n ∧ n < 18446744073709551616 := by
      intro n hn
      have := hwz n hn
      simp [Lit.wf, IntKind.min, IntKind.max, IntKind.signed, IntKind.bits] at this
      omega
    refine ⟨(zs.take len).map Int.toNat, by simp; omega, leads_of _ hl hm (by simp [wcells]; intro h; rcases h with h | h; exact h; subst h; simp at hz; omega) (fun i v hv => ?_), ?_⟩
    · unfold wcells at hv
      simp only [List.getElem?_map, Option.map_map] at hv
      rw [List.getElem?_take] at hv
      split at hv
      · rename_i hi
        have hi2 : i < zs.length := by omega
        rw [List.getElem?_eq_getElem hi2] at hv
        simp at hv
        rw [hcell i hi2, ← hv, List.getD_eq_getElem?_getD, List.getElem?_eq_getElem hi2]
        have := hw _ (List.getElem_mem hi2)
        simp
        omega
      · simp at hv
    · intro n hn
      obtain ⟨z, hz', rfl⟩ := List.mem_map.1 hn
      have := hw z (List.mem_of_mem_take hz')
      omega

theorem open_i64s {t e : TypeId} {fuel : Nat} {a : Option Addr} {len cap : Nat} {x : DataW H × List MemPlace} (ht : P.underlying t = some (.slice e)) (he : P.underlying e = some (.int .i64)) (hc : P.cellsOf e = 1)
    (h : DataW.trod enc P w base (fun _ => true) held fuel t (Value.slice a len cap).cells.toList = some x) : ∃ xs : List Int, xs.length = len ∧ Leads w a len cap (icells xs) ∧ iok xs := by
  rcases open_ints ht he hc h with ⟨hcs, _⟩ | ⟨ad, l, c, zs, hcs, _, hl, hm, hz, _, hcell, hwz⟩
  · simp [Value.cells] at hcs
    obtain ⟨rfl, rfl, rfl⟩ := hcs
    exact ⟨[], rfl, ⟨Nat.le_refl _, Nat.zero_le _, .inl ⟨rfl, rfl⟩⟩, fun x hx => by cases hx⟩
  · simp [Value.cells] at hcs
    obtain ⟨rfl, rfl, rfl⟩ := hcs
    simp at hz
    refine ⟨zs.take len, by simp; omega, leads_of _ hl hm (by simp [icells]; intro h; rcases h with h | h; exact h; subst h; simp at hz; omega) (fun i v hv => ?_), ?_⟩
    · unfold icells at hv
      simp only [List.getElem?_map] at hv
      rw [List.getElem?_take] at hv
      split at hv
      · rename_i hi
        have hi2 : i < zs.length := by omega
        rw [List.getElem?_eq_getElem hi2] at hv
        simp at hv
        rw [hcell i hi2, ← hv, List.getD_eq_getElem?_getD, List.getElem?_eq_getElem hi2]; rfl
      · simp at hv
    · intro n hn
      have := hwz n (List.mem_of_mem_take hn)
      simp [Lit.wf, IntKind.min, IntKind.max, IntKind.signed, IntKind.bits] at this
      omega

theorem open_texts {t e : TypeId} {fuel : Nat} {a : Option Addr} {len cap : Nat} {x : DataW H × List MemPlace} (ht : P.underlying t = some (.slice e)) (he : P.underlying e = some .string) (hc : P.cellsOf e = 1)
    (h : DataW.trod enc P w base (fun _ => true) held fuel t (Value.slice a len cap).cells.toList = some x) : ∃ ss : List ByteArray, ss.length = len ∧ Leads w a len cap (ss.map Value.string) ∧ ∀ s ∈ ss, s.size ≤ maxLen := by
  rcases open_strings ht he hc h with ⟨hcs, _⟩ | ⟨ad, l, c, ss, hcs, _, hl, hm, hz, _, hcell, hwz⟩
  · simp [Value.cells] at hcs
    obtain ⟨rfl, rfl, rfl⟩ := hcs
    exact ⟨[], rfl, ⟨Nat.le_refl _, Nat.zero_le _, .inl ⟨rfl, rfl⟩⟩, fun x hx => by cases hx⟩
  · simp [Value.cells] at hcs
    obtain ⟨rfl, rfl, rfl⟩ := hcs
    simp at hz
    refine ⟨ss.take len, by simp; omega, leads_of _ hl hm (by simp; intro h; rcases h with h | h; exact h; subst h; simp at hz; omega) (fun i v hv => ?_), fun s hs => hwz s (List.mem_of_mem_take hs)⟩
    simp only [List.getElem?_map] at hv
    rw [List.getElem?_take] at hv
    split at hv
    · rename_i hi
      have hi2 : i < ss.length := by omega
      rw [List.getElem?_eq_getElem hi2] at hv
      simp at hv
      rw [hcell i hi2, ← hv, List.getD_eq_getElem?_getD, List.getElem?_eq_getElem hi2]; rfl
    · simp at hv

def intOf : Value → Int
  | .int _ n => n
  | _ => 0
theorem open_fields {t e : TypeId} {f0 f1 : Field} {fuel : Nat} {a : Option Addr} {len cap : Nat} {x : DataW H × List MemPlace} (ht : P.underlying t = some (.slice e)) (he : P.underlying e = some (.struct #[f0, f1]))
    (ce : P.cellsOf e = 2) (o0 : f0.offset = 0) (o1 : f1.offset = 1) (c0 : P.cellsOf f0.type = 1) (c1 : P.cellsOf f1.type = 1) (k0 : P.underlying f0.type = some (.int .i64)) (k1 : P.underlying f1.type = some (.int .i64))
    (h : DataW.trod enc P w base (fun _ => true) held fuel t (Value.slice a len cap).cells.toList = some x) : ∃ fs : List (Int × Int), fs.length = len ∧ Leads w a len cap (pcells fs) ∧ pok fs := by
  rcases Go.Deep.open_slice_pairs ht he ce o0 o1 c0 c1 h with ⟨hcs, _⟩ | ⟨ad, l, c, m, n, V0, V1, D0, D1, P0, P1, hcs, _, hl, hm, hmm, _, hV⟩
  · simp [Value.cells] at hcs
    obtain ⟨rfl, rfl, rfl⟩ := hcs
    exact ⟨[], rfl, ⟨Nat.le_refl _, Nat.zero_le _, .inl ⟨rfl, rfl⟩⟩, fun x hx => by cases hx⟩
  · simp [Value.cells] at hcs
    obtain ⟨rfl, rfl, rfl⟩ := hcs
    have hmc : m = cap := by rw [hmm]; rfl
    have each : ∀ i, i < len → w.cell? (ad.add (i * 2)) = some (.int .i64 (intOf (V0 i))) ∧ w.cell? (ad.add (i * 2 + 1)) = some (.int .i64 (intOf (V1 i))) ∧
        (-9223372036854775808 ≤ intOf (V0 i) ∧ intOf (V0 i) ≤ 9223372036854775807) ∧ (-9223372036854775808 ≤ intOf (V1 i) ∧ intOf (V1 i) ≤ 9223372036854775807) := by
      intro i hi
      obtain ⟨h1, h2, h3, h4⟩ := hV i (by omega)
      obtain ⟨n0, e0, _, w0⟩ := DataW.trod_int k0 h3
      obtain ⟨n1, e1, _, w1⟩ := DataW.trod_int k1 h4
      simp at e0 e1
      rw [e0] at h1 ⊢
      rw [e1] at h2 ⊢
      exact ⟨h1, h2, int_of_wf w0, int_of_wf w1⟩
    refine ⟨(List.range len).map fun i => (intOf (V0 i), intOf (V1 i)), by simp, leads_of _ hl hm ?_ ?_, ?_⟩
    · intro h0
      unfold pcells at h0
      cases len with
      | zero => rfl
      | succ k => simp [List.range_succ] at h0
    · intro i v hv
      have hlt := (List.getElem?_eq_some_iff.1 hv).1
      have hlen : ∀ fs : List (Int × Int), (pcells fs).length = fs.length * 2 := by
        intro fs
        unfold pcells
        induction fs with
        | nil => rfl
        | cons f r ih => rw [List.flatMap_cons, List.length_append, ih]; simp; omega
      rw [hlen] at hlt
      simp at hlt
      have hk : i / 2 < len := by omega
      have hx : ((List.range len).map fun i => (intOf (V0 i), intOf (V1 i)))[i / 2]? = some (intOf (V0 (i / 2)), intOf (V1 (i / 2))) := by simp [hk]
      obtain ⟨h1, h2, _, _⟩ := each (i / 2) hk
      rcases Nat.mod_two_eq_zero_or_one i with hm2 | hm2
      · have e := flat_at (fun f : Int × Int => [Value.int .i64 f.1, .int .i64 f.2]) 2 (fun _ => rfl) _ (i / 2) 0 _ hx (by omega)
        have ei : i / 2 * 2 + 0 = i := by omega
        unfold pcells at hv
        rw [ei, hv] at e
        simp at e
        rw [e, show i = i / 2 * 2 by omega]
        rw [show i / 2 * 2 / 2 = i / 2 by omega]
        exact h1
      · have e := flat_at (fun f : Int × Int => [Value.int .i64 f.1, .int .i64 f.2]) 2 (fun _ => rfl) _ (i / 2) 1 _ hx (by omega)
        have ei : i / 2 * 2 + 1 = i := by omega
        unfold pcells at hv
        rw [ei, hv] at e
        simp at e
        rw [e]
        have h2' := h2
        rw [ei] at h2'
        exact h2'
    · intro f hf
      rw [List.mem_map] at hf
      obtain ⟨i, hi, rfl⟩ := hf
      obtain ⟨_, _, ⟨h3, h4⟩, h5, h6⟩ := each i (List.mem_range.1 hi)
      exact ⟨h3, h4, h5, h6⟩
end
end Go.Proofs.YtahicokokfcieaaDoor
