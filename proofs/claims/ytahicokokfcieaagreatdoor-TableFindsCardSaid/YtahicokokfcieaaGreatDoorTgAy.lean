/- Several texts in one. -/
import Derived.Test.YtahicokokfcieaaGreatDoorRows
import Derived.Test.YtahicokokfcieaaGreatDoorTgAa
import Derived.ProofKit
import Derived.OpenShut
import Derived.ShutString
import Derived.ChangeOld
import Derived.Deep.Slices
import Derived.Deep.SlicePairs
import Derived.Lib.SmallJoins
import Derived.DataElems
import Derived.Test.YtahicokokfcieaaGreatDoorTgAq
namespace Go.Proofs.YtahicokokfcieaaGreatDoor
open Go.ChangeShapes Go.WideShapes Go.ChangeAt Go.RowKit
open Go.ChangeMaps (open_string shut_string)
set_option linter.unusedVariables false
theorem nat_of_wf {z : Int} (h : (Lit.int .u64 z).wf = true) : ∃ y : Nat, z = (y : Int) ∧ y < 18446744073709551616 := by
  simp [Lit.wf, IntKind.min, IntKind.max, IntKind.signed, IntKind.bits] at h
  exact ⟨z.toNat, by omega, by omega⟩
section
variable {H : Type} {enc : TypeId × Value → H} {P : Program} {w : World} {base : Nat} {held : Bool}
theorem leads_of {a : Addr} {len cap : Nat} (cs : List Value) (h1 : len ≤ cap) (h2 : cap ≤ maxLen) (hl : cs.length = 0 → len = 0) (hc : ∀ i v, cs[i]? = some v → w.cell? (a.add i) = some v) : Leads w (some a) len cap cs := by
  refine ⟨h1, h2, ?_⟩
  cases cs with
  | nil => exact .inl ⟨hl rfl, rfl⟩
  | cons v r =>
    have h0 := hc 0 v rfl
    obtain ⟨b, off, spot⟩ := a
    have hs : spot = none := by
      cases spot with
      | none => rfl
      | some s =>
        have : (⟨b, off, some s⟩ : Addr).add 0 = ⟨b, off, some s⟩ := by simp [Addr.add]
        rw [this] at h0
        unfold World.cell? at h0
        cases hh : w.heap[b]? with
        | none => rw [hh] at h0; cases h0
        | some o => rw [hh] at h0; cases o <;> simp at h0
    subst hs
    refine .inr ⟨b, off, rfl, block_lt_of_cell h0, fun i u hu => ?_⟩
    have := hc i u hu
    rcases i with _ | i
    · simpa [Addr.add] using this
    · simpa [Addr.add] using this
theorem open_words {t e : TypeId} {fuel : Nat} {a : Option Addr} {len cap : Nat} {x : DataW H × List MemPlace} (ht : P.underlying t = some (.slice e)) (he : P.underlying e = some (.int .u64)) (hc : P.cellsOf e = 1)
    (h : DataW.trod enc P w base (fun _ => true) held fuel t (Value.slice a len cap).cells.toList = some x) : ∃ xs : List Nat, xs.length = len ∧ Leads w a len cap (wcells xs) ∧ wok xs := by
  rcases open_ints ht he hc h with ⟨hcs, _⟩ | ⟨ad, l, c, zs, hcs, _, hl, hm, hz, _, hcell, hwz⟩
  · simp [Value.cells] at hcs
    obtain ⟨rfl, rfl, rfl⟩ := hcs
    exact ⟨[], rfl, ⟨Nat.le_refl _, Nat.zero_le _, .inl ⟨rfl, rfl⟩⟩, fun x hx => by cases hx⟩
  · simp [Value.cells] at hcs
    obtain ⟨rfl, rfl, rfl⟩ := hcs
    simp at hz
    have hw : ∀ n ∈ zs, 0 ≤ n ∧ n < 18446744073709551616 := by
      intro n hn
      have := hwz n hn
      simp [Lit.wf, IntKind.min, IntKind.max, IntKind.signed, IntKind.bits] at this
      omega
    refine ⟨(zs.take len).map Int.toNat, by simp; omega, leads_of _ hl hm (by simp [wcells]; intro h; rcases h with h | h; exact h; subst h; simp at hz; omega) (fun i v hv => ?_), ?_⟩
    · unfold wcells at hv
      simp only [List.getElem?_map, Option.map_map] at hv
      rw [List.getElem?_take] at hv
      split at hv
      · rename_i hi
        have hi2 : i < zs.length := by omega
        rw [List.getElem?_eq_getElem hi2] at hv
        simp at hv
        rw [hcell i hi2, ← hv, List.getD_eq_getElem?_getD, List.getElem?_eq_getElem hi2]
        have := hw _ (List.getElem_mem hi2)
        simp
        omega
      · simp at hv
    · intro n hn
      obtain ⟨z, hz', rfl⟩ := List.mem_map.1 hn
      have := hw z (List.mem_of_mem_take hz')
      omega
end
end Go.Proofs.YtahicokokfcieaaGreatDoor
namespace Go.Proofs.YtahicokokfcieaaGreatDoor
open Go.ChangeShapes Go.WideShapes Go.ChangeAt Go.RowKit
set_option linter.unusedVariables false
section
variable {H : Type} {enc : TypeId × Value → H} {P : Program} {w : World} {base : Nat} {held : Bool}
/-- A row of elements of k cells each, where each one's cells say what it is. -/
theorem open_each {α : Type} {t e : TypeId} {k fuel : Nat} {a : Option Addr} {len cap : Nat} {x : DataW H × List MemPlace} (f : α → List Value) (R : α → Prop) (ht : P.underlying t = some (.slice e)) (ce : P.cellsOf e = k) (hk : 0 < k) (hf : ∀ q, R q → (f q).length = k)
    (each : ∀ (n : Nat) (cs : List Value) (y : DataW H × List MemPlace), cs.length = k → DataW.trod enc P w base (fun _ => true) held n e cs = some y → ∃ q : α, cs = f q ∧ R q)
    (h : DataW.trod enc P w base (fun _ => true) held fuel t (Value.slice a len cap).cells.toList = some x) : ∃ qs : List α, qs.length = len ∧ Leads w a len cap (qs.flatMap f) ∧ ∀ q ∈ qs, R q := by
  rcases Go.Deep.open_slice ht h with ⟨hcs, _⟩ | ⟨ad, l, c, m, n, D, Pl, hcs, _, hl, hm, hmm, _, hV⟩
  · simp [Value.cells] at hcs
    obtain ⟨rfl, rfl, rfl⟩ := hcs
    exact ⟨[], rfl, ⟨Nat.le_refl _, Nat.zero_le _, .inl ⟨rfl, rfl⟩⟩, fun x hx => by cases hx⟩
  · simp [Value.cells] at hcs
    obtain ⟨rfl, rfl, rfl⟩ := hcs
    have hmc : m = cap := by rw [hmm]; rfl
    have e1 : ∀ i : Fin len, ∃ q : α, R q ∧ ∀ j, j < k → w.cell? (ad.add (i.1 * k + j)) = (f q)[j]? := by
      intro i
      obtain ⟨cs', h1, h2⟩ := hV i.1 (by omega)
      rw [ce] at h1
      obtain ⟨_, hlen, hcell⟩ := World.cells?_some h1
      obtain ⟨q, rfl, hR⟩ := each n cs' _ hlen h2
      refine ⟨q, hR, fun j hj => ?_⟩
      rw [← Addr.add_add]
      exact hcell j hj
    let g : Fin len → α := fun i => Classical.choose (e1 i)
    have hg : ∀ i, R (g i) ∧ ∀ j, j < k → w.cell? (ad.add (i.1 * k + j)) = (f (g i))[j]? := fun i => Classical.choose_spec (e1 i)
    have hlenf : ∀ (qs : List α), (∀ q ∈ qs, R q) → (qs.flatMap f).length = qs.length * k := by
      intro qs
      induction qs with
      | nil => intro _; simp
      | cons q r ih =>
        intro h
        rw [List.flatMap_cons, List.length_append, hf q (h q (by simp)), ih (fun q hq => h q (by simp [hq])), List.length_cons, Nat.succ_mul]; omega
    have hall : ∀ q ∈ List.ofFn g, R q := by
      intro q hq
      obtain ⟨i, rfl⟩ := List.mem_ofFn.1 hq
      exact (hg i).1
    refine ⟨List.ofFn g, by simp, leads_of _ hl hm ?_ ?_, hall⟩
    · intro h0
      rw [hlenf _ hall, List.length_ofFn] at h0
      rcases Nat.mul_eq_zero.1 h0 with h | h
      · exact h
      · omega
    · intro i v hv
      have hlt := (List.getElem?_eq_some_iff.1 hv).1
      rw [hlenf _ hall, List.length_ofFn] at hlt
      have hq : i / k < len := Nat.div_lt_of_lt_mul (by rw [Nat.mul_comm]; exact hlt)
      have hr : i % k < k := Nat.mod_lt _ hk
      have ei : i / k * k + i % k = i := Nat.div_add_mod' i k
      have hc := (hg ⟨i / k, hq⟩).2 (i % k) hr
      rw [show (⟨i / k, hq⟩ : Fin len).1 * k + i % k = i from ei] at hc
      rw [hc, ← hv]
      clear hc hv
      have go : ∀ (qs : List α) (hR : ∀ q ∈ qs, R q) (a b : Nat) (q : α), qs[a]? = some q → b < k → (qs.flatMap f)[a * k + b]? = (f q)[b]? := by
        intro qs
        induction qs with
        | nil => intro _ a b q h; simp at h
        | cons y r ih =>
          intro hR a b q h hb
          have hy := hf y (hR y (by simp))
          rw [List.flatMap_cons]
          cases a with
          | zero =>
            obtain rfl : y = q := by simpa using h
            rw [Nat.zero_mul, Nat.zero_add, List.getElem?_append_left (by omega)]
          | succ a =>
            rw [List.getElem?_append_right (by rw [hy, Nat.succ_mul]; omega), hy, show (a + 1) * k + b - k = a * k + b by rw [Nat.succ_mul]; omega]
            exact ih (fun q hq => hR q (by simp [hq])) a b q (by simpa using h) hb
      have := go (List.ofFn g) hall (i / k) (i % k) (g ⟨i / k, hq⟩) (by rw [List.getElem?_ofFn, dif_pos hq]) hr
      rw [ei] at this
      exact this.symm
end
end Go.Proofs.YtahicokokfcieaaGreatDoor
namespace Go.Proofs.YtahicokokfcieaaGreatDoor
open Go.ChangeShapes Go.WideShapes Go.ChangeAt Go.RowKit
set_option linter.unusedVariables false
section
variable {H : Type} {enc : TypeId × Value → H} {w : World} {base : Nat} {held : Bool}
theorem open_boolrow {fuel : Nat} {a : Option Addr} {len cap : Nat} {x : DataW H × List MemPlace} (h : DataW.trod enc Tryz.prog w base (fun _ => true) held fuel 23 (Value.slice a len cap).cells.toList = some x) :
    ∃ bs : List Bool, bs.length = len ∧ Leads w a len cap (bcells bs) := by
  obtain ⟨qs, h1, h2, h3⟩ := open_each (fun b : Bool => [Value.bool b]) (fun _ => True) Tryz.underlying23 (k := 1) (by kernel_rfl) (by decide) (fun q hq => rfl) (fun n cs y hl hy => by
    obtain ⟨z, e, -⟩ := DataW.trod_bool Tryz.underlying4 hy
    exact ⟨z, e, trivial⟩) h
  refine ⟨qs, h1, ?_⟩
  have : qs.flatMap (fun b : Bool => [Value.bool b]) = bcells qs := by clear h h1 h2 h3; induction qs with | nil => rfl | cons q r ih => rw [List.flatMap_cons, ih]; rfl
  rw [← this]; exact h2
set_option maxRecDepth 100000 in
theorem open_mem {r : Reach} {b0 : Nat} {v : Value} {d : DataW H} {p : List MemPlace} (hv : Value.okWide Tryz.prog w r b0 25 v) (h : DataW.Trod enc Tryz.prog w base (fun _ => true) held 25 v d p) :
    ∃ (M : Mem) (wa : Option Addr) (wc : Nat) (la : Option Addr) (lc : Nat), v = memV wa wc la lc M ∧ MemL w wa wc la lc M ∧ ∀ x ∈ M.W, x < 18446744073709551616 := by
  obtain ⟨c, e, u, y, y1, y2, n, rfl, -, -, h0, h1, h2⟩ := Joins.open_agg3 Tryz.underlying25 (by kernel_rfl) (by kernel_rfl) hv h
  obtain ⟨wa, wn, wc, eW⟩ := Joins.slice_form Tryz.underlying22 h0
  obtain ⟨la, ln, lc, eL⟩ := Joins.slice_form Tryz.underlying23 h1
  obtain ⟨F, eF, -⟩ := DataW.trod_bool Tryz.underlying4 h2
  simp only [List.cons.injEq, and_true] at eW eL eF
  subst eW eL eF
  obtain ⟨ws, w1, w2, w3⟩ := open_words (a := wa) (len := wn) (cap := wc) Tryz.underlying22 Tryz.underlying26 (by kernel_rfl) h0
  obtain ⟨bs, b1, b2⟩ := open_boolrow (a := la) (len := ln) (cap := lc) h1
  subst w1 b1
  exact ⟨⟨ws, bs, F⟩, wa, wc, la, lc, rfl, ⟨w2, b2⟩, w3⟩
end
end Go.Proofs.YtahicokokfcieaaGreatDoor
