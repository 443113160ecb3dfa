/- Rows that came in, of whatever elements. -/
import Derived.Test.YtmnbkhmphhgdiaaDoorOpen
import Derived.Lib.SmallJoins
import Derived.DataElems
namespace Go.Proofs.YtmnbkhmphhgdiaaDoor
open Go.ChangeShapes Go.WideShapes Go.ChangeAt Go.RowKit
set_option linter.unusedVariables false

section
variable {H : Type} {enc : TypeId × Value → H} {P : Program} {w : World} {base : Nat} {held : Bool}

/-- A row of elements of k cells each, where each one's cells say what it is. -/
theorem open_each {α : Type} {t e : TypeId} {k fuel : Nat} {a : Option Addr} {len cap : Nat} {x : DataW H × List MemPlace} (f : α → List Value) (R : α → Prop) (ht : P.underlying t = some (.slice e)) (ce : P.cellsOf e = k) (hk : 0 < k) (hf : ∀ q, R q → (f q).length = k)
    (each : ∀ (n : Nat) (cs : List Value) (y : DataW H × List MemPlace), cs.length = k → DataW.trod enc P w base (fun _ => true) held n e cs = some y → ∃ q : α, cs = f q ∧ R q)
    (h : DataW.trod enc P w base (fun _ => true) held fuel t (Value.slice a len cap).cells.toList = some x) : ∃ qs : List α, qs.length = len ∧ Leads w a len cap (qs.flatMap f) ∧ ∀ q ∈ qs, R q := by
  rcases Go.Deep.open_slice ht h with ⟨hcs, _⟩ | ⟨ad, l, c, m, n, D, Pl, hcs, _, hl, hm, hmm, _, hV⟩
  · simp [Value.cells] at hcs
    obtain ⟨rfl, rfl, rfl⟩ := hcs
    exact ⟨[], rfl, ⟨Nat.le_refl _, Nat.zero_le _, .inl ⟨rfl, rfl⟩⟩, fun x hx => by cases hx⟩
  · simp [Value.cells] at hcs
    obtain ⟨rfl, rfl, rfl⟩ := hcs
    have hmc : m = cap := by rw [hmm]; rfl
    have e1 : ∀ i : Fin len, ∃ q : α, R q ∧ ∀ j, j < k → w.cell? (ad.add (i.1 * k + j)) = (f q)[j]? := by
      intro i
      obtain ⟨cs', h1, h2⟩ := hV i.1 (by omega)
      rw [ce] at h1
      obtain ⟨_, hlen, hcell⟩ := World.cells?_some h1
      obtain ⟨q, rfl, hR⟩ := each n cs' _ hlen h2
      refine ⟨q, hR, fun j hj => ?_⟩
      rw [← Addr.add_add]
      exact hcell j hj
    let g : Fin len → α := fun i => Classical.choose (e1 i)
    have hg : ∀ i, R (g i) ∧ ∀ j, j < k → w.cell? (ad.add (i.1 * k + j)) = (f (g i))[j]? := fun i => Classical.choose_spec (e1 i)
    have hlenf : ∀ (qs : List α), (∀ q ∈ qs, R q) → (qs.flatMap f).length = qs.length * k := by
      intro qs
      induction qs with
      | nil => intro _; simp
      | cons q r ih =>
        intro h
        rw [List.flatMap_cons, List.length_append, hf q (h q (by simp)), ih (fun q hq => h q (by simp [hq])), List.length_cons, Nat.succ_mul]; omega
    have hall : ∀ q ∈ List.ofFn g, R q := by
      intro q hq
      obtain ⟨i, rfl⟩ := List.mem_ofFn.1 hq
      exact (hg i).1
    refine ⟨List.ofFn g, by simp, leads_of _ hl hm ?_ ?_, hall⟩
    · intro h0
      rw [hlenf _ hall, List.length_ofFn] at h0
      rcases Nat.mul_eq_zero.1 h0 with h | h
      · exact h
      · omega
    · intro i v hv
      have hlt := (List.getElem?_eq_some_iff.1 hv).1
      rw [hlenf _ hall, List.length_ofFn] at hlt
      have hq : i / k < len := Nat.div_lt_of_lt_mul (by rw [Nat.mul_comm]; exact hlt)
      have hr : i % k < k := Nat.mod_lt _ hk
      have ei : i / k * k + i % k = i := Nat.div_add_mod' i k
      have hc := (hg ⟨i / k, hq⟩).2 (i % k) hr
      rw [show (⟨i / k, hq⟩ : Fin len).1 * k + i % k = i from ei] at hc
      rw [hc, ← hv]
      clear hc hv
      have go : ∀ (qs : List α) (hR : ∀ q ∈ qs, R q) (a b : Nat) (q : α), qs[a]? = some q → b < k → (qs.flatMap f)[a * k + b]? = (f q)[b]? := by
        intro qs
        induction qs with
        | nil => intro _ a b q h; simp at h
        | cons y r ih =>
          intro hR a b q h hb
          have hy := hf y (hR y (by simp))
          rw [List.flatMap_cons]
          cases a with
          | zero =>
            obtain rfl : y = q := by simpa using h
            rw [Nat.zero_mul, Nat.zero_add, List.getElem?_append_left (by omega)]
          | succ a =>
            rw [List.getElem?_append_right (by rw [hy, Nat.succ_mul]; omega), hy, show (a + 1) * k + b - k = a * k + b by rw [Nat.succ_mul]; omega]
            exact ih (fun q hq => hR q (by simp [hq])) a b q (by simpa using h) hb
      have := go (List.ofFn g) hall (i / k) (i % k) (g ⟨i / k, hq⟩) (by rw [List.getElem?_ofFn, dif_pos hq]) hr
      rw [ei] at this
      exact this.symm
end
end Go.Proofs.YtmnbkhmphhgdiaaDoor
