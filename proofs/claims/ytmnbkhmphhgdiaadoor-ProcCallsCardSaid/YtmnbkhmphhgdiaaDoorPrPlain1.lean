/- Processes: what may be, and what spawning, ending and waiting come to. Plain laws. -/
import Derived.Test.YtmnbkhmphhgdiaaDoorPr1
namespace Go.Proofs.YtmnbkhmphhgdiaaDoor
open Go.RowKit
open Go.Proofs
set_option linter.unusedVariables false

abbrev firstP : Pr := (1, 0, false, 0)
def findB (L : List Pr) (pid : Nat) : Option Pr := L.find? (fun x => decide (x.1 = pid))
def runsB (L : List Pr) (pid : Nat) : Bool := match findB L pid with
  | some x => !x.2.2.1
  | none => false
def gensB (G : Nat → Int) : Bool := (List.range 16).all fun i => decide (0 ≤ G i) && decide (G i ≤ 65536)
def rowB (L : List Pr) (i : Nat) (x : Pr) : Bool := decide (1 ≤ x.1 % 64) && (decide (x.1 % 64 ≤ 16) && (decide (i = 0) || decide ((L.getD (i - 1) (0, 0, false, 0)).1 % 64 < x.1 % 64)))
def bad1 (G : Nat → Int) (L : List Pr) (i : Nat) (x : Pr) : Bool := !rowB L i x || (decide (((x.1 / 64 + 1 : Nat) : Int) ≠ G (x.1 % 64 - 1)) || ((x.2.2.1 && decide (x.2.1 = 0)) || (!x.2.2.1 && decide (x.2.2.2 ≠ 0))))
def bad2 (L : List Pr) (x : Pr) : Bool := decide (x.2.1 ≠ 0) && (decide (x.2.1 = x.1) || !runsB L x.2.1)
def badAt (G : Nat → Int) (L : List Pr) (i : Nat) : Bool := match L[i]? with
  | some x => bad1 G L i x || bad2 L x
  | none => false
def okP (G : Nat → Int) (L : List Pr) : Bool := decide (L[0]? = some firstP) && (gensB G && (List.range L.length).all fun i => !badAt G L i)
/-- Processes that may be. -/
structure OkL (G : Nat → Int) (L : List Pr) : Prop where
  head : L[0]? = some firstP
  gens : ∀ i, i < 16 → 0 ≤ G i ∧ G i ≤ 65536
  idx : ∀ x ∈ L, 1 ≤ x.1 % 64 ∧ x.1 % 64 ≤ 16
  gen : ∀ x ∈ L, ((x.1 / 64 + 1 : Nat) : Int) = G (x.1 % 64 - 1)
  orph : ∀ x ∈ L, x.2.2.1 = true → x.2.1 ≠ 0
  code : ∀ x ∈ L, x.2.2.1 = false → x.2.2.2 = 0
  par : ∀ x ∈ L, x.2.1 ≠ 0 → x.2.1 ≠ x.1 ∧ runsB L x.2.1 = true
  sort : L.Pairwise fun x y => x.1 % 64 < y.1 % 64
theorem pairwise_of_next {α : Type} (f : α → Nat) : ∀ (L : List α), (∀ i x y, L[i]? = some x → L[i + 1]? = some y → f x < f y) → L.Pairwise fun x y => f x < f y
  | [], _ => .nil
  | [x], _ => List.pairwise_singleton _ x
  | x :: y :: r, h => by
    have ih := pairwise_of_next f (y :: r) (fun i a b h1 h2 => h (i + 1) a b h1 h2)
    refine List.pairwise_cons.2 ⟨fun z hz => ?_, ih⟩
    have hxy := h 0 x y rfl rfl
    rcases List.mem_cons.1 hz with rfl | hz
    · exact hxy
    · exact Nat.lt_trans hxy ((List.pairwise_cons.1 ih).1 z hz)
theorem pairwise_next {α : Type} (f : α → Nat) : ∀ (L : List α), (L.Pairwise fun x y => f x < f y) → ∀ i x y, L[i]? = some x → L[i + 1]? = some y → f x < f y
  | [], _, i, x, y, h, _ => by simp at h
  | z :: r, hp, 0, x, y, h1, h2 => by
    simp only [List.getElem?_cons_zero, Option.some.injEq] at h1
    subst h1
    exact (List.pairwise_cons.1 hp).1 y (List.mem_of_getElem? (by simpa using h2))
  | z :: r, hp, i + 1, x, y, h1, h2 => pairwise_next f r (List.pairwise_cons.1 hp).2 i x y (by simpa using h1) (by simpa using h2)
theorem okP_iff (G : Nat → Int) (L : List Pr) : okP G L = true ↔ OkL G L := by
  unfold okP
  rw [Bool.and_eq_true, Bool.and_eq_true, decide_eq_true_eq, List.all_eq_true]
  have hb : ∀ i, (i ∈ List.range L.length → (!badAt G L i) = true) ↔ ∀ x, L[i]? = some x → bad1 G L i x = false ∧ bad2 L x = false := by
    intro i
    unfold badAt
    constructor
    · intro h x hx
      have := h (List.mem_range.2 (List.getElem?_eq_some_iff.1 hx).1)
      rw [hx] at this
      simpa using this
    · intro h hi
      cases hx : L[i]? with
      | none => rfl
      | some x => simpa using h x hx
  constructor
  · rintro ⟨h0, h1, h2⟩
    have h3 := fun i x hx => (hb i).1 (h2 i) x hx
    have key : ∀ i x, L[i]? = some x → rowB L i x = true ∧ ((x.1 / 64 + 1 : Nat) : Int) = G (x.1 % 64 - 1) ∧ (x.2.2.1 = true → x.2.1 ≠ 0) ∧ (x.2.2.1 = false → x.2.2.2 = 0) ∧ (x.2.1 ≠ 0 → x.2.1 ≠ x.1 ∧ runsB L x.2.1 = true) := by
      intro i x hx
      obtain ⟨q1, q2⟩ := h3 i x hx
      unfold bad1 at q1
      unfold bad2 at q2
      simp only [Bool.or_eq_false_iff, Bool.not_eq_false', Bool.and_eq_false_iff, decide_eq_false_iff_not, Decidable.not_not, ne_eq] at q1 q2
      obtain ⟨a1, a2, a3, a4⟩ := q1
      refine ⟨a1, a2, fun hd he => ?_, fun hd => ?_, fun hp => ?_⟩
      · rcases a3 with h | h
        · rw [hd] at h; cases h
        · exact h he
      · rcases a4 with h | h
        · rw [hd] at h; cases h
        · exact h
      · rcases q2 with h | h
        · exact absurd h hp
        · exact h
    have kx : ∀ x ∈ L, ∃ i, L[i]? = some x := fun x hx => by obtain ⟨i, hi⟩ := List.mem_iff_getElem?.1 hx; exact ⟨i, hi⟩
    have row : ∀ i x, L[i]? = some x → 1 ≤ x.1 % 64 ∧ x.1 % 64 ≤ 16 ∧ (i = 0 ∨ (L.getD (i - 1) (0, 0, false, 0)).1 % 64 < x.1 % 64) := by
      intro i x hx
      have := (key i x hx).1
      unfold rowB at this
      simpa using this
    refine ⟨h0, fun i hi => ?_, fun x hx => ?_, fun x hx => ?_, fun x hx => ?_, fun x hx => ?_, fun x hx => ?_, ?_⟩
    · unfold gensB at h1
      have := List.all_eq_true.1 h1 i (List.mem_range.2 hi)
      simpa using this
    · obtain ⟨i, hi⟩ := kx x hx; exact ⟨(row i x hi).1, (row i x hi).2.1⟩
    · obtain ⟨i, hi⟩ := kx x hx; exact (key i x hi).2.1
    · obtain ⟨i, hi⟩ := kx x hx; exact (key i x hi).2.2.1
    · obtain ⟨i, hi⟩ := kx x hx; exact (key i x hi).2.2.2.1
    · obtain ⟨i, hi⟩ := kx x hx; exact (key i x hi).2.2.2.2
    · refine pairwise_of_next (fun x : Pr => x.1 % 64) L fun i x y hx hy => ?_
      rcases (row (i + 1) y hy).2.2 with h | h
      · omega
      · rw [Nat.add_sub_cancel, List.getD_eq_getElem?_getD, hx] at h
        exact h
  · intro h
    refine ⟨h.head, ?_, fun i => (hb i).2 fun x hx => ?_⟩
    · unfold gensB
      rw [List.all_eq_true]
      intro i hi
      simpa using h.gens i (List.mem_range.1 hi)
    · have hm := List.mem_of_getElem? hx
      have hr : rowB L i x = true := by
        unfold rowB
        have := h.idx x hm
        simp only [Bool.and_eq_true, decide_eq_true_eq, Bool.or_eq_true]
        refine ⟨this.1, this.2, ?_⟩
        rcases Nat.eq_zero_or_pos i with h0 | h0
        · exact .inl h0
        · right
          obtain ⟨j, rfl⟩ : ∃ j, i = j + 1 := ⟨i - 1, by omega⟩
          have hj : j < L.length := by have := (List.getElem?_eq_some_iff.1 hx).1; omega
          rw [Nat.add_sub_cancel, List.getD_eq_getElem?_getD, List.getElem?_eq_getElem hj]
          exact pairwise_next (fun x : Pr => x.1 % 64) L h.sort j _ x (List.getElem?_eq_getElem hj) hx
      unfold bad1 bad2
      rw [hr]
      simp only [Bool.or_eq_false_iff, Bool.not_eq_false', Bool.and_eq_false_iff, decide_eq_false_iff_not, Decidable.not_not, ne_eq, Bool.not_true, true_and]
      refine ⟨⟨h.gen x hm, ?_, ?_⟩, ?_⟩
      · cases hd : x.2.2.1 with
        | false => exact .inl rfl
        | true => exact .inr (h.orph x hm hd)
      · cases hd : x.2.2.1 with
        | true => exact .inl rfl
        | false => exact .inr (h.code x hm hd)
      · by_cases hp : x.2.1 = 0
        · exact .inl hp
        · exact .inr (h.par x hm hp)
theorem OkL.ne {G : Nat → Int} {L : List Pr} (h : OkL G L) : L ≠ [] := by
  rintro rfl
  have := h.head
  simp at this
theorem mem_eq {L : List Pr} (h : L.Pairwise fun x y => x.1 % 64 < y.1 % 64) {x y : Pr} (hx : x ∈ L) (hy : y ∈ L) (e : x.1 % 64 = y.1 % 64) : x = y := by
  induction L with
  | nil => cases hx
  | cons z r ih =>
    obtain ⟨h1, h2⟩ := List.pairwise_cons.1 h
    rcases List.mem_cons.1 hx with e1 | hx2
    · rcases List.mem_cons.1 hy with e2 | hy2
      · rw [e1, e2]
      · have := h1 y hy2; rw [← e1] at this; omega
    · rcases List.mem_cons.1 hy with e2 | hy2
      · have := h1 x hx2; rw [← e2] at this; omega
      · exact ih h2 hx2 hy2
theorem findB_some {L : List Pr} {pid : Nat} {x : Pr} (h : findB L pid = some x) : x ∈ L ∧ x.1 = pid :=
  ⟨List.mem_of_find?_eq_some h, by simpa using List.find?_some h⟩
theorem findB_none {L : List Pr} {pid : Nat} (h : findB L pid = none) : ∀ x ∈ L, x.1 ≠ pid := by
  intro x hx
  simpa using List.find?_eq_none.1 h x hx
theorem findB_mem {L : List Pr} (h : L.Pairwise fun x y => x.1 % 64 < y.1 % 64) {x : Pr} (hx : x ∈ L) : findB L x.1 = some x := by
  cases hf : findB L x.1 with
  | none => exact absurd rfl (findB_none hf x hx)
  | some y =>
    obtain ⟨h1, h2⟩ := findB_some hf
    rw [mem_eq h h1 hx (by rw [h2])]
theorem runsB_iff {L : List Pr} (h : L.Pairwise fun x y => x.1 % 64 < y.1 % 64) (pid : Nat) : runsB L pid = true ↔ ∃ x ∈ L, x.1 = pid ∧ x.2.2.1 = false := by
  unfold runsB
  constructor
  · intro hr
    cases hf : findB L pid with
    | none => rw [hf] at hr; cases hr
    | some x =>
      rw [hf] at hr
      obtain ⟨h1, h2⟩ := findB_some hf
      exact ⟨x, h1, h2, by simpa using hr⟩
  · rintro ⟨x, hx, rfl, hd⟩
    rw [findB_mem h hx]
    show (!x.2.2.1) = true
    rw [hd]
    rfl
/-- Processes without some. -/
theorem sort_sub {L : List Pr} (h : L.Pairwise fun x y => x.1 % 64 < y.1 % 64) (f : Pr → Option Pr) (hf : ∀ x y, f x = some y → y.1 = x.1) : (L.filterMap f).Pairwise fun x y => x.1 % 64 < y.1 % 64 := by
  rw [List.pairwise_filterMap]
  exact h.imp fun hxy a ha b hb => by rw [hf _ _ ha, hf _ _ hb]; exact hxy
end Go.Proofs.YtmnbkhmphhgdiaaDoor
