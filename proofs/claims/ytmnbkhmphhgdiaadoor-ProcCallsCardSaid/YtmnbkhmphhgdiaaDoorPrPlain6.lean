/- Processes: the document's word on which may be. Plain laws. -/
import Derived.Test.YtmnbkhmphhgdiaaDoorPrPlain1
namespace Go.Proofs.YtmnbkhmphhgdiaaDoor
open Go.RowKit
open Go.Proofs
set_option linter.unusedVariables false

/-- May a process be, among these? -/
def oneB (G : Nat → Int) (L : List Pr) (x : Pr) : Bool :=
  if x.1 % 64 < 1 ∨ 16 < x.1 % 64 ∨ ((x.1 / 64 + 1 : Nat) : Int) ≠ G (x.1 % 64 - 1) ∨ x.2.1 = x.1 then false
  else if x.2.1 ≠ 0 ∧ runsB L x.2.1 = false then false
  else if x.2.2.1 = true then decide (x.2.1 ≠ 0) else decide (x.2.2.2 = 0)
structure OneP (G : Nat → Int) (L : List Pr) (x : Pr) : Prop where
  idx : 1 ≤ x.1 % 64 ∧ x.1 % 64 ≤ 16
  gen : ((x.1 / 64 + 1 : Nat) : Int) = G (x.1 % 64 - 1)
  orph : x.2.2.1 = true → x.2.1 ≠ 0
  code : x.2.2.1 = false → x.2.2.2 = 0
  par : x.2.1 ≠ 0 → x.2.1 ≠ x.1 ∧ runsB L x.2.1 = true
theorem oneB_iff (G : Nat → Int) (L : List Pr) (x : Pr) : oneB G L x = true ↔ OneP G L x := by
  unfold oneB
  constructor
  · intro h
    split at h
    · cases h
    · rename_i h1
      simp only [not_or, Nat.not_lt, Decidable.not_not, ne_eq] at h1
      split at h
      · cases h
      · rename_i h2
        refine ⟨⟨h1.1, h1.2.1⟩, h1.2.2.1, fun hd => ?_, fun hd => ?_, fun hp => ⟨h1.2.2.2, ?_⟩⟩
        · rw [if_pos hd] at h; simpa using h
        · rw [if_neg (by rw [hd]; decide)] at h; simpa using h
        · cases hr : runsB L x.2.1 with
          | true => rfl
          | false => exact absurd ⟨hp, hr⟩ h2
  · intro h
    have hne : ¬ (x.2.1 = x.1) := by
      intro e
      by_cases h0 : x.2.1 = 0
      · have := h.idx.1; rw [← e, h0] at this; omega
      · exact (h.par h0).1 e
    rw [if_neg (by
      simp only [not_or, Nat.not_lt, Decidable.not_not, ne_eq]
      exact ⟨h.idx.1, h.idx.2, h.gen, hne⟩)]
    rw [if_neg (by
      rintro ⟨h1, h2⟩
      rw [(h.par h1).2] at h2
      cases h2)]
    split
    · rename_i hd
      exact decide_eq_true (h.orph hd)
    · rename_i hd
      exact decide_eq_true (h.code (by simpa using hd))
/-- What the document asks of each place. -/
def goodAt (G : Nat → Int) (L : List Pr) (i : Nat) : Prop := ∀ x, L[i]? = some x → oneB G L x = true ∧ (i = 0 ∨ (L.getD (i - 1) (0, 0, false, 0)).1 % 64 < x.1 % 64)
theorem okP_good (G : Nat → Int) (L : List Pr) : okP G L = true ↔ gensB G = true ∧ (∀ i, goodAt G L i) ∧ L[0]? = some firstP := by
  rw [okP_iff]
  constructor
  · intro h
    refine ⟨?_, fun i x hx => ⟨(oneB_iff G L x).2 ?_, ?_⟩, h.head⟩
    · unfold gensB
      rw [List.all_eq_true]
      intro i hi
      simpa using h.gens i (List.mem_range.1 hi)
    · have hm := List.mem_of_getElem? hx
      exact ⟨h.idx x hm, h.gen x hm, h.orph x hm, h.code x hm, h.par x hm⟩
    · rcases Nat.eq_zero_or_pos i with h0 | h0
      · exact .inl h0
      · right
        obtain ⟨j, rfl⟩ : ∃ j, i = j + 1 := ⟨i - 1, by omega⟩
        have hj : j < L.length := by have := (List.getElem?_eq_some_iff.1 hx).1; omega
        rw [Nat.add_sub_cancel, List.getD_eq_getElem?_getD, List.getElem?_eq_getElem hj]
        exact pairwise_next (fun x : Pr => x.1 % 64) L h.sort j _ x (List.getElem?_eq_getElem hj) hx
  · rintro ⟨h1, h2, h3⟩
    have key : ∀ x ∈ L, OneP G L x := fun x hx => by
      obtain ⟨i, hi⟩ := List.mem_iff_getElem?.1 hx
      exact (oneB_iff G L x).1 (h2 i x hi).1
    refine ⟨h3, fun i hi => ?_, fun x hx => (key x hx).idx, fun x hx => (key x hx).gen, fun x hx => (key x hx).orph, fun x hx => (key x hx).code, fun x hx => (key x hx).par, ?_⟩
    · unfold gensB at h1
      have := List.all_eq_true.1 h1 i (List.mem_range.2 hi)
      simpa using this
    · refine pairwise_of_next (fun x : Pr => x.1 % 64) L fun i x y hx hy => ?_
      rcases (h2 (i + 1) y hy).2 with h | h
      · omega
      · rw [Nat.add_sub_cancel, List.getD_eq_getElem?_getD, hx] at h
        exact h
theorem okP_gens {G : Nat → Int} {L : List Pr} (h : gensB G = false) : okP G L = false := by
  cases ho : okP G L with
  | false => rfl
  | true => rw [((okP_good G L).1 ho).1] at h; cases h
theorem okP_bad {G : Nat → Int} {L : List Pr} {i : Nat} {x : Pr} (hx : L[i]? = some x) (h : oneB G L x = false ∨ (i ≠ 0 ∧ ¬ (L.getD (i - 1) (0, 0, false, 0)).1 % 64 < x.1 % 64)) : okP G L = false := by
  cases ho : okP G L with
  | false => rfl
  | true =>
    obtain ⟨h1, h2⟩ := ((okP_good G L).1 ho).2.1 i x hx
    rcases h with h | ⟨h3, h4⟩
    · rw [h1] at h; cases h
    · rcases h2 with h2 | h2
      · exact absurd h2 h3
      · exact absurd h2 h4
end Go.Proofs.YtmnbkhmphhgdiaaDoor
