/- Lists linked both ways: what the walk over nodes comes to. -/
import Derived.Test.YtoihjmdpbbcbjaaDbl3
import Derived.Test.YtoihjmdpbbcbjaaRegion5
namespace Go.Proofs.Ytoihjmdpbbcbjaa
open Go.RowKit
open Go.Proofs
set_option linter.unusedVariables false

/-- A node: where it is, its key, its value. -/
abbrev Tw := Nat × Nat × Nat
def twV (t : Tw) : Value := .agg #[.int .u64 ((t.1 : Nat) : Int), .int .u64 ((t.2.1 : Nat) : Int), .int .u64 ((t.2.2 : Nat) : Int)]
def wAt (M : Mem) (p k : Nat) : Nat := M.W.getD (posN p k) 0
def goN (M : Mem) : Nat → Nat → Nat → List Nat → List Tw → Option (List Tw × List Nat × Nat)
  | 0, _, _, _, _ => none
  | f + 1, ahead, place, met, out => if place = 0 then some (out, met, ahead) else
    match takeP M place (List.range 4) met with
    | none => none
    | some met' => if wAt M place 3 = ahead then goN M f place (wAt M place 2) met' (out ++ [(place, wAt M place 0, wAt M place 1)]) else none
def nodesN (M : Mem) (head : Nat) : Option (List Tw × List Nat) :=
  match takeP M head (List.range 2) [] with
  | none => none
  | some m0 => match goN M 4101 0 (wAt M head 0) m0 [] with
    | none => none
    | some (out, met, ahead) => if wAt M head 1 = ahead then some (out, met) else none

theorem takeP_spec (M : Mem) (p : Nat) : ∀ (ks met met' : List Nat), takeP M p ks met = some met' → (∀ k ∈ ks, liveN M (posN p k) = true) ∧ (met.Nodup → met'.Nodup) ∧ met'.length = met.length + ks.length ∧ ∀ x ∈ met', x ∈ met ∨ liveN M x = true
  | [], met, met', h => by
    cases h
    exact ⟨by simp, id, by simp, fun x h => .inl h⟩
  | k :: ks, met, met', h => by
    unfold takeP at h
    split at h
    · rename_i hf
      obtain ⟨h1, h2, h3, h4⟩ := takeP_spec M p ks _ _ h
      unfold freeB at hf
      simp only [Bool.and_eq_true, Bool.not_eq_true', decide_eq_false_iff_not] at hf
      refine ⟨?_, ?_, ?_, ?_⟩
      · intro j hj
        rcases List.mem_cons.1 hj with rfl | hj
        · exact hf.1
        · exact h1 j hj
      · intro hn
        refine h2 ?_
        rw [List.nodup_append]
        refine ⟨hn, by simp, fun a ha b hb => ?_⟩
        rw [List.mem_singleton] at hb
        rintro rfl
        exact hf.2 (hb ▸ ha)
      · rw [h3]; simp; omega
      · intro x hx
        rcases h4 x hx with hx | hx
        · rcases List.mem_append.1 hx with hx | hx
          · exact .inl hx
          · rw [List.mem_singleton] at hx; subst hx; exact .inr hf.1
        · exact .inr hx
    · cases h
theorem nodup_le : ∀ (l l' : List Nat), l.Nodup → (∀ x ∈ l, x ∈ l') → l.length ≤ l'.length
  | [], l', _, _ => Nat.zero_le _
  | a :: l, l', hn, hs => by
    have ha : a ∈ l' := hs a (List.mem_cons_self ..)
    rw [List.nodup_cons] at hn
    have := nodup_le l (l'.erase a) hn.2 (fun x hx => (List.mem_erase_of_ne (fun (e : x = a) => hn.1 (e ▸ hx))).2 (hs x (List.mem_cons_of_mem _ hx)))
    rw [List.length_erase_of_mem ha] at this
    have hp : 0 < l'.length := List.length_pos_of_mem ha
    simp only [List.length_cons]
    omega
theorem nodup_lt {n : Nat} {l : List Nat} (hn : l.Nodup) (h : ∀ x ∈ l, x < n) : l.length ≤ n := by
  have := nodup_le l (List.range n) hn (fun x hx => List.mem_range.2 (h x hx))
  simpa using this
theorem live_lt {M : Mem} {x : Nat} (h : liveN M x = true) : x < M.L.length := by
  unfold liveN at h
  cases hx : M.L[x]? with
  | none => rw [hx] at h; cases h
  | some b => exact (List.getElem?_eq_some_iff.1 hx).1
/-- How many words are met in a world. -/
noncomputable def metLen (mb : Nat) (V : World) : Nat := by
  classical
  exact if h : ∃ met : List Nat, met.Nodup ∧ (∀ x ∈ met, x < 5000) ∧ IdsJ V mb (ones met) then h.choose.length else 0
theorem ids_sub {V : World} {mb : Nat} {l l' : List Nat} (h : IdsJ V mb (ones l)) (h' : IdsJ V mb (ones l')) (hl : ∀ x ∈ l, x < 5000) : ∀ x ∈ l, x ∈ l' := by
  intro x hx
  have h5 := hl x hx
  have e1 := h.run (k := x) (by omega) (t := 72) Try.underlying72
  have e2 := h'.run (k := x) (by omega) (t := 72) Try.underlying72
  rw [e1] at e2
  simp only [Result.ok.injEq, Value.int.injEq, true_and, and_true] at e2
  rw [atM_ones, atM_ones, if_pos hx] at e2
  by_cases hc : x ∈ l'
  · exact hc
  · rw [if_neg hc] at e2; omega
theorem metLen_eq {V : World} {mb : Nat} {met : List Nat} (h : IdsJ V mb (ones met)) (hn : met.Nodup) (hl : ∀ x ∈ met, x < 5000) : metLen mb V = met.length := by
  have hex : ∃ met : List Nat, met.Nodup ∧ (∀ x ∈ met, x < 5000) ∧ IdsJ V mb (ones met) := ⟨met, hn, hl, h⟩
  unfold metLen
  rw [dif_pos hex]
  obtain ⟨h1, h2, h3⟩ := hex.choose_spec
  exact Nat.le_antisymm (nodup_le _ _ h1 (ids_sub h3 h h2)) (nodup_le _ _ hn (ids_sub h h3 hl))
theorem Lst.keeps {Lb mb : Nat} {wa : Option Addr} {wc : Nat} {la : Option Addr} {lc n head : Nat} {M : Mem} {met : List Nat} {V V' : World} {kept : Nat → Prop} (h : Lst Lb mb wa wc la lc n head M met V) (hk : Keeps kept V V') (h1 : kept Lb) (h2 : kept mb) (h3 : ∀ b off, wa = some ⟨b, off, none⟩ → kept b) (h4 : ∀ b off, la = some ⟨b, off, none⟩ → kept b) : Lst Lb mb wa wc la lc n head M met V' := by
  have hlead : ∀ {a : Option Addr} {n cap : Nat} {cs : List Value}, Leads V a n cap cs → (∀ b off, a = some ⟨b, off, none⟩ → kept b) → Leads V' a n cap cs := by
    rintro a n cap cs ⟨q1, q2, ⟨q3, q4⟩ | ⟨b, off, q3, q4, q5⟩⟩ hka
    · exact ⟨q1, q2, .inl ⟨q3, q4⟩⟩
    · have hb := hk b (hka b off q3)
      refine ⟨q1, q2, .inr ⟨b, off, q3, ?_, fun i v hv => ?_⟩⟩
      · have : V'.heap[b]? = some V.heap[b] := by rw [hb]; exact Array.getElem?_eq_getElem q4
        exact lt_laid this
      · have := q5 i v hv
        unfold World.cell? at this ⊢
        rw [hb]
        exact this
  refine ⟨(hk _ h1).trans h.blk, ⟨hlead h.mem.w h3, hlead h.mem.l h4⟩, ?_⟩
  obtain ⟨es, clock, hb, F, hs, hD⟩ := h.ids
  exact ⟨es, clock, (hk _ h2).trans hb, F, hs, hD⟩
end Go.Proofs.Ytoihjmdpbbcbjaa
