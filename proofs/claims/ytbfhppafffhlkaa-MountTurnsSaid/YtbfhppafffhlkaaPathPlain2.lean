/- Plain laws on paths: a word's parts have just that word; the ways up are just what is ahead. -/
import Derived.Test.YtbfhppafffhlkaaPath9
namespace Go.Proofs.Ytbfhppafffhlkaa
open Go.RowKit
open Go.Proofs
set_option linter.unusedVariables false

theorem backGo_text : ∀ (f : Nat) (l : List UInt8), l.length ≤ f → l.contains 0 = false → backGo f (Pl.textN l) = l
  | f, [], _, _ => by cases f <;> simp [backGo, Pl.textN]
  | 0, _ :: _, h, _ => by simp at h
  | f + 1, c :: r, h, h0 => by
    have hc : c ≠ 0 := by rintro rfl; simp at h0
    have hr : r.contains 0 = false := by
      simp only [List.contains_cons, Bool.or_eq_false_iff] at h0
      exact h0.2
    have hlt := c.toNat_lt
    have hne : c.toNat ≠ 0 := fun e => hc (by apply UInt8.toNat_inj.1; simpa using e)
    have e1 : Pl.textN (c :: r) % 256 = c.toNat := by simp only [Pl.textN]; omega
    have e2 : Pl.textN (c :: r) / 256 = Pl.textN r := by simp only [Pl.textN]; omega
    unfold backGo
    rw [e1, e2, if_neg hne, backGo_text f r (by simpa using h) hr]
    congr 1
    exact UInt8.ofNat_toNat
theorem backL_text (l : List UInt8) (h : l.length ≤ 8) (h0 : l.contains 0 = false) : backL (Pl.textN l) = l := backGo_text 8 l h h0

theorem part_no47 (l : List UInt8) (h : partB l = true) : ∀ c ∈ l, (c != 47) = true ∧ c ≠ 0 := by
  unfold partB allL at h
  simp only [Bool.and_eq_true, List.all_eq_true] at h
  intro c hc
  have := h.1 c hc
  unfold letterB at this
  have h2 := of_decide_eq_true this
  refine ⟨?_, ?_⟩
  · rw [bne_iff_ne]; rintro rfl; simp at h2
  · rintro rfl; simp at h2
theorem part_ne (l : List UInt8) (h : partB l = true) : l ≠ [] := by rintro rfl; simp [partB] at h
theorem fw_part (l r : List UInt8) (h : partB l = true) : Pth.fw (l ++ 47 :: r) = l ∧ Pth.bw (l ++ 47 :: r) = 47 :: r := by
  have h1 := fun c hc => (part_no47 l h c hc).1
  unfold Pth.fw Pth.bw
  refine ⟨?_, ?_⟩
  · rw [List.takeWhile_append_of_pos h1]; simp
  · rw [List.dropWhile_append_of_pos h1]; simp
theorem fw_part' (l : List UInt8) (h : partB l = true) : Pth.fw l = l ∧ Pth.bw l = [] := by
  have h1 := fun c hc => (part_no47 l h c hc).1
  unfold Pth.fw Pth.bw
  refine ⟨?_, ?_⟩
  · have := List.takeWhile_append_of_pos (l₂ := []) h1; simpa using this
  · have := List.dropWhile_append_of_pos (l₂ := []) h1; simpa using this
theorem joinL_cons (l : List UInt8) (r : List (List UInt8)) : joinL (l :: r) = 47 :: l ++ (if r = [] then [] else joinL r) := Pth.join_cons l r
theorem segs_join : ∀ (qs : List (List UInt8)), qs.all partB = true → qs ≠ [] → Pth.segs (joinL qs) = qs
  | [], _, h => absurd rfl h
  | [l], h, _ => by
    have hl : partB l = true := by simpa using h
    rw [joinL_cons, if_pos rfl, List.append_nil, Pth.segs_cons, (fw_part' l hl).1, (fw_part' l hl).2]; rfl
  | l :: m :: r, h, _ => by
    simp only [List.all_cons, Bool.and_eq_true] at h
    have ih := segs_join (m :: r) (by simp [h.2.1, h.2.2]) (by simp)
    rw [joinL_cons, if_neg (by simp)]
    have e : joinL (m :: r) = 47 :: Lib.join (m :: r) [47] := rfl
    rw [List.cons_append, Pth.segs_cons, e, (fw_part l _ h.1).1, (fw_part l _ h.1).2, ← e, ih]
theorem joinL_len : ∀ (qs : List (List UInt8)), qs ≠ [] → (joinL qs).length = Pth.tot qs
  | [], h => absurd rfl h
  | [l], _ => by rw [joinL_cons, if_pos rfl]; simp [Pth.tot]
  | l :: m :: r, _ => by
    rw [joinL_cons, if_neg (by simp), List.length_append, joinL_len (m :: r) (by simp)]
    simp only [List.length_cons, Pth.tot]
theorem joinL_zero : ∀ (qs : List (List UInt8)), qs.all partB = true → (joinL qs).contains 0 = false
  | [], _ => by rfl
  | l :: r, h => by
    simp only [List.all_cons, Bool.and_eq_true] at h
    rw [joinL_cons]
    have h1 : l.contains 0 = false := by
      rw [Bool.eq_false_iff]
      intro hc
      exact (part_no47 l h.1 0 (by simpa using hc)).2 rfl
    have h2 : (if r = [] then ([] : List UInt8) else joinL r).contains 0 = false := by
      split
      · rfl
      · exact joinL_zero r h.2
    simp only [List.contains_cons, List.cons_append, List.contains_append] at *
    rw [h1, h2]; rfl
/-- Parts that may be: few, and short together. -/
theorem okL_iff (qs : List (List UInt8)) : okL qs = true ↔ qs.all partB = true ∧ Pth.tot qs ≤ 8 ∧ qs.length ≤ 4 := by
  unfold okL
  simp only [Bool.and_eq_true, decide_eq_true_eq, Bool.not_eq_true']
  constructor
  · rintro ⟨⟨⟨h1, h2⟩, h3⟩, h4⟩
    refine ⟨h4, ?_, h3⟩
    by_cases e : qs = []
    · rw [e]; exact Nat.zero_le _
    · rw [← joinL_len qs e]; exact h1
  · rintro ⟨h1, h2, h3⟩
    refine ⟨⟨⟨?_, joinL_zero qs h1⟩, h3⟩, h1⟩
    by_cases e : qs = []
    · rw [e]; decide
    · rw [joinL_len qs e]; exact h2
theorem rd_num (qs : List (List UInt8)) (h : okL qs = true) : rd (numL qs) = some qs := by
  have h0 := h
  obtain ⟨h1, h2, h3⟩ := (okL_iff qs).1 h
  have hz := joinL_zero qs h1
  have hl : (joinL qs).length ≤ 8 := by
    by_cases e : qs = []
    · rw [e]; decide
    · rw [joinL_len qs e]; exact h2
  have hn : numL qs = Pl.textN (joinL qs) := by unfold numL; rw [if_pos ⟨hl, hz⟩]
  have hb : backL (numL qs) = joinL qs := by rw [hn]; exact backL_text _ hl hz
  have hp : psOf (joinL qs) = qs := by
    unfold psOf
    by_cases e : qs = []
    · rw [e]; decide
    · rw [if_neg, segs_join qs h1 e]
      intro e2
      obtain ⟨l, r, rfl⟩ : ∃ l r, qs = l :: r := by cases qs with | nil => exact absurd rfl e | cons l r => exact ⟨l, r, rfl⟩
      simp only [List.all_cons, Bool.and_eq_true] at h1
      rw [joinL_cons] at e2
      have := part_ne l h1.1
      simp at e2
      exact this e2.1
  unfold rd
  rw [hb, hp, if_pos ⟨hn.symm, by unfold joinL; simp, h0, rfl⟩]
theorem okL_take (qs : List (List UInt8)) (k : Nat) (h : okL qs = true) : okL (qs.take k) = true := by
  obtain ⟨h1, h2, h3⟩ := (okL_iff qs).1 h
  refine (okL_iff _).2 ⟨?_, Nat.le_trans (tot_take qs k) h2, by rw [List.length_take]; omega⟩
  rw [List.all_eq_true] at *
  exact fun x hx => h1 x (List.mem_of_mem_take hx)

theorem ups_mem (ps : List (List UInt8)) (u : Nat) : u ∈ ups ps ↔ ∃ k, k ≤ ps.length ∧ u = numL (ps.take k) := by
  unfold ups
  rw [List.mem_map]
  constructor
  · rintro ⟨k, hk, rfl⟩; exact ⟨ps.length - k, by omega, rfl⟩
  · rintro ⟨k, hk, rfl⟩; exact ⟨ps.length - k, by rw [List.mem_range]; omega, by rw [show ps.length - (ps.length - k) = k by omega]⟩
theorem aheadL_take (ps : List (List UInt8)) (k : Nat) : aheadL (ps.take k) ps = true := by
  unfold aheadL
  refine decide_eq_true ?_
  rw [List.length_take]
  by_cases h : k ≤ ps.length
  · rw [Nat.min_eq_left h]
  · rw [Nat.min_eq_right (by omega), List.take_of_length_le (by omega), List.take_of_length_le (Nat.le_refl _)]
/-- The ways up are just what is ahead. -/
theorem ahead_ups (x : Nat) (ps : List (List UInt8)) (h : rd x = some ps) (b : Nat) : aheadB b x = decide (b ∈ ups ps) := by
  obtain ⟨-, -, -, hok, hnum, -, -⟩ := rd_some h
  rw [Bool.eq_iff_iff, decide_eq_true_iff, ups_mem]
  unfold aheadB
  rw [h]
  constructor
  · intro ha
    cases hb : rd b with
    | none => rw [hb] at ha; cases ha
    | some q =>
      rw [hb] at ha
      have e := of_decide_eq_true ha
      have hl := congrArg List.length e
      rw [List.length_take] at hl
      exact ⟨q.length, by omega, by rw [← e]; exact (rd_some hb).2.2.2.2.1.symm⟩
  · rintro ⟨k, hk, rfl⟩
    rw [rd_num _ (okL_take ps k hok)]
    exact aheadL_take ps k
theorem ups_head (x : Nat) (ps : List (List UInt8)) (h : rd x = some ps) : (ups ps)[0]? = some x := by
  obtain ⟨-, -, -, hok, hnum, -, -⟩ := rd_some h
  unfold ups
  rw [List.getElem?_map, List.getElem?_range (by omega)]
  simp [hnum]
theorem ups_lt (x : Nat) (ps : List (List UInt8)) (h : rd x = some ps) (u : Nat) (hu : u ∈ ups ps) : u < 18446744073709551616 := by
  obtain ⟨k, hk, rfl⟩ := (ups_mem ps u).1 hu
  unfold numL
  split
  · rename_i h; exact textN_u64 _ h.1
  · decide
theorem self_ups (x : Nat) (ps : List (List UInt8)) (h : rd x = some ps) : x ∈ ups ps := List.mem_of_getElem? (ups_head x ps h)
theorem ahead_none (x b : Nat) (h : rd x = none) : aheadB x b = false ∧ aheadB b x = false := by
  unfold aheadB
  rw [h]
  refine ⟨rfl, ?_⟩
  cases rd b <;> rfl
/-- Of two that are ahead of a third, one is ahead of the other. -/
theorem ahead_two (x a b : Nat) (ha : aheadB a x = true) (hb : aheadB b x = true) : aheadB a b = true ∨ aheadB b a = true := by
  unfold aheadB at *
  cases hx : rd x with
  | none => rw [hx] at ha; cases h : rd a <;> rw [h] at ha <;> cases ha
  | some ps =>
    cases h1 : rd a with
    | none => rw [h1] at ha; cases ha
    | some p =>
      cases h2 : rd b with
      | none => rw [h2] at hb; cases hb
      | some q =>
        rw [h1, hx] at ha
        rw [h2, hx] at hb
        have e1 := of_decide_eq_true ha
        have e2 := of_decide_eq_true hb
        dsimp only
        rcases Nat.le_total p.length q.length with hl | hl
        · left; unfold aheadL; refine decide_eq_true ?_; rw [e2, List.take_take, Nat.min_eq_left hl, ← e1]
        · right; unfold aheadL; refine decide_eq_true ?_; rw [e1, List.take_take, Nat.min_eq_left hl, ← e2]
end Go.Proofs.Ytbfhppafffhlkaa
