/- Several texts in one. -/
import Derived.Test.YtahicokokfcieaaDoorTgAs
import Derived.Test.YtahicokokfcieaaDoorTgAq
namespace Go.Proofs.YtahicokokfcieaaDoor
open Go.RowKit
open Go.Proofs
set_option linter.unusedVariables false

def rdL (W : List Nat) (a : Nat) : Nat := W.getD a 0
theorem rdL_set {W : List Nat} {j v i : Nat} (hj : j < W.length) : rdL (W.set j v) i = if i = j then v else rdL W i := by
  unfold rdL
  rw [List.getD_eq_getElem?_getD, List.getD_eq_getElem?_getD, List.getElem?_set]
  by_cases h : j = i
  · subst h; rw [if_pos rfl, if_pos hj, if_pos rfl]; rfl
  · rw [if_neg h, if_neg (fun e => h e.symm)]
theorem rdL_same {W : List Nat} {j v : Nat} (hj : j < W.length) : rdL (W.set j v) j = v := by rw [rdL_set hj, if_pos rfl]
theorem rdL_other {W : List Nat} {j v i : Nat} (hj : j < W.length) (h : i ≠ j) : rdL (W.set j v) i = rdL W i := by rw [rdL_set hj, if_neg h]
abbrev w4L (x : Nd) : List Nat := [posL x.1 0, posL x.1 1, posL x.1 2, posL x.1 3]
def wlL (xs : List Nd) : List Nat := xs.flatMap fun x => [posL x.1 0, posL x.1 1, posL x.1 2, posL x.1 3]
theorem wlL_cons (t : Nd) (xs : List Nd) : wlL (t :: xs) = w4L t ++ wlL xs := by simp [wlL]
theorem wlL_append (xs ys : List Nd) : wlL (xs ++ ys) = wlL xs ++ wlL ys := by simp [wlL]
theorem wordsL_eq (head : Nat) (xs : List Nd) : wordsL head xs = posL head 0 :: wlL xs := rfl
theorem mem_w4L (t : Nd) (k : Nat) (hk : k < 4) : posL t.1 k ∈ w4L t := by
  match k, hk with
  | 0, _ => simp
  | 1, _ => simp
  | 2, _ => simp
  | 3, _ => simp
theorem mem_wlL {t : Nd} {xs : List Nd} (h : t ∈ xs) (k : Nat) (hk : k < 4) : posL t.1 k ∈ wlL xs := List.mem_flatMap.2 ⟨t, h, mem_w4L t k hk⟩
/-- Links that lead on from a word. -/
def lnkL (W : List Nat) : Nat → List Nd → Prop
  | a, [] => rdL W a = 0
  | a, t :: ts => rdL W a = t.1 ∧ t.1 ≠ 0 ∧ rdL W (posL t.1 0) = t.2.1 ∧ rdL W (posL t.1 1) = t.2.2.1 ∧ rdL W (posL t.1 3) = t.2.2.2 ∧ lnkL W (posL t.1 2) ts
theorem lnk_of {M : Mem} : ∀ (xs : List Nd) (a : Nat), ChainP M (rdL M.W a) xs → lnkL M.W a xs
  | [], a, h => h
  | x :: r, a, h => by
    obtain ⟨h1, h2, h3, h4⟩ := h
    have e : x.1 = rdL M.W a := by rw [h1]; rfl
    refine ⟨e.symm, by rw [e]; exact h2, ?_, ?_, ?_, lnk_of r _ ?_⟩
    · rw [e]; rw [h1]; rfl
    · rw [e]; rw [h1]; rfl
    · rw [e]; rw [h1]; rfl
    · rw [e]; exact h4
theorem lnk_to {M : Mem} : ∀ (xs : List Nd) (a : Nat), lnkL M.W a xs → (∀ w ∈ wlL xs, liveN M w = true) → ChainP M (rdL M.W a) xs
  | [], a, h, _ => h
  | x :: r, a, h, hl => by
    obtain ⟨h1, h2, h3, h4, h5, h6⟩ := h
    have hx : x = ndAt M (rdL M.W a) := by
      rw [h1]
      show x = (x.1, rdL M.W (posL x.1 0), rdL M.W (posL x.1 1), rdL M.W (posL x.1 3))
      rw [h3, h4, h5]
    refine ⟨hx, by rw [h1]; exact h2, fun k hk => ?_, ?_⟩
    · rw [h1]; exact hl _ (mem_wlL (List.mem_cons_self ..) k hk)
    · rw [h1]; exact lnk_to r _ h6 (fun w hw => hl w (by rw [wlL_cons]; exact List.mem_append_right _ hw))
theorem takeP_mk (M : Mem) (p : Nat) : ∀ (ks met : List Nat), (met ++ ks.map (posL p)).Nodup → (∀ k ∈ ks, liveN M (posL p k) = true) → takeP M p ks met = some (met ++ ks.map (posL p))
  | [], met, hn, hl => by simp [takeP]
  | k :: ks, met, hn, hl => by
    unfold takeP
    have h1 : posL p k ∉ met := by
      intro hm
      rw [List.nodup_append] at hn
      exact hn.2.2 _ hm _ (List.mem_map.2 ⟨k, List.mem_cons_self, rfl⟩) rfl
    rw [if_pos (by unfold freeB; rw [hl k List.mem_cons_self, decide_eq_false h1]; rfl)]
    rw [takeP_mk M p ks _ (by simpa using hn) (fun j hj => hl j (List.mem_cons_of_mem _ hj))]
    simp
theorem goW_mk {M : Mem} : ∀ (new : List Nd) (f place : Nat) (met : List Nat) (out : List Nd), ChainP M place new → (met ++ wlL new).Nodup → new.length < f → goW M f place met out = some (out ++ new)
  | _, 0, _, _, _, _, _, hf => by omega
  | [], f + 1, place, met, out, h1, hn, hf => by
    have h0 : place = 0 := h1
    subst h0
    rw [goW_zero]; simp
  | t :: ts, f + 1, place, met, out, h1, hn, hf => by
    obtain ⟨q1, q2, q3, q4⟩ := h1
    have e : t.1 = place := by rw [q1]; rfl
    rw [wlL_cons] at hn
    have hr : (List.range 4).map (posL place) = w4L t := by rw [← e]; rfl
    have ht := takeP_mk M place (List.range 4) met (by rw [hr]; rw [← List.append_assoc] at hn; exact (List.nodup_append.1 hn).1) (fun k hk => q3 k (List.mem_range.1 hk))
    rw [goW_some q2 ht, hr]
    rw [goW_mk ts f (wAt M place 2) (met ++ w4L t) (out ++ [ndAt M place]) q4 (by rw [List.append_assoc]; exact hn) (by simp at hf; omega)]
    rw [← q1]; simp
/-- A list lies so. -/
structure ChainL (M : Mem) (head : Nat) (xs : List Nd) : Prop where
  nd : (wordsL head xs).Nodup
  live : ∀ w ∈ wordsL head xs, liveN M w = true
  fw : lnkL M.W (posL head 0) xs
  inc : incr xs = true
theorem chain_of {M : Mem} {head : Nat} {xs : List Nd} (h : nodesR M head = some xs) : ChainL M head xs := by
  obtain ⟨hw, hi⟩ := nodesR_some h
  obtain ⟨h1, h2⟩ := nodesW_words hw
  exact ⟨h1, h2, lnk_of _ _ (nodesW_chain hw).2, hi⟩
theorem chain_len {M : Mem} {head : Nat} {xs : List Nd} (hok : okM M = true) (h : ChainL M head xs) : 4 * xs.length + 1 ≤ 4096 := by
  obtain ⟨q1, q2, q3, -⟩ := okM_spec hok
  have := nodup_lt (n := M.L.length) h.nd (fun x hx => live_lt (h.live x hx))
  have e : (wordsL head xs).length = 4 * xs.length + 1 := by unfold wordsL; rw [List.length_cons, flat4_len]
  omega
theorem of_chain {M : Mem} {head : Nat} {xs : List Nd} (hok : okM M = true) (h : ChainL M head xs) : nodesR M head = some xs := by
  have hl := chain_len hok h
  have h0 : liveN M (posL head 0) = true := h.live _ (List.mem_cons_self ..)
  have ht := takeP_mk M head [0] [] (by simp) (fun k hk => by simp at hk; subst hk; exact h0)
  have hg := goW_mk xs 4101 (wAt M head 0) ([] ++ [0].map (posL head)) [] (lnk_to _ _ h.fw (fun w hw => h.live w (List.mem_cons_of_mem _ hw))) h.nd (by omega)
  unfold nodesR
  rw [nodesW_some ht, hg]
  dsimp only
  rw [List.nil_append, if_pos h.inc]
/-- Links that lead on from a word to another one. -/
def segL (W : List Nat) : Nat → List Nd → Prop
  | _, [] => True
  | a, t :: ts => rdL W a = t.1 ∧ t.1 ≠ 0 ∧ rdL W (posL t.1 0) = t.2.1 ∧ rdL W (posL t.1 1) = t.2.2.1 ∧ rdL W (posL t.1 3) = t.2.2.2 ∧ segL W (posL t.1 2) ts
def endL : Nat → List Nd → Nat
  | a, [] => a
  | _, t :: ts => endL (posL t.1 2) ts
def fstL : List Nd → Nat
  | [] => 0
  | t :: _ => t.1
theorem lnk_append {W : List Nat} : ∀ (l1 l2 : List Nd) (a : Nat), lnkL W a (l1 ++ l2) ↔ segL W a l1 ∧ lnkL W (endL a l1) l2
  | [], l2, a => by simp [segL, endL]
  | t :: ts, l2, a => by
    show (rdL W a = t.1 ∧ _ ∧ _ ∧ _ ∧ _ ∧ lnkL W (posL t.1 2) (ts ++ l2)) ↔ (rdL W a = t.1 ∧ _ ∧ _ ∧ _ ∧ _ ∧ segL W (posL t.1 2) ts) ∧ lnkL W (endL (posL t.1 2) ts) l2
    rw [lnk_append ts l2]
    constructor
    · rintro ⟨a1, a2, a3, a4, a5, a6, a7⟩; exact ⟨⟨a1, a2, a3, a4, a5, a6⟩, a7⟩
    · rintro ⟨⟨a1, a2, a3, a4, a5, a6⟩, a7⟩; exact ⟨a1, a2, a3, a4, a5, a6, a7⟩
theorem lnk_fst {W : List Nat} {a : Nat} {xs : List Nd} (h : lnkL W a xs) : rdL W a = fstL xs := by
  cases xs with
  | nil => exact h
  | cons t ts => exact h.1
theorem endL_mem : ∀ (l : List Nd) (a : Nat), endL a l ∈ a :: wlL l
  | [], a => List.mem_cons_self ..
  | t :: ts, a => by
    have := endL_mem ts (posL t.1 2)
    rw [wlL_cons]
    rcases List.mem_cons.1 this with h | h
    · show endL (posL t.1 2) ts ∈ _
      rw [h]; simp
    · exact List.mem_cons_of_mem _ (List.mem_append_right _ h)
theorem lnk_congr {W W' : List Nat} : ∀ (xs : List Nd) (a a' : Nat), lnkL W a xs → rdL W' a' = rdL W a → (∀ w ∈ wlL xs, rdL W' w = rdL W w) → lnkL W' a' xs
  | [], a, a', h, e, _ => by show rdL W' a' = 0; rw [e]; exact h
  | t :: ts, a, a', h, e, hw => by
    obtain ⟨q1, q2, q3, q4, q5, q6⟩ := h
    rw [wlL_cons] at hw
    have hm := fun k hk => hw _ (List.mem_append_left _ (mem_w4L t k hk))
    exact ⟨by rw [e]; exact q1, q2, by rw [hm 0 (by decide)]; exact q3, by rw [hm 1 (by decide)]; exact q4, by rw [hm 3 (by decide)]; exact q5, lnk_congr ts _ _ q6 (hm 2 (by decide)) (fun w h => hw w (List.mem_append_right _ h))⟩
theorem seg_congr {W W' : List Nat} : ∀ (l : List Nd) (a : Nat), segL W a l → (a :: wlL l).Nodup → (∀ w ∈ a :: wlL l, w ≠ endL a l → rdL W' w = rdL W w) → segL W' a l
  | [], a, h, _, _ => trivial
  | t :: ts, a, h, hn, hw => by
    obtain ⟨q1, q2, q3, q4, q5, q6⟩ := h
    have hE := endL_mem ts (posL t.1 2)
    have hn' := hn
    rw [wlL_cons] at hn'
    have hnn : (a :: posL t.1 0 :: posL t.1 1 :: posL t.1 2 :: posL t.1 3 :: wlL ts).Nodup := by simpa using hn'
    simp only [List.nodup_cons, List.mem_cons, not_or] at hnn
    obtain ⟨⟨a0, a1, a2, a3, a4⟩, ⟨b1, b2, b3, b4⟩, ⟨c2, c3, c4⟩, ⟨d3, d4⟩, e4, f⟩ := hnn
    have hE' : endL (posL t.1 2) ts = posL t.1 2 ∨ endL (posL t.1 2) ts ∈ wlL ts := List.mem_cons.1 hE
    have off : ∀ w, w ≠ posL t.1 2 → w ∉ wlL ts → w ≠ endL a (t :: ts) := by
      intro w h1 h2 h3
      have h3 : w = endL (posL t.1 2) ts := h3
      rcases hE' with h4 | h4
      · exact h1 (by rw [h3, h4])
      · exact h2 (by rw [h3]; exact h4)
    have mem : ∀ k, k < 4 → posL t.1 k ∈ a :: wlL (t :: ts) := fun k hk => List.mem_cons_of_mem _ (by rw [wlL_cons]; exact List.mem_append_left _ (mem_w4L t k hk))
    refine ⟨by rw [hw a (List.mem_cons_self ..) (off a a2 a4)]; exact q1, q2, ?_, ?_, ?_, seg_congr ts _ q6 ?_ ?_⟩
    · rw [hw _ (mem 0 (by decide)) (off _ (by omega) b4)]; exact q3
    · rw [hw _ (mem 1 (by decide)) (off _ (by omega) c4)]; exact q4
    · rw [hw _ (mem 3 (by decide)) (off _ (by omega) e4)]; exact q5
    · exact List.nodup_cons.2 ⟨d4, f⟩
    · intro w h1 h2
      refine hw w ?_ h2
      rcases List.mem_cons.1 h1 with h1 | h1
      · rw [h1]; exact mem 2 (by decide)
      · exact List.mem_cons_of_mem _ (by rw [wlL_cons]; exact List.mem_append_right _ h1)
/-- The words of a list that is in two parts. -/
theorem words_append (head : Nat) (l1 l2 : List Nd) : wordsL head (l1 ++ l2) = (posL head 0 :: wlL l1) ++ wlL l2 := by rw [wordsL_eq, wlL_append]; simp
theorem lnk_ins {W W' : List Nat} {head : Nat} {l1 l2 : List Nd} {t : Nd} (hn : (wordsL head (l1 ++ l2)).Nodup) (hf : lnkL W (posL head 0) (l1 ++ l2)) (ht0 : t.1 ≠ 0)
    (hk : ∀ w ∈ wordsL head (l1 ++ l2), w ≠ endL (posL head 0) l1 → rdL W' w = rdL W w) (hE : rdL W' (endL (posL head 0) l1) = t.1)
    (h0 : rdL W' (posL t.1 0) = t.2.1) (h1 : rdL W' (posL t.1 1) = t.2.2.1) (h3 : rdL W' (posL t.1 3) = t.2.2.2) (h2 : rdL W' (posL t.1 2) = fstL l2) : lnkL W' (posL head 0) (l1 ++ t :: l2) := by
  rw [lnk_append] at hf ⊢
  rw [words_append] at hn hk
  obtain ⟨f1, f2⟩ := hf
  obtain ⟨n1, n2, n3⟩ := List.nodup_append.1 hn
  refine ⟨seg_congr _ _ f1 n1 (fun w hw => hk w (List.mem_append_left _ hw)), hE, ht0, h0, h1, h3, lnk_congr l2 _ _ f2 (by rw [h2, lnk_fst f2]) (fun w hw => hk w (List.mem_append_right _ hw) (fun e => n3 _ (endL_mem l1 _) _ hw e.symm))⟩
theorem lnk_rem {W W' : List Nat} {head : Nat} {l1 l2 : List Nd} {t : Nd} (hn : (wordsL head (l1 ++ t :: l2)).Nodup) (hf : lnkL W (posL head 0) (l1 ++ t :: l2))
    (hk : ∀ w ∈ wordsL head (l1 ++ t :: l2), w ≠ endL (posL head 0) l1 → rdL W' w = rdL W w) (hE : rdL W' (endL (posL head 0) l1) = fstL l2) : lnkL W' (posL head 0) (l1 ++ l2) := by
  rw [lnk_append] at hf ⊢
  rw [words_append] at hn hk
  obtain ⟨f1, -, -, -, -, -, f2⟩ := hf
  obtain ⟨n1, n2, n3⟩ := List.nodup_append.1 hn
  refine ⟨seg_congr _ _ f1 n1 (fun w hw => hk w (List.mem_append_left _ hw)), lnk_congr l2 _ _ f2 (by rw [hE, lnk_fst f2]) (fun w hw => ?_)⟩
  have hw' : w ∈ wlL (t :: l2) := by rw [wlL_cons]; exact List.mem_append_right _ hw
  exact hk w (List.mem_append_right _ hw') (fun e => n3 _ (endL_mem l1 _) _ hw' e.symm)
/-- What is cut leads on to where it led. -/
theorem lnk_mid {W : List Nat} {a : Nat} {l1 l2 : List Nd} {t : Nd} (hf : lnkL W a (l1 ++ t :: l2)) : rdL W (posL t.1 2) = fstL l2 := by
  rw [lnk_append] at hf
  exact lnk_fst hf.2.2.2.2.2.2
/-- Order. -/
theorem ahead_trans {a b c : Nd} (h : aheadN a b = true) (h' : aheadN b c = true) : aheadN a c = true := by
  unfold aheadN at *
  simp only [Bool.or_eq_true, Bool.and_eq_true, decide_eq_true_eq] at *
  omega
theorem ahead_iff (a b : Nd) : aheadN a b = true ↔ a.2.2.2 < b.2.2.2 ∨ (a.2.2.2 = b.2.2.2 ∧ a.2.1 < b.2.1) := by
  unfold aheadN
  simp only [Bool.or_eq_true, Bool.and_eq_true, decide_eq_true_eq]
theorem incr_pw : ∀ xs : List Nd, incr xs = true ↔ xs.Pairwise (fun a b => aheadN a b = true)
  | [] => by simp [incr]
  | [x] => by simp [incr]
  | x :: y :: r => by
    have ih := incr_pw (y :: r)
    unfold incr
    rw [Bool.and_eq_true, ih, List.pairwise_cons (l := y :: r)]
    constructor
    · rintro ⟨h1, h2⟩
      refine ⟨fun z hz => ?_, h2⟩
      rcases List.mem_cons.1 hz with rfl | hz
      · exact h1
      · exact ahead_trans h1 ((List.pairwise_cons.1 h2).1 z hz)
    · rintro ⟨h1, h2⟩
      exact ⟨h1 y (List.mem_cons_self ..), h2⟩
/-- The address of a list's last link. -/
def endA : Nat → List Nd → Nat
  | a, [] => a
  | _, t :: ts => endA (t.1 + 2) ts
theorem endA_word {M : Mem} (hok : okM M = true) : ∀ (l : List Nd) (a : Nat), (∀ w ∈ wlL l, liveN M w = true) → posL (endA a l) 0 = endL (posL a 0) l
  | [], a, _ => rfl
  | t :: ts, a, h => by
    rw [wlL_cons] at h
    have hl := h _ (List.mem_append_left _ (mem_w4L t 2 (by decide)))
    obtain ⟨q1, q2, q3⟩ := live_small hok hl
    obtain ⟨o1, o2, -⟩ := okM_spec hok
    have := endA_word hok ts (t.1 + 2) (fun w hw => h w (List.mem_append_right _ hw))
    show posL (endA (t.1 + 2) ts) 0 = endL (posL t.1 2) ts
    rw [this]
    have e : posL (t.1 + 2) 0 = posL t.1 2 := by rw [q2]; unfold posL; omega
    rw [e]
/-- Where who seeks stands: in front of it all is ahead. -/
theorem findS_split (hash key : Nat) : ∀ (link : Nat) (xs : List Nd), ∃ l1 l2, xs = l1 ++ l2 ∧ (findS hash key link xs).1.link = endA link l1 ∧ (findS hash key link xs).1.node = fstL l2 ∧
    (∀ x ∈ l1, x.2.2.2 < hash ∨ (x.2.2.2 = hash ∧ x.2.1 < key)) ∧
    ((findS hash key link xs).1.found = false → ∀ x r, l2 = x :: r → hash < x.2.2.2 ∨ (hash = x.2.2.2 ∧ key < x.2.1)) ∧
    ((findS hash key link xs).1.found = true → ∃ x r, l2 = x :: r ∧ x.2.1 = key ∧ x.2.2.2 = hash ∧ (findS hash key link xs).1.val = x.2.2.1)
  | link, [] => ⟨[], [], rfl, rfl, rfl, by simp, by intro _ x r h; (cases h), by intro h; cases h⟩
  | link, x :: r => by
    obtain ⟨l1, l2, e1, e2, e3, e4, e5, e6⟩ := findS_split hash key (x.1 + 2) r
    have on : (x.2.2.2 < hash ∨ (x.2.2.2 = hash ∧ x.2.1 < key)) → ∀ y ∈ x :: l1, y.2.2.2 < hash ∨ (y.2.2.2 = hash ∧ y.2.1 < key) := by
      intro h y hy
      rcases List.mem_cons.1 hy with rfl | hy
      · exact h
      · exact e4 y hy
    unfold findS
    split
    · exact ⟨x :: l1, l2, by rw [e1]; rfl, e2, e3, on (by omega), e5, e6⟩
    · split
      · exact ⟨[], x :: r, rfl, rfl, rfl, by simp, (by intro _ y s h; cases h; omega), by intro h; cases h⟩
      · split
        · exact ⟨x :: l1, l2, by rw [e1]; rfl, e2, e3, on (by omega), e5, e6⟩
        · split
          · exact ⟨[], x :: r, rfl, rfl, rfl, by simp, (by intro _ y s h; cases h; omega), by intro h; cases h⟩
          · exact ⟨[], x :: r, rfl, rfl, rfl, by simp, (by intro h; cases h), fun _ => ⟨x, r, rfl, by omega, by omega, rfl⟩⟩
/-- Who is in a list in order is found there. -/
theorem findS_in {hash key link : Nat} {xs : List Nd} (hi : incr xs = true) {x : Nd} (hx : x ∈ xs) (hk : x.2.1 = key) (hh : x.2.2.2 = hash) : (findS hash key link xs).1.found = true ∧ (findS hash key link xs).1.node = x.1 ∧ (findS hash key link xs).1.val = x.2.2.1 := by
  obtain ⟨l1, l2, e1, e2, e3, e4, e5, e6⟩ := findS_split hash key link xs
  have hp := (incr_pw xs).1 hi
  rw [e1] at hp hx
  obtain ⟨p1, p2, p3⟩ := List.pairwise_append.1 hp
  rcases List.mem_append.1 hx with h | h
  · have := e4 x h; omega
  · cases l2 with
    | nil => cases h
    | cons y r =>
      have hy : ∀ z ∈ r, aheadN y z = true := (List.pairwise_cons.1 p2).1
      cases hf : (findS hash key link xs).1.found with
      | false =>
        have q := e5 hf y r rfl
        rcases List.mem_cons.1 h with rfl | h
        · omega
        · have := (ahead_iff _ _).1 (hy x h); omega
      | true =>
        obtain ⟨y', r', e, q1, q2, q3⟩ := e6 hf
        cases e
        rcases List.mem_cons.1 h with rfl | h
        · exact ⟨rfl, e3, q3⟩
        · have := (ahead_iff _ _).1 (hy x h); omega
/-- Put in where who seeks stands, the list stays in order. -/
theorem incr_ins {l1 l2 : List Nd} {t : Nd} (hi : incr (l1 ++ l2) = true) (h1 : ∀ x ∈ l1, x.2.2.2 < t.2.2.2 ∨ (x.2.2.2 = t.2.2.2 ∧ x.2.1 < t.2.1)) (h2 : ∀ x r, l2 = x :: r → t.2.2.2 < x.2.2.2 ∨ (t.2.2.2 = x.2.2.2 ∧ t.2.1 < x.2.1)) : incr (l1 ++ t :: l2) = true := by
  rw [incr_pw] at hi ⊢
  obtain ⟨p1, p2, p3⟩ := List.pairwise_append.1 hi
  have ht : ∀ y ∈ l2, aheadN t y = true := by
    intro y hy
    cases l2 with
    | nil => cases hy
    | cons z r =>
      have hz := (ahead_iff t z).2 (h2 z r rfl)
      rcases List.mem_cons.1 hy with rfl | hy
      · exact hz
      · exact ahead_trans hz ((List.pairwise_cons.1 p2).1 y hy)
  refine List.pairwise_append.2 ⟨p1, List.pairwise_cons.2 ⟨ht, p2⟩, fun a ha b hb => ?_⟩
  rcases List.mem_cons.1 hb with rfl | hb
  · exact (ahead_iff _ _).2 (h1 a ha)
  · exact p3 a ha b hb
theorem incr_rem {l1 l2 : List Nd} {t : Nd} (hi : incr (l1 ++ t :: l2) = true) : incr (l1 ++ l2) = true ∧ ∀ x ∈ l1 ++ l2, ¬(x.2.1 = t.2.1 ∧ x.2.2.2 = t.2.2.2) := by
  rw [incr_pw] at hi ⊢
  obtain ⟨p1, p2, p3⟩ := List.pairwise_append.1 hi
  obtain ⟨q1, q2⟩ := List.pairwise_cons.1 p2
  refine ⟨List.pairwise_append.2 ⟨p1, q2, fun a ha b hb => p3 a ha b (List.mem_cons_of_mem _ hb)⟩, fun x hx => ?_⟩
  rcases List.mem_append.1 hx with h | h
  · have := (ahead_iff _ _).1 (p3 x h t (List.mem_cons_self ..)); omega
  · have := (ahead_iff _ _).1 (q1 x h); omega
theorem incr_mid {l1 l2 : List Nd} {t : Nd} (hi : incr (l1 ++ t :: l2) = true) : t ∉ l1 := by
  rw [incr_pw] at hi
  obtain ⟨p1, p2, p3⟩ := List.pairwise_append.1 hi
  intro h
  have := (ahead_iff _ _).1 (p3 t h t (List.mem_cons_self ..)); omega
end Go.Proofs.YtahicokokfcieaaDoor
namespace Go.Proofs.YtahicokokfcieaaDoor
open Go.RowKit
open Go.Proofs
set_option linter.unusedVariables false

/-- Words that a list does not have may be written. -/
theorem chain_other {M : Mem} {head : Nat} {xs : List Nd} {W : List Nat} {F : Bool} (h : ChainL M head xs) (hw : ∀ w ∈ wordsL head xs, rdL W w = rdL M.W w) : ChainL ⟨W, M.L, F⟩ head xs :=
  ⟨h.nd, h.live, lnk_congr xs _ _ h.fw (hw _ (List.mem_cons_self ..)) (fun w hm => hw w (List.mem_cons_of_mem _ hm)), h.inc⟩
theorem words_ins {head : Nat} {l1 l2 : List Nd} {t : Nd} (w : Nat) : w ∈ wordsL head (l1 ++ t :: l2) ↔ w ∈ w4L t ∨ w ∈ wordsL head (l1 ++ l2) := by
  rw [wordsL_eq, wordsL_eq, wlL_append, wlL_append, wlL_cons]
  simp only [List.mem_cons, List.mem_append]
  constructor
  · rintro (h | h | h | h)
    · exact .inr (.inl h)
    · exact .inr (.inr (.inl h))
    · exact .inl (by simpa using h)
    · exact .inr (.inr (.inr h))
  · rintro (h | h | h | h)
    · exact .inr (.inr (.inl (by simpa using h)))
    · exact .inl h
    · exact .inr (.inl h)
    · exact .inr (.inr (.inr h))
theorem posL_ne {p j k : Nat} (h : j ≠ k) : posL p j ≠ posL p k := by unfold posL; omega
theorem nodup_ins {head : Nat} {l1 l2 : List Nd} {t : Nd} (hn : (wordsL head (l1 ++ l2)).Nodup) (ht : ∀ k, k < 4 → posL t.1 k ∉ wordsL head (l1 ++ l2)) : (wordsL head (l1 ++ t :: l2)).Nodup := by
  have hp : (wordsL head (l1 ++ t :: l2)).Perm (w4L t ++ wordsL head (l1 ++ l2)) := by
    rw [wordsL_eq, wordsL_eq, wlL_append, wlL_append, wlL_cons]
    have h1 : (wlL l1 ++ (w4L t ++ wlL l2)).Perm (w4L t ++ (wlL l1 ++ wlL l2)) := by
      rw [← List.append_assoc, ← List.append_assoc]
      exact List.Perm.append_right _ List.perm_append_comm
    exact (List.Perm.cons _ h1).trans List.perm_middle.symm
  rw [hp.nodup_iff, List.nodup_append]
  refine ⟨?_, hn, ?_⟩
  · simp only [List.nodup_cons, List.mem_cons, List.not_mem_nil, not_or, or_false, not_false_eq_true, List.nodup_nil, and_true]
    exact ⟨⟨posL_ne (by decide), posL_ne (by decide), posL_ne (by decide)⟩, ⟨posL_ne (by decide), posL_ne (by decide)⟩, posL_ne (by decide)⟩
  · intro a ha b hb e
    subst e
    simp only [List.mem_cons, List.not_mem_nil, or_false] at ha
    rcases ha with rfl | rfl | rfl | rfl
    · exact ht 0 (by decide) hb
    · exact ht 1 (by decide) hb
    · exact ht 2 (by decide) hb
    · exact ht 3 (by decide) hb
theorem nodup_rem {head : Nat} {l1 l2 : List Nd} {t : Nd} (hn : (wordsL head (l1 ++ t :: l2)).Nodup) : (wordsL head (l1 ++ l2)).Nodup := by
  rw [wordsL_eq, wlL_append, wlL_cons] at hn
  rw [wordsL_eq, wlL_append]
  have hs : (posL head 0 :: (wlL l1 ++ wlL l2)).Sublist (posL head 0 :: (wlL l1 ++ (w4L t ++ wlL l2))) := List.Sublist.cons_cons _ (List.Sublist.append_left (List.sublist_append_right _ _) _)
  exact hs.nodup hn
/-- The words that are stored one after another. -/
def putW (M : Mem) (t : Nd) (next : Nat) : Nat → List Nat
  | 0 => M.W
  | 1 => M.W.set (posL t.1 0) t.2.1
  | 2 => (M.W.set (posL t.1 0) t.2.1).set (posL t.1 1) t.2.2.1
  | 3 => ((M.W.set (posL t.1 0) t.2.1).set (posL t.1 1) t.2.2.1).set (posL t.1 3) t.2.2.2
  | _ => (((M.W.set (posL t.1 0) t.2.1).set (posL t.1 1) t.2.2.1).set (posL t.1 3) t.2.2.2).set (posL t.1 2) next
theorem putW_other {M : Mem} {t : Nd} {next : Nat} (hl : ∀ k, k < 4 → posL t.1 k < M.W.length) (k w : Nat) (hw : ∀ j, j < 4 → w ≠ posL t.1 j) : rdL (putW M t next k) w = rdL M.W w := by
  have h0 := hl 0 (by decide)
  have h1 := hl 1 (by decide)
  have h2 := hl 2 (by decide)
  have h3 := hl 3 (by decide)
  have g0 := hw 0 (by decide)
  have g1 := hw 1 (by decide)
  have g2 := hw 2 (by decide)
  have g3 := hw 3 (by decide)
  have e1 : rdL (M.W.set (posL t.1 0) t.2.1) w = rdL M.W w := rdL_other h0 g0
  have e2 : rdL ((M.W.set (posL t.1 0) t.2.1).set (posL t.1 1) t.2.2.1) w = rdL M.W w := by rw [rdL_other (by simpa using h1) g1]; exact e1
  have e3 : rdL (((M.W.set (posL t.1 0) t.2.1).set (posL t.1 1) t.2.2.1).set (posL t.1 3) t.2.2.2) w = rdL M.W w := by rw [rdL_other (by simpa using h3) g3]; exact e2
  match k with
  | 0 => rfl
  | 1 => exact e1
  | 2 => exact e2
  | 3 => exact e3
  | _ + 4 => show rdL ((((M.W.set (posL t.1 0) t.2.1).set (posL t.1 1) t.2.2.1).set (posL t.1 3) t.2.2.2).set (posL t.1 2) next) w = _; rw [rdL_other (by simpa using h2) g2]; exact e3
theorem putW_len (M : Mem) (t : Nd) (next k : Nat) : (putW M t next k).length = M.W.length := by
  match k with
  | 0 => rfl
  | 1 => simp [putW]
  | 2 => simp [putW]
  | 3 => simp [putW]
  | _ + 4 => simp [putW]
/-- The memory behind all stores of who puts. -/
def putM' (M : Mem) (link : Nat) (t : Nd) (next : Nat) : Mem := ⟨(putW M t next 4).set (posL link 0) t.1, M.L, M.F⟩
theorem put_law {M : Mem} {head : Nat} {xs : List Nd} {t : Nd} (hok : okM M = true) (h : ChainL M head xs) (hf : fitsP M head xs t = true) (hn : (findS t.2.2.2 t.2.1 head xs).1.found = false) :
    ∃ l1 l2, xs = l1 ++ l2 ∧ ChainL (putM' M (findS t.2.2.2 t.2.1 head xs).1.link t (findS t.2.2.2 t.2.1 head xs).1.node) head (l1 ++ t :: l2) ∧ (∀ k, k ≤ 4 → ChainL ⟨putW M t (findS t.2.2.2 t.2.1 head xs).1.node k, M.L, M.F⟩ head xs) := by
  obtain ⟨f1, f2⟩ := fitsP_spec hf
  obtain ⟨o1, o2, o3, -⟩ := okM_spec hok
  have hl : ∀ k, k < 4 → posL t.1 k < M.W.length := fun k hk => by have := live_lt (f2 k hk).1; omega
  obtain ⟨l1, l2, e1, e2, e3, e4, e5, -⟩ := findS_split t.2.2.2 t.2.1 head xs
  have off : ∀ w ∈ wordsL head xs, ∀ j, j < 4 → w ≠ posL t.1 j := fun w hw j hj e => (f2 j hj).2 (by rw [← e]; exact hw)
  have hst : ∀ k, ChainL ⟨putW M t (findS t.2.2.2 t.2.1 head xs).1.node k, M.L, M.F⟩ head xs := fun k => chain_other h fun w hw => putW_other hl k w (off w hw)
  refine ⟨l1, l2, e1, ?_, fun k _ => hst k⟩
  have hE : posL (findS t.2.2.2 t.2.1 head xs).1.link 0 = endL (posL head 0) l1 := by
    rw [e2]
    exact endA_word hok l1 head (fun w hw => h.live w (by rw [e1, words_append]; exact List.mem_append_left _ (List.mem_cons_of_mem _ hw)))
  have hEm : endL (posL head 0) l1 ∈ wordsL head xs := by rw [e1, words_append]; exact List.mem_append_left _ (endL_mem l1 _)
  have hEl : endL (posL head 0) l1 < (putW M t (findS t.2.2.2 t.2.1 head xs).1.node 4).length := by
    rw [putW_len]; have := live_lt (h.live _ hEm); omega
  have hoff := off _ hEm
  obtain ⟨nx, hnx⟩ : ∃ x, (findS t.2.2.2 t.2.1 head xs).1.node = x := ⟨_, rfl⟩
  rw [hnx] at hst hEl e3 ⊢
  unfold putM'
  rw [hE]
  have rd4 : ∀ w, w ≠ endL (posL head 0) l1 → rdL ((putW M t nx 4).set (endL (posL head 0) l1) t.1) w = rdL (putW M t nx 4) w := fun w hw => rdL_other hEl hw
  have q0 := hl 0 (by decide)
  have q1 := hl 1 (by decide)
  have q2 := hl 2 (by decide)
  have q3 := hl 3 (by decide)
  have w2 : rdL (putW M t nx 4) (posL t.1 2) = nx := rdL_same (by simpa using q2)
  have w3 : rdL (putW M t nx 4) (posL t.1 3) = t.2.2.2 := by
    show rdL ((((M.W.set (posL t.1 0) t.2.1).set (posL t.1 1) t.2.2.1).set (posL t.1 3) t.2.2.2).set (posL t.1 2) nx) (posL t.1 3) = _
    rw [rdL_other (by simpa using q2) (posL_ne (by decide)), rdL_same (by simpa using q3)]
  have w1 : rdL (putW M t nx 4) (posL t.1 1) = t.2.2.1 := by
    show rdL ((((M.W.set (posL t.1 0) t.2.1).set (posL t.1 1) t.2.2.1).set (posL t.1 3) t.2.2.2).set (posL t.1 2) nx) (posL t.1 1) = _
    rw [rdL_other (by simpa using q2) (posL_ne (by decide)), rdL_other (by simpa using q3) (posL_ne (by decide)), rdL_same (by simpa using q1)]
  have w0 : rdL (putW M t nx 4) (posL t.1 0) = t.2.1 := by
    show rdL ((((M.W.set (posL t.1 0) t.2.1).set (posL t.1 1) t.2.2.1).set (posL t.1 3) t.2.2.2).set (posL t.1 2) nx) (posL t.1 0) = _
    rw [rdL_other (by simpa using q2) (posL_ne (by decide)), rdL_other (by simpa using q3) (posL_ne (by decide)), rdL_other (by simpa using q1) (posL_ne (by decide)), rdL_same q0]
  have hne : ∀ j, j < 4 → posL t.1 j ≠ endL (posL head 0) l1 := fun j hj e => hoff j hj e.symm
  refine ⟨?_, ?_, ?_, ?_⟩
  · exact nodup_ins (by rw [← e1]; exact h.nd) (fun k hk => by rw [← e1]; exact (f2 k hk).2)
  · intro w hw
    rcases (words_ins w).1 hw with hw | hw
    · simp only [List.mem_cons, List.not_mem_nil, or_false] at hw
      rcases hw with rfl | rfl | rfl | rfl
      · exact (f2 0 (by decide)).1
      · exact (f2 1 (by decide)).1
      · exact (f2 2 (by decide)).1
      · exact (f2 3 (by decide)).1
    · exact h.live w (by rw [e1]; exact hw)
  · refine lnk_ins (W := M.W) (by rw [← e1]; exact h.nd) (by rw [← e1]; exact h.fw) f1 (fun w hw he => ?_) (rdL_same hEl) ?_ ?_ ?_ ?_
    · rw [rd4 w he]; exact putW_other hl 4 w (off w (by rw [e1]; exact hw))
    · rw [rd4 _ (hne 0 (by decide))]; exact w0
    · rw [rd4 _ (hne 1 (by decide))]; exact w1
    · rw [rd4 _ (hne 3 (by decide))]; exact w3
    · rw [rd4 _ (hne 2 (by decide)), w2]; exact e3
  · exact incr_ins (by rw [← e1]; exact h.inc) e4 (e5 hn)
/-- The memory behind who cuts. -/
def cutM (M : Mem) (link node : Nat) : Mem := ⟨M.W.set (posL link 0) (wAt M node 2), M.L, M.F⟩
theorem cut_law {M : Mem} {head hash key : Nat} {xs : List Nd} (hok : okM M = true) (h : ChainL M head xs) (hf : (findS hash key head xs).1.found = true) :
    ∃ l1 t l2, xs = l1 ++ t :: l2 ∧ t.2.1 = key ∧ t.2.2.2 = hash ∧ (findS hash key head xs).1.node = t.1 ∧ (findS hash key head xs).1.val = t.2.2.1 ∧ ChainL (cutM M (findS hash key head xs).1.link t.1) head (l1 ++ l2) ∧ wAt M t.1 2 = fstL l2 ∧ wAt (cutM M (findS hash key head xs).1.link t.1) t.1 2 = fstL l2 ∧ (∀ x ∈ l1, x.1 ≠ t.1) ∧ liveN M (posL t.1 2) = true := by
  obtain ⟨l1, l2', e1, e2, e3, e4, -, e6⟩ := findS_split hash key head xs
  obtain ⟨t, l2, rfl, q1, q2, q3⟩ := e6 hf
  obtain ⟨o1, o2, o3, -⟩ := okM_spec hok
  have hE : posL (findS hash key head xs).1.link 0 = endL (posL head 0) l1 := by
    rw [e2]
    exact endA_word hok l1 head (fun w hw => h.live w (by rw [e1, words_append]; exact List.mem_append_left _ (List.mem_cons_of_mem _ hw)))
  have hEm : endL (posL head 0) l1 ∈ wordsL head xs := by rw [e1, words_append]; exact List.mem_append_left _ (endL_mem l1 _)
  have hEl : endL (posL head 0) l1 < M.W.length := by have := live_lt (h.live _ hEm); omega
  have hnx : wAt M t.1 2 = fstL l2 := lnk_mid (W := M.W) (a := posL head 0) (l1 := l1) (by rw [← e1]; exact h.fw)
  have hnd := h.nd
  rw [e1, words_append] at hnd
  obtain ⟨n1, n2, n3⟩ := List.nodup_append.1 hnd
  have htw : ∀ k, k < 4 → posL t.1 k ∈ wlL (t :: l2) := fun k hk => mem_wlL (List.mem_cons_self ..) k hk
  have hne : posL t.1 2 ≠ endL (posL head 0) l1 := fun e => n3 _ (endL_mem l1 _) _ (htw 2 (by decide)) e.symm
  refine ⟨l1, t, l2, e1, q1, q2, e3, q3, ?_, hnx, ?_, fun x hx e => ?_, h.live _ (by rw [e1, words_append]; exact List.mem_append_right _ (htw 2 (by decide)))⟩
  · unfold cutM
    rw [hE, hnx]
    refine ⟨nodup_rem (by rw [← e1]; exact h.nd), fun w hw => h.live w (by rw [e1]; exact (words_ins w).2 (.inr hw)), ?_, (incr_rem (by rw [← e1]; exact h.inc)).1⟩
    exact lnk_rem (W := M.W) (by rw [← e1]; exact h.nd) (by rw [← e1]; exact h.fw) (fun w hw he => rdL_other hEl he) (rdL_same hEl)
  · unfold cutM
    rw [hE]
    exact (rdL_other hEl hne).trans hnx
  · have := mem_wlL (xs := l1) hx 0 (by decide)
    rw [e] at this
    exact n3 _ (List.mem_cons_of_mem _ this) _ (htw 0 (by decide)) rfl
end Go.Proofs.YtahicokokfcieaaDoor
namespace Go.Proofs.YtahicokokfcieaaDoor
open Go.RowKit
open Go.Proofs
set_option linter.unusedVariables false
/-- Who looks comes to its end in so many steps, and memory stays as it is. -/
inductive LkRun (M : Mem) : Lk → Nat → Lk → Prop
  | done {l : Lk} : l.Ok → lookE M l = (M, l, false) → LkRun M l 0 l
  | step {l l' l'' : Lk} {n : Nat} : l.Ok → lookE M l = (M, l', true) → LkRun M l' n l'' → LkRun M l (n + 1) l''
theorem LkRun.ok {M : Mem} {l l' : Lk} {n : Nat} (h : LkRun M l n l') : l.Ok := by cases h <;> assumption
theorem LkRun.last {M : Mem} {l l' : Lk} {n : Nat} (h : LkRun M l n l') : l'.Ok ∧ lookE M l' = (M, l', false) := by
  induction h with
  | done o e => exact ⟨o, e⟩
  | step o e r ih => exact ih
theorem lookE_over {M : Mem} {l : Lk} (h : l.ph = 2) : lookE M l = (M, l, false) := by
  unfold lookE
  rw [if_neg (by omega), if_neg (by omega)]
/-- Seeking's steps are who looks' steps. -/
theorem seek_lk {M M' : Mem} (hok : okM M = true) (hW : ∀ x ∈ M.W, x < 18446744073709551616) {root key array : Nat} {many : Int} (hr : root < 18446744073709551616) (hk : key < 18446744073709551616) (ha : array < 18446744073709551616) (hm : -9223372036854775808 ≤ many ∧ many ≤ 9223372036854775807) :
    ∀ (F : Nat) (s s' : Sk) (n m : Nat), s.Ok → 0 ≤ s.ph → s.ph ≤ 3 → seekRun F M s n = (M', s', m) → s'.ph = 4 → n < m ∧ LkRun M ⟨1, root, key, array, many, s⟩ (m - n) ⟨2, root, key, array, many, s'⟩
  | 0, s, s', n, m, _, _, h3, h, h4 => by
    unfold seekRun at h
    cases h
    omega
  | F + 1, s, s', n, m, hs, h0, h3, h, h4 => by
    have hn4 : ¬ 4 ≤ s.ph := by omega
    obtain ⟨o1, o2, o3, o4, o5⟩ := seekE_ok hok hW hs h0 (by omega)
    obtain ⟨⟨M1, s1, b⟩, e⟩ : ∃ x, seekE M s = x := ⟨_, rfl⟩
    rw [e] at o1 o2 o3 o4 o5
    dsimp only at o1 o2 o3 o4 o5
    rw [seekRun_step hn4 e] at h
    have hb : b = true := by
      have : (seekE M s).2.2 = true := by unfold seekE; rw [if_neg hn4]
      rw [e] at this; exact this
    subst hb
    have hP : sseekP M s = (M1, s1, 0) := by
      unfold sseekP
      rw [if_neg (by rw [hok]; decide), if_neg (by omega), e]
    have hL : lookE M ⟨1, root, key, array, many, s⟩ = (M1, ⟨if s1.ph = 4 then 2 else if s1.ph = 5 then 3 else 1, root, key, array, many, s1⟩, true) := by
      unfold lookE
      dsimp only
      rw [if_neg (by decide), if_pos rfl, hP]
    have hlo : ∀ (p : Int) (t : Sk), 0 ≤ p → p ≤ 5 → t.Ok → Lk.Ok ⟨p, root, key, array, many, t⟩ := fun p t h0 h5 ht => ⟨⟨by show _ ≤ p; omega, by show p ≤ _; omega⟩, hr, hk, ha, hm, ht⟩
    have hM : s1.ph ≠ 5 → M = M1 := by
      intro e5
      by_cases hl : (stepM M false ((needS s s.ph.toNat : Nat) : Int) 0).2.2 = true
      · have e1 : (seekE M s).1 = (stepM M false ((needS s s.ph.toNat : Nat) : Int) 0).1 := by unfold seekE; rw [if_neg hn4]
        rw [e] at e1
        rw [show M1 = _ from e1]
        unfold stepM at hl ⊢
        split
        · rfl
        · rename_i hf; rw [if_neg hf] at hl; cases hl
      · have e1 : (seekE M s).2.1.ph = 5 := by unfold seekE; rw [if_neg hn4]; show Sk.ph (if _ then _ else _) = 5; rw [if_neg hl]
        rw [e] at e1
        exact absurd e1 e5
    by_cases e4 : s1.ph = 4
    · have hM := hM (by omega)
      subst hM
      rw [seekRun_end (by omega)] at h
      cases h
      rw [if_pos e4] at hL
      exact ⟨by omega, by rw [show n + 1 - n = 0 + 1 by omega]; exact .step (hlo 1 s (by decide) (by decide) hs) hL (.done (hlo 2 _ (by decide) (by decide) o3) (lookE_over rfl))⟩
    · by_cases e5 : s1.ph = 5
      · rw [seekRun_end (by omega)] at h
        cases h
        omega
      · rw [if_neg e4, if_neg e5] at hL
        have hM := hM e5
        subst hM
        obtain ⟨i1, i2⟩ := seek_lk hok hW hr hk ha hm F s1 s' (n + 1) m o3 o4 (by omega) h h4
        exact ⟨by omega, by rw [show m - n = (m - (n + 1)) + 1 by omega]; exact .step (hlo 1 s (by decide) (by decide) hs) hL i2⟩
/-- A table's array, its buckets, and their nodes. -/
theorem rows_buckets {M : Mem} {a d : Nat} : ∀ (k b : Nat) (met : List Nat) (out xs : List Rw) (met' : List Nat), bucketsGo M a d k b met out = some (xs, met') → ∀ j, b ≤ j → j < b + k → ∃ ns, nodesR M (a + j) = some ns
  | 0, b, met, out, xs, met', h, j, h1, h2 => by omega
  | k + 1, b, met, out, xs, met', h, j, h1, h2 => by
    unfold bucketsGo at h
    cases hn : nodesR M (a + b) with
    | none => rw [hn] at h; cases h
    | some ns =>
      rw [hn, Option.bind_some] at h
      cases ht : takeNs M d b ns met out with
      | none => rw [ht] at h; cases h
      | some r =>
        rw [ht, Option.bind_some] at h
        by_cases e : j = b
        · subst e; exact ⟨ns, hn⟩
        · exact rows_buckets k (b + 1) _ _ _ _ h j (by omega) (by omega)
theorem rows_open {M : Mem} {root : Nat} {xs : List Rw} {met : List Nat} (h : rowsW M root = some (xs, met)) : ∃ a d m0 m1, tmeet M root 1 [] = some m0 ∧ saysW (M.W.getD root 0) = some (a, d) ∧ tmeet M a (2 ^ d) m0 = some m1 ∧ bucketsGo M a d (2 ^ d) 0 m1 [] = some (xs, met) := by
  unfold rowsW at h
  cases h0 : tmeet M root 1 [] with
  | none => rw [h0] at h; cases h
  | some m0 =>
    rw [h0, Option.bind_some] at h
    cases h1 : saysW (M.W.getD root 0) with
    | none => rw [h1] at h; cases h
    | some s =>
      rw [h1, Option.bind_some] at h
      cases h2 : tmeet M s.1 (2 ^ s.2) m0 with
      | none => rw [h2] at h; cases h
      | some m1 =>
        rw [h2, Option.bind_some] at h
        exact ⟨s.1, s.2, m0, m1, rfl, rfl, h2, h⟩
/-- Who looked in a table, and in how many steps. -/
def lookT (M : Mem) (root key : Nat) : Lk × Nat :=
  match saysW (M.W.getD root 0) with
  | none => (zeroLk, 0)
  | some (a, d) =>
    match nodesR M (a + ofN key d) with
    | none => (zeroLk, 0)
    | some ns => (⟨2, root, key, a, ((2 ^ d : Nat) : Int), (findS (hashN key) key (a + ofN key d) ns).1⟩, (findS (hashN key) key (a + ofN key d) ns).2 + 1)
theorem lookT_some {M : Mem} {root key a d : Nat} {ns : List Nd} (h : saysW (M.W.getD root 0) = some (a, d)) (hn : nodesR M (a + ofN key d) = some ns) :
    lookT M root key = (⟨2, root, key, a, ((2 ^ d : Nat) : Int), (findS (hashN key) key (a + ofN key d) ns).1⟩, (findS (hashN key) key (a + ofN key d) ns).2 + 1) := by
  unfold lookT
  rw [h]
  dsimp only
  rw [hn]
theorem tab_live {M : Mem} {root a d : Nat} {m0 : List Nat} (h0 : tmeet M root 1 [] = some m0) : liveN M root = true ∧ root ≤ 4096 := by
  obtain ⟨h1, h2, -⟩ := tmeet_iff.1 h0
  exact ⟨(h2 0 (by decide)).1, h1⟩
/-- Looking in a table. -/
theorem look_run {M : Mem} {root key : Nat} {xs : List Rw} {met : List Nat} (hok : okM M = true) (hW : ∀ x ∈ M.W, x < 18446744073709551616) (hr : root < 18446744073709551616) (hk : key < 18446744073709551616) (h : rowsW M root = some (xs, met)) :
    LkRun M (askK root key) (lookT M root key).2 (lookT M root key).1 ∧ (lookT M root key).2 ≤ 20000 := by
  obtain ⟨a, d, m0, m1, t0, hs, t1, hb⟩ := rows_open h
  obtain ⟨hd2, hd4, ha⟩ := saysW_some hs
  have ho := ofN_lt (key := key) (show d ≤ 64 by omega)
  obtain ⟨ns, hns⟩ := rows_buckets _ _ _ _ _ _ hb (ofN key d) (by omega) (by omega)
  obtain ⟨hl, hr4⟩ := tab_live (a := 0) (d := 0) t0
  have hp16 : 2 ^ d ≤ 16 := (pow_dep hd2 hd4).2.2
  rw [lookT_some hs hns]
  have hf := find_run hok hns (hashN key) key
  have hlen := findS_len (hashN key) key (a + ofN key d) ns
  have hnl := chain_len hok (chain_of hns)
  have hsk : (seekK (a + ofN key d) (hashN key) key).Ok := ⟨⟨by show _ ≤ (0 : Int); decide, by show (0 : Int) ≤ _; decide⟩, hashN_lt key, hk, by show a + ofN key d < _; omega, by show 0 < _; decide, by show 0 < _; decide⟩
  have hmany : -9223372036854775808 ≤ ((2 ^ d : Nat) : Int) ∧ ((2 ^ d : Nat) : Int) ≤ 9223372036854775807 := by omega
  obtain ⟨q1, q2⟩ := seek_lk hok hW hr hk (array := a) (many := ((2 ^ d : Nat) : Int)) (by omega) hmany _ _ _ _ _ hsk (by show (0 : Int) ≤ 0; decide) (by show (0 : Int) ≤ 3; decide) hf.1 (findS_ph _ _ _ _)
  refine ⟨?_, by dsimp only; omega⟩
  have hz : (askK root key).Ok := ⟨⟨by show _ ≤ (0 : Int); decide, by show (0 : Int) ≤ _; decide⟩, hr, hk, by show 0 < _; decide, by show _ ≤ (0 : Int) ∧ (0 : Int) ≤ _; decide, ⟨by show _ ≤ (0 : Int) ∧ (0 : Int) ≤ _; decide, by show 0 < _; decide, by show 0 < _; decide, by show 0 < _; decide, by show 0 < _; decide, by show 0 < _; decide⟩⟩
  have he : lookE M (askK root key) = (M, ⟨1, root, key, a, ((2 ^ d : Nat) : Int), seekK (a + ofN key d) (hashN key) key⟩, true) := by
    unfold lookE askK
    dsimp only
    rw [if_pos rfl, Nat.min_eq_left hr4, load_live hl]
    dsimp only
    rw [if_pos rfl, hs]
  refine .step hz he ?_
  simpa using q2
end Go.Proofs.YtahicokokfcieaaDoor
namespace Go.Proofs.YtahicokokfcieaaDoor
open Go.RowKit
open Go.Proofs
set_option linter.unusedVariables false
attribute [local go_sem] Oper.semAt_some
theorem looked_result {W : World} {b6 : Nat} {v6_0 v6_1 v6_2 v6_3 v6_4 v6_5 v6_6 v6_7 v6_8 v6_9 v6_10 v6_11 : Value} {tmps : Array Value} (h6 : W.heap[b6]? = some (.cells #[v6_0, v6_1, v6_2, v6_3, v6_4, v6_5, v6_6, v6_7, v6_8, v6_9, v6_10, v6_11] 46 (0, 0))) (q6 : tmps[6]?.getD undef = .pointer (some ⟨b6, 0, none⟩)) :
    (results Tryd.f48 tmps).run Tryd.prog W = .ok (.agg #[v6_0, v6_1, v6_2, v6_3, v6_4, v6_5, v6_6, v6_7, v6_8, v6_9, v6_10, v6_11]) W := by
  have e6_0 := cell_laid (i := 0) (v := v6_0) h6 rfl
  have e6_1 := cell_laid (i := 1) (v := v6_1) h6 rfl
  have e6_2 := cell_laid (i := 2) (v := v6_2) h6 rfl
  have e6_3 := cell_laid (i := 3) (v := v6_3) h6 rfl
  have e6_4 := cell_laid (i := 4) (v := v6_4) h6 rfl
  have e6_5 := cell_laid (i := 5) (v := v6_5) h6 rfl
  have e6_6 := cell_laid (i := 6) (v := v6_6) h6 rfl
  have e6_7 := cell_laid (i := 7) (v := v6_7) h6 rfl
  have e6_8 := cell_laid (i := 8) (v := v6_8) h6 rfl
  have e6_9 := cell_laid (i := 9) (v := v6_9) h6 rfl
  have e6_10 := cell_laid (i := 10) (v := v6_10) h6 rfl
  have e6_11 := cell_laid (i := 11) (v := v6_11) h6 rfl
  simp [results, Tryd.results48, go_sem, e6_0, e6_1, e6_2, e6_3, e6_4, e6_5, e6_6, e6_7, e6_8, e6_9, e6_10, e6_11, q6]
theorem LkRun.two {M : Mem} {l lE : Lk} {n : Nat} (h : LkRun M l n lE) : (n = 0 ∧ l = lE ∧ lookE M l = (M, l, false)) ∨ ∃ l' g, n = g + 1 ∧ lookE M l = (M, l', true) ∧ LkRun M l' g lE := by
  cases h with
  | done o e => exact .inl ⟨rfl, rfl, e⟩
  | step o e r => exact .inr ⟨_, _, rfl, e, r⟩
theorem Glob.tch {P : Nat → Prop} {V W : World} (h : Glob V) (ht : Tch P V W) (h0 : ¬ P 0) : Glob W := by
  have e0 : W.heap[0]? = V.heap[0]? := ht.block 0 h.one h0
  have k : ∀ i v, V.cell? ⟨0, i, none⟩ = some v → W.cell? ⟨0, i, none⟩ = some v := fun i v hv => by
    unfold World.cell? at hv ⊢
    rw [e0]
    exact hv
  exact ⟨Nat.le_trans h.one ht.size, k _ _ h.c0, k _ _ h.c1, k _ _ h.c2, k _ _ h.c3⟩
structure Lkd (B R S Z : Nat) (V : World) (M : Mem) (l lE : Lk) (n N g : Nat) (W : World) : Prop where
  run : RunT B R M n W
  bs : W.heap[S]? = some (.cells (lk12 l) 46 (0, 0))
  bz : W.heap[Z]? = some (.cells #[.int .i64 0, .int .u64 0, .int .u64 0, .int .u64 0, .int .i64 0, .int .i64 0, .int .u64 0, .int .u64 0, .int .u64 0, .int .u64 0, .int .u64 0, .bool false] 46 (0, 0))
  tch : Tch (fun k => k = R ∨ k = S) V W
  res : LkRun M l g lE
  cnt : n + g = N
def GivesLooked (B R N : Nat) (M : Mem) (lE : Lk) (V : World) (e : Ending) (W : World) : Prop := e = .returned (lkV lE) ∧ RunT B R M N W ∧ Tch (fun k => k = R) V W
set_option maxRecDepth 100000 in
set_option maxHeartbeats 4000000 in
theorem looked_any (B R root key N : Nat) (M : Mem) (lE : Lk) (V : World) (h : RunT B R M 0 V) (hB : B ≤ V.heap.size) (hok : okM M = true) (hg : Glob V) (hW : ∀ x ∈ M.W, x < 18446744073709551616) (hR0 : R ≠ 0) (hl : LkRun M (askK root key) N lE) (hN : N ≤ 100000) :
    Calls Tryd.prog 48 #[.pointer (some ⟨R, 0, none⟩), .int .u64 ((root : Nat) : Int), .int .u64 ((key : Nat) : Int)] V (GivesLooked B R N M lE V) := by
  obtain ⟨V1, hV1, hb1, hs1, hl1⟩ := laid V #[.int .i64 0, .int .u64 0, .int .u64 0, .int .u64 0, .int .i64 0, .int .i64 0, .int .u64 0, .int .u64 0, .int .u64 0, .int .u64 0, .int .u64 0, .bool false] 46
  obtain ⟨Z, hZ⟩ : ∃ X, V.heap.size = X := ⟨_, rfl⟩
  rw [hZ] at hl1
  have KZ := hid hl1
  have HB := hid hb1
  have hVZ : V.heap.size ≤ Z := by omega
  have hRlt := h.lt
  have hRZ : R < Z := by omega
  have HR := hid (h.grow hb1)
  have HAS := hid (fun W => Ask_any root key W)
  unfold lkV at HAS
  unfold askK zeroSk at HAS
  unfold lk12 at HAS
  dsimp only at HAS
  have HL := hid hl
  have HOK := hid hok
  have HG := hid hg
  have HW := hid hW
  have hV0 : 0 < V.heap.size := hg.one
  clear hb1 hs1 hl1 h hl hok hg hW
  go_enter Tryd.func48, Tryd.ntmps48
  go_wp2
  go_step3
  go_wp2_with fail
  refine (HAS.out V1).mono ?_
  rintro e V2 ⟨rfl, hb2⟩
  obtain ⟨V3, hV3, hb3, hs3, hl3⟩ := laid V2 #[.int .i64 0, .int .u64 0, .int .u64 0, .int .u64 0, .int .i64 0, .int .i64 0, .int .u64 0, .int .u64 0, .int .u64 0, .int .u64 0, .int .u64 0, .bool false] 46
  obtain ⟨S, hS⟩ : ∃ X, V2.heap.size = X := ⟨_, rfl⟩
  rw [hS] at hl3
  have KS3 := hid hl3
  have hVS : V.heap.size ≤ S := by have := HB.out.size; have := hb2.size; omega
  have hZS : Z < S := by have := lt_laid (keep_laid KZ.out hb2); omega
  have KZ3 := hid (keep_laid (keep_laid KZ.out hb2) hb3)
  have HR3 := hid ((HR.out.grow hb2).grow hb3)
  have HB3 := hid (step (step HB.out hb2) hb3)
  clear hb2 hb3 hs3 hl3 hZ
  go_wp2_with (refine wp_storeP rfl 46 (.tmp 7) (.tmp 10) rfl S 0 _ (lk12 (askK root key)) _ rfl rfl _ KS3.out (by kernel_rfl) (Nat.le_of_ble_eq_true rfl) (by kernel_rfl) rfl ?_; intro V4 a1 a2 a3 a4; have KS4 := hid a1; have KZ4 := hid (a2 Z _ (by omega) KZ3.out); have HT4 : Hid (Tch (fun k => k = S) V3 V4) := hid ⟨a4.os, a4.tape, a4.output, a4.size, fun k hk hne => a4.block k hk (fun e => hne (Option.some.inj e))⟩; have HR4 := hid (HR3.out.tch HT4.out KS3.out (by decide) (by decide) (by decide)); have HB4 := hid (a3 V.heap.size V (by omega) HB3.out); clear a1 a2 a3 a4)
  clear hS
  have HF : Hid (Lkd B R S Z V M (askK root key) lE 0 N N V4) := hid ⟨HR4.out, KS4.out, KZ4.out, Tch.of_below HB4.out, HL.out, by omega⟩
  clear KS3 KZ3 HR3 HB3 KS4 KZ4 HT4 HR4 HB4 HR HB KZ HL
  go_step3
  simp only [Act.put]
  go_wp2
  go_loopg [13] N (fun g t13 wr => ∃ (l : Lk) (n : Nat), Hid (Lkd B R S Z V M l lE n N g wr))
  case atStart => exact ⟨_, 0, HF⟩
  case round =>
    clear HF
    obtain ⟨l, n, hF⟩ := hrel
    have HSE := hid (look_any B R S n M l wr hF.out.run hF.out.bs (Nat.le_trans hB hF.out.tch.size) HOK.out (HG.out.tch hF.out.tch (by omega)) HW.out hF.out.res.ok hR0 (by have := hF.out.cnt; omega))
    obtain ⟨⟨Mn, ln, bn⟩, hX⟩ : ∃ X, lookE M l = X := ⟨_, rfl⟩
    rw [hX] at HSE
    have HX := hid hX
    clear hX
    go_wp2_with fail
    refine HSE.out.mono ?_
    rintro e w2 ⟨rfl, hr2, hs2, ht2⟩
    have HR2 := hid hr2
    have HS2 := hid hs2
    have HT2 := hid ht2
    have HZ2 := hid (ht2.keep hF.out.bz (by rintro (e | e) <;> omega))
    clear hr2 hs2 ht2 HSE
    rcases hF.out.res.two with ⟨rfl, rfl, o2⟩ | ⟨l', g', hgk, o2, r⟩
    · skip
      rw [HX.out] at o2
      simp only [Prod.mk.injEq] at o2
      obtain ⟨rfl, rfl, rfl⟩ := o2
      have HFIN : Hid (RunT B R Mn N w2 ∧ Tch (fun k => k = R ∨ k = S) V w2) := hid ⟨by have e := hF.out.cnt; have := HR2.out; rw [← e]; simpa using this, hF.out.tch.trans HT2.out⟩
      obtain ⟨lp, root', key', array', many', ⟨sp, shash, skey, slink, snode, sval, sfound⟩⟩ := ln
      have HS3 := hid HS2.out
      unfold lk12 at HS3
      dsimp only at HS3
      have s0 := cell_laid (i := 0) HS3.out rfl
      have s1 := cell_laid (i := 1) HS3.out rfl
      have s2 := cell_laid (i := 2) HS3.out rfl
      have s3 := cell_laid (i := 3) HS3.out rfl
      have s4 := cell_laid (i := 4) HS3.out rfl
      have s5 := cell_laid (i := 5) HS3.out rfl
      have s6 := cell_laid (i := 6) HS3.out rfl
      have s7 := cell_laid (i := 7) HS3.out rfl
      have s8 := cell_laid (i := 8) HS3.out rfl
      have s9 := cell_laid (i := 9) HS3.out rfl
      have s10 := cell_laid (i := 10) HS3.out rfl
      have s11 := cell_laid (i := 11) HS3.out rfl
      clear hF
      go_wp2_with (refine wp_storeP rfl 46 (.tmp 6) (.tmp 14) rfl Z 0 _ (lk12 ⟨lp, root', key', array', many', ⟨sp, shash, skey, slink, snode, sval, sfound⟩⟩) _ rfl rfl _ HZ2.out (by kernel_rfl) (Nat.le_of_ble_eq_true rfl) (by kernel_rfl) rfl ?_; intro w3 a1 a2 a3 a4; have KZ5 := hid a1; have HT5 : Hid (Tch (fun k => k = Z) w2 w3) := hid ⟨a4.os, a4.tape, a4.output, a4.size, fun k hk hne => a4.block k hk (fun e => hne (Option.some.inj e))⟩; have HR5 := hid (HFIN.out.1.tch HT5.out HZ2.out (by decide) (by decide) (by decide)); have HT6 : Hid (Tch (fun k => k = R) V w3) := hid ⟨a4.os.trans HFIN.out.2.os, a4.tape.trans HFIN.out.2.tape, a4.output.trans HFIN.out.2.output, Nat.le_trans HFIN.out.2.size a4.size, fun j hj hn => (a4.block j (Nat.lt_of_lt_of_le hj HFIN.out.2.size) (fun e => by have := Option.some.inj e; omega)).trans (HFIN.out.2.block j hj (by rintro (e | e); exact hn e; omega))⟩; clear a1 a2 a3 a4)
      rw [Exit.noGoto_ret]
      refine bodyPost_ret (looked_result KZ5.out rfl) rfl ?_
      exact ⟨rfl, HR5.out, HT6.out⟩
    · skip
      rw [HX.out] at o2
      simp only [Prod.mk.injEq] at o2
      obtain ⟨rfl, rfl, rfl⟩ := o2
      have HF2 : Hid (Lkd B R S Z V Mn ln lE (n + 1) N g' w2) := hid ⟨HR2.out, HS2.out, HZ2.out, hF.out.tch.trans HT2.out, r, by have := hF.out.cnt; omega⟩
      have HGK := hid hgk
      clear hF r hgk
      go_wp2
      go_roundg g'
      case measure => have := HGK.out; omega
      case rel => exact ⟨ln, n + 1, HF2⟩
end Go.Proofs.YtahicokokfcieaaDoor
