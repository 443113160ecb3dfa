/- Lists: what lies in memory behind nodes that are put, and cut. Plain laws. -/
import Derived.Test.YtdkkjcflcegeoaaLsPlain2
namespace Go.Proofs.Ytdkkjcflcegeoaa
open Go.RowKit
open Go.Proofs
set_option linter.unusedVariables false

def rdL (W : List Nat) (a : Nat) : Nat := W.getD a 0
theorem rdL_set {W : List Nat} {j v i : Nat} (hj : j < W.length) : rdL (W.set j v) i = if i = j then v else rdL W i := by
  unfold rdL
  rw [List.getD_eq_getElem?_getD, List.getD_eq_getElem?_getD, List.getElem?_set]
  by_cases h : j = i
  · subst h; rw [if_pos rfl, if_pos hj, if_pos rfl]; rfl
  · rw [if_neg h, if_neg (fun e => h e.symm)]
theorem rdL_same {W : List Nat} {j v : Nat} (hj : j < W.length) : rdL (W.set j v) j = v := by rw [rdL_set hj, if_pos rfl]
theorem rdL_other {W : List Nat} {j v i : Nat} (hj : j < W.length) (h : i ≠ j) : rdL (W.set j v) i = rdL W i := by rw [rdL_set hj, if_neg h]
abbrev w4L (x : Nd) : List Nat := [posL x.1 0, posL x.1 1, posL x.1 2, posL x.1 3]
def wlL (xs : List Nd) : List Nat := xs.flatMap fun x => [posL x.1 0, posL x.1 1, posL x.1 2, posL x.1 3]
theorem wlL_cons (t : Nd) (xs : List Nd) : wlL (t :: xs) = w4L t ++ wlL xs := by simp [wlL]
theorem wlL_append (xs ys : List Nd) : wlL (xs ++ ys) = wlL xs ++ wlL ys := by simp [wlL]
theorem wordsL_eq (head : Nat) (xs : List Nd) : wordsL head xs = posL head 0 :: wlL xs := rfl
theorem mem_w4L (t : Nd) (k : Nat) (hk : k < 4) : posL t.1 k ∈ w4L t := by
  match k, hk with
  | 0, _ => simp
  | 1, _ => simp
  | 2, _ => simp
  | 3, _ => simp
theorem mem_wlL {t : Nd} {xs : List Nd} (h : t ∈ xs) (k : Nat) (hk : k < 4) : posL t.1 k ∈ wlL xs := List.mem_flatMap.2 ⟨t, h, mem_w4L t k hk⟩
/-- Links that lead on from a word. -/
def lnkL (W : List Nat) : Nat → List Nd → Prop
  | a, [] => rdL W a = 0
  | a, t :: ts => rdL W a = t.1 ∧ t.1 ≠ 0 ∧ rdL W (posL t.1 0) = t.2.1 ∧ rdL W (posL t.1 1) = t.2.2.1 ∧ rdL W (posL t.1 3) = t.2.2.2 ∧ lnkL W (posL t.1 2) ts
theorem lnk_of {M : Mem} : ∀ (xs : List Nd) (a : Nat), ChainP M (rdL M.W a) xs → lnkL M.W a xs
  | [], a, h => h
  | x :: r, a, h => by
    obtain ⟨h1, h2, h3, h4⟩ := h
    have e : x.1 = rdL M.W a := by rw [h1]; rfl
    refine ⟨e.symm, by rw [e]; exact h2, ?_, ?_, ?_, lnk_of r _ ?_⟩
    · rw [e]; rw [h1]; rfl
    · rw [e]; rw [h1]; rfl
    · rw [e]; rw [h1]; rfl
    · rw [e]; exact h4
theorem lnk_to {M : Mem} : ∀ (xs : List Nd) (a : Nat), lnkL M.W a xs → (∀ w ∈ wlL xs, liveN M w = true) → ChainP M (rdL M.W a) xs
  | [], a, h, _ => h
  | x :: r, a, h, hl => by
    obtain ⟨h1, h2, h3, h4, h5, h6⟩ := h
    have hx : x = ndAt M (rdL M.W a) := by
      rw [h1]
      show x = (x.1, rdL M.W (posL x.1 0), rdL M.W (posL x.1 1), rdL M.W (posL x.1 3))
      rw [h3, h4, h5]
    refine ⟨hx, by rw [h1]; exact h2, fun k hk => ?_, ?_⟩
    · rw [h1]; exact hl _ (mem_wlL (List.mem_cons_self ..) k hk)
    · rw [h1]; exact lnk_to r _ h6 (fun w hw => hl w (by rw [wlL_cons]; exact List.mem_append_right _ hw))
theorem takeP_mk (M : Mem) (p : Nat) : ∀ (ks met : List Nat), (met ++ ks.map (posL p)).Nodup → (∀ k ∈ ks, liveN M (posL p k) = true) → takeP M p ks met = some (met ++ ks.map (posL p))
  | [], met, hn, hl => by simp [takeP]
  | k :: ks, met, hn, hl => by
    unfold takeP
    have h1 : posL p k ∉ met := by
      intro hm
      rw [List.nodup_append] at hn
      exact hn.2.2 _ hm _ (List.mem_map.2 ⟨k, List.mem_cons_self, rfl⟩) rfl
    rw [if_pos (by unfold freeB; rw [hl k List.mem_cons_self, decide_eq_false h1]; rfl)]
    rw [takeP_mk M p ks _ (by simpa using hn) (fun j hj => hl j (List.mem_cons_of_mem _ hj))]
    simp
theorem goW_mk {M : Mem} : ∀ (new : List Nd) (f place : Nat) (met : List Nat) (out : List Nd), ChainP M place new → (met ++ wlL new).Nodup → new.length < f → goW M f place met out = some (out ++ new)
  | _, 0, _, _, _, _, _, hf => by omega
  | [], f + 1, place, met, out, h1, hn, hf => by
    have h0 : place = 0 := h1
    subst h0
    rw [goW_zero]; simp
  | t :: ts, f + 1, place, met, out, h1, hn, hf => by
    obtain ⟨q1, q2, q3, q4⟩ := h1
    have e : t.1 = place := by rw [q1]; rfl
    rw [wlL_cons] at hn
    have hr : (List.range 4).map (posL place) = w4L t := by rw [← e]; rfl
    have ht := takeP_mk M place (List.range 4) met (by rw [hr]; rw [← List.append_assoc] at hn; exact (List.nodup_append.1 hn).1) (fun k hk => q3 k (List.mem_range.1 hk))
    rw [goW_some q2 ht, hr]
    rw [goW_mk ts f (wAt M place 2) (met ++ w4L t) (out ++ [ndAt M place]) q4 (by rw [List.append_assoc]; exact hn) (by simp at hf; omega)]
    rw [← q1]; simp
/-- A list lies so. -/
structure ChainL (M : Mem) (head : Nat) (xs : List Nd) : Prop where
  nd : (wordsL head xs).Nodup
  live : ∀ w ∈ wordsL head xs, liveN M w = true
  fw : lnkL M.W (posL head 0) xs
  inc : incr xs = true
theorem chain_of {M : Mem} {head : Nat} {xs : List Nd} (h : nodesR M head = some xs) : ChainL M head xs := by
  obtain ⟨hw, hi⟩ := nodesR_some h
  obtain ⟨h1, h2⟩ := nodesW_words hw
  exact ⟨h1, h2, lnk_of _ _ (nodesW_chain hw).2, hi⟩
theorem chain_len {M : Mem} {head : Nat} {xs : List Nd} (hok : okM M = true) (h : ChainL M head xs) : 4 * xs.length + 1 ≤ 4096 := by
  obtain ⟨q1, q2, q3, -⟩ := okM_spec hok
  have := nodup_lt (n := M.L.length) h.nd (fun x hx => live_lt (h.live x hx))
  have e : (wordsL head xs).length = 4 * xs.length + 1 := by unfold wordsL; rw [List.length_cons, flat4_len]
  omega
theorem of_chain {M : Mem} {head : Nat} {xs : List Nd} (hok : okM M = true) (h : ChainL M head xs) : nodesR M head = some xs := by
  have hl := chain_len hok h
  have h0 : liveN M (posL head 0) = true := h.live _ (List.mem_cons_self ..)
  have ht := takeP_mk M head [0] [] (by simp) (fun k hk => by simp at hk; subst hk; exact h0)
  have hg := goW_mk xs 4101 (wAt M head 0) ([] ++ [0].map (posL head)) [] (lnk_to _ _ h.fw (fun w hw => h.live w (List.mem_cons_of_mem _ hw))) h.nd (by omega)
  unfold nodesR
  rw [nodesW_some ht, hg]
  dsimp only
  rw [List.nil_append, if_pos h.inc]
/-- Links that lead on from a word to another one. -/
def segL (W : List Nat) : Nat → List Nd → Prop
  | _, [] => True
  | a, t :: ts => rdL W a = t.1 ∧ t.1 ≠ 0 ∧ rdL W (posL t.1 0) = t.2.1 ∧ rdL W (posL t.1 1) = t.2.2.1 ∧ rdL W (posL t.1 3) = t.2.2.2 ∧ segL W (posL t.1 2) ts
def endL : Nat → List Nd → Nat
  | a, [] => a
  | _, t :: ts => endL (posL t.1 2) ts
def fstL : List Nd → Nat
  | [] => 0
  | t :: _ => t.1
theorem lnk_append {W : List Nat} : ∀ (l1 l2 : List Nd) (a : Nat), lnkL W a (l1 ++ l2) ↔ segL W a l1 ∧ lnkL W (endL a l1) l2
  | [], l2, a => by simp [segL, endL]
  | t :: ts, l2, a => by
    show (rdL W a = t.1 ∧ _ ∧ _ ∧ _ ∧ _ ∧ lnkL W (posL t.1 2) (ts ++ l2)) ↔ (rdL W a = t.1 ∧ _ ∧ _ ∧ _ ∧ _ ∧ segL W (posL t.1 2) ts) ∧ lnkL W (endL (posL t.1 2) ts) l2
    rw [lnk_append ts l2]
    constructor
    · rintro ⟨a1, a2, a3, a4, a5, a6, a7⟩; exact ⟨⟨a1, a2, a3, a4, a5, a6⟩, a7⟩
    · rintro ⟨⟨a1, a2, a3, a4, a5, a6⟩, a7⟩; exact ⟨a1, a2, a3, a4, a5, a6, a7⟩
theorem lnk_fst {W : List Nat} {a : Nat} {xs : List Nd} (h : lnkL W a xs) : rdL W a = fstL xs := by
  cases xs with
  | nil => exact h
  | cons t ts => exact h.1
theorem endL_mem : ∀ (l : List Nd) (a : Nat), endL a l ∈ a :: wlL l
  | [], a => List.mem_cons_self ..
  | t :: ts, a => by
    have := endL_mem ts (posL t.1 2)
    rw [wlL_cons]
    rcases List.mem_cons.1 this with h | h
    · show endL (posL t.1 2) ts ∈ _
      rw [h]; simp
    · exact List.mem_cons_of_mem _ (List.mem_append_right _ h)
theorem lnk_congr {W W' : List Nat} : ∀ (xs : List Nd) (a a' : Nat), lnkL W a xs → rdL W' a' = rdL W a → (∀ w ∈ wlL xs, rdL W' w = rdL W w) → lnkL W' a' xs
  | [], a, a', h, e, _ => by show rdL W' a' = 0; rw [e]; exact h
  | t :: ts, a, a', h, e, hw => by
    obtain ⟨q1, q2, q3, q4, q5, q6⟩ := h
    rw [wlL_cons] at hw
    have hm := fun k hk => hw _ (List.mem_append_left _ (mem_w4L t k hk))
    exact ⟨by rw [e]; exact q1, q2, by rw [hm 0 (by decide)]; exact q3, by rw [hm 1 (by decide)]; exact q4, by rw [hm 3 (by decide)]; exact q5, lnk_congr ts _ _ q6 (hm 2 (by decide)) (fun w h => hw w (List.mem_append_right _ h))⟩
theorem seg_congr {W W' : List Nat} : ∀ (l : List Nd) (a : Nat), segL W a l → (a :: wlL l).Nodup → (∀ w ∈ a :: wlL l, w ≠ endL a l → rdL W' w = rdL W w) → segL W' a l
  | [], a, h, _, _ => trivial
  | t :: ts, a, h, hn, hw => by
    obtain ⟨q1, q2, q3, q4, q5, q6⟩ := h
    have hE := endL_mem ts (posL t.1 2)
    have hn' := hn
    rw [wlL_cons] at hn'
    have hnn : (a :: posL t.1 0 :: posL t.1 1 :: posL t.1 2 :: posL t.1 3 :: wlL ts).Nodup := by simpa using hn'
    simp only [List.nodup_cons, List.mem_cons, not_or] at hnn
    obtain ⟨⟨a0, a1, a2, a3, a4⟩, ⟨b1, b2, b3, b4⟩, ⟨c2, c3, c4⟩, ⟨d3, d4⟩, e4, f⟩ := hnn
    have hE' : endL (posL t.1 2) ts = posL t.1 2 ∨ endL (posL t.1 2) ts ∈ wlL ts := List.mem_cons.1 hE
    have off : ∀ w, w ≠ posL t.1 2 → w ∉ wlL ts → w ≠ endL a (t :: ts) := by
      intro w h1 h2 h3
      have h3 : w = endL (posL t.1 2) ts := h3
      rcases hE' with h4 | h4
      · exact h1 (by rw [h3, h4])
      · exact h2 (by rw [h3]; exact h4)
    have mem : ∀ k, k < 4 → posL t.1 k ∈ a :: wlL (t :: ts) := fun k hk => List.mem_cons_of_mem _ (by rw [wlL_cons]; exact List.mem_append_left _ (mem_w4L t k hk))
    refine ⟨by rw [hw a (List.mem_cons_self ..) (off a a2 a4)]; exact q1, q2, ?_, ?_, ?_, seg_congr ts _ q6 ?_ ?_⟩
    · rw [hw _ (mem 0 (by decide)) (off _ (by omega) b4)]; exact q3
    · rw [hw _ (mem 1 (by decide)) (off _ (by omega) c4)]; exact q4
    · rw [hw _ (mem 3 (by decide)) (off _ (by omega) e4)]; exact q5
    · exact List.nodup_cons.2 ⟨d4, f⟩
    · intro w h1 h2
      refine hw w ?_ h2
      rcases List.mem_cons.1 h1 with h1 | h1
      · rw [h1]; exact mem 2 (by decide)
      · exact List.mem_cons_of_mem _ (by rw [wlL_cons]; exact List.mem_append_right _ h1)
/-- The words of a list that is in two parts. -/
theorem words_append (head : Nat) (l1 l2 : List Nd) : wordsL head (l1 ++ l2) = (posL head 0 :: wlL l1) ++ wlL l2 := by rw [wordsL_eq, wlL_append]; simp
theorem lnk_ins {W W' : List Nat} {head : Nat} {l1 l2 : List Nd} {t : Nd} (hn : (wordsL head (l1 ++ l2)).Nodup) (hf : lnkL W (posL head 0) (l1 ++ l2)) (ht0 : t.1 ≠ 0)
    (hk : ∀ w ∈ wordsL head (l1 ++ l2), w ≠ endL (posL head 0) l1 → rdL W' w = rdL W w) (hE : rdL W' (endL (posL head 0) l1) = t.1)
    (h0 : rdL W' (posL t.1 0) = t.2.1) (h1 : rdL W' (posL t.1 1) = t.2.2.1) (h3 : rdL W' (posL t.1 3) = t.2.2.2) (h2 : rdL W' (posL t.1 2) = fstL l2) : lnkL W' (posL head 0) (l1 ++ t :: l2) := by
  rw [lnk_append] at hf ⊢
  rw [words_append] at hn hk
  obtain ⟨f1, f2⟩ := hf
  obtain ⟨n1, n2, n3⟩ := List.nodup_append.1 hn
  refine ⟨seg_congr _ _ f1 n1 (fun w hw => hk w (List.mem_append_left _ hw)), hE, ht0, h0, h1, h3, lnk_congr l2 _ _ f2 (by rw [h2, lnk_fst f2]) (fun w hw => hk w (List.mem_append_right _ hw) (fun e => n3 _ (endL_mem l1 _) _ hw e.symm))⟩
theorem lnk_rem {W W' : List Nat} {head : Nat} {l1 l2 : List Nd} {t : Nd} (hn : (wordsL head (l1 ++ t :: l2)).Nodup) (hf : lnkL W (posL head 0) (l1 ++ t :: l2))
    (hk : ∀ w ∈ wordsL head (l1 ++ t :: l2), w ≠ endL (posL head 0) l1 → rdL W' w = rdL W w) (hE : rdL W' (endL (posL head 0) l1) = fstL l2) : lnkL W' (posL head 0) (l1 ++ l2) := by
  rw [lnk_append] at hf ⊢
  rw [words_append] at hn hk
  obtain ⟨f1, -, -, -, -, -, f2⟩ := hf
  obtain ⟨n1, n2, n3⟩ := List.nodup_append.1 hn
  refine ⟨seg_congr _ _ f1 n1 (fun w hw => hk w (List.mem_append_left _ hw)), lnk_congr l2 _ _ f2 (by rw [hE, lnk_fst f2]) (fun w hw => ?_)⟩
  have hw' : w ∈ wlL (t :: l2) := by rw [wlL_cons]; exact List.mem_append_right _ hw
  exact hk w (List.mem_append_right _ hw') (fun e => n3 _ (endL_mem l1 _) _ hw' e.symm)
/-- What is cut leads on to where it led. -/
theorem lnk_mid {W : List Nat} {a : Nat} {l1 l2 : List Nd} {t : Nd} (hf : lnkL W a (l1 ++ t :: l2)) : rdL W (posL t.1 2) = fstL l2 := by
  rw [lnk_append] at hf
  exact lnk_fst hf.2.2.2.2.2.2
/-- Order. -/
theorem ahead_trans {a b c : Nd} (h : aheadN a b = true) (h' : aheadN b c = true) : aheadN a c = true := by
  unfold aheadN at *
  simp only [Bool.or_eq_true, Bool.and_eq_true, decide_eq_true_eq] at *
  omega
theorem ahead_iff (a b : Nd) : aheadN a b = true ↔ a.2.2.2 < b.2.2.2 ∨ (a.2.2.2 = b.2.2.2 ∧ a.2.1 < b.2.1) := by
  unfold aheadN
  simp only [Bool.or_eq_true, Bool.and_eq_true, decide_eq_true_eq]
theorem incr_pw : ∀ xs : List Nd, incr xs = true ↔ xs.Pairwise (fun a b => aheadN a b = true)
  | [] => by simp [incr]
  | [x] => by simp [incr]
  | x :: y :: r => by
    have ih := incr_pw (y :: r)
    unfold incr
    rw [Bool.and_eq_true, ih, List.pairwise_cons (l := y :: r)]
    constructor
    · rintro ⟨h1, h2⟩
      refine ⟨fun z hz => ?_, h2⟩
      rcases List.mem_cons.1 hz with rfl | hz
      · exact h1
      · exact ahead_trans h1 ((List.pairwise_cons.1 h2).1 z hz)
    · rintro ⟨h1, h2⟩
      exact ⟨h1 y (List.mem_cons_self ..), h2⟩
/-- The address of a list's last link. -/
def endA : Nat → List Nd → Nat
  | a, [] => a
  | _, t :: ts => endA (t.1 + 2) ts
theorem endA_word {M : Mem} (hok : okM M = true) : ∀ (l : List Nd) (a : Nat), (∀ w ∈ wlL l, liveN M w = true) → posL (endA a l) 0 = endL (posL a 0) l
  | [], a, _ => rfl
  | t :: ts, a, h => by
    rw [wlL_cons] at h
    have hl := h _ (List.mem_append_left _ (mem_w4L t 2 (by decide)))
    obtain ⟨q1, q2, q3⟩ := live_small hok hl
    obtain ⟨o1, o2, -⟩ := okM_spec hok
    have := endA_word hok ts (t.1 + 2) (fun w hw => h w (List.mem_append_right _ hw))
    show posL (endA (t.1 + 2) ts) 0 = endL (posL t.1 2) ts
    rw [this]
    have e : posL (t.1 + 2) 0 = posL t.1 2 := by rw [q2]; unfold posL; omega
    rw [e]
/-- Where who seeks stands: in front of it all is ahead. -/
theorem findS_split (hash key : Nat) : ∀ (link : Nat) (xs : List Nd), ∃ l1 l2, xs = l1 ++ l2 ∧ (findS hash key link xs).1.link = endA link l1 ∧ (findS hash key link xs).1.node = fstL l2 ∧
    (∀ x ∈ l1, x.2.2.2 < hash ∨ (x.2.2.2 = hash ∧ x.2.1 < key)) ∧
    ((findS hash key link xs).1.found = false → ∀ x r, l2 = x :: r → hash < x.2.2.2 ∨ (hash = x.2.2.2 ∧ key < x.2.1)) ∧
    ((findS hash key link xs).1.found = true → ∃ x r, l2 = x :: r ∧ x.2.1 = key ∧ x.2.2.2 = hash ∧ (findS hash key link xs).1.val = x.2.2.1)
  | link, [] => ⟨[], [], rfl, rfl, rfl, by simp, by intro _ x r h; (cases h), by intro h; cases h⟩
  | link, x :: r => by
    obtain ⟨l1, l2, e1, e2, e3, e4, e5, e6⟩ := findS_split hash key (x.1 + 2) r
    have on : (x.2.2.2 < hash ∨ (x.2.2.2 = hash ∧ x.2.1 < key)) → ∀ y ∈ x :: l1, y.2.2.2 < hash ∨ (y.2.2.2 = hash ∧ y.2.1 < key) := by
      intro h y hy
      rcases List.mem_cons.1 hy with rfl | hy
      · exact h
      · exact e4 y hy
    unfold findS
    split
    · exact ⟨x :: l1, l2, by rw [e1]; rfl, e2, e3, on (by omega), e5, e6⟩
    · split
      · exact ⟨[], x :: r, rfl, rfl, rfl, by simp, (by intro _ y s h; cases h; omega), by intro h; cases h⟩
      · split
        · exact ⟨x :: l1, l2, by rw [e1]; rfl, e2, e3, on (by omega), e5, e6⟩
        · split
          · exact ⟨[], x :: r, rfl, rfl, rfl, by simp, (by intro _ y s h; cases h; omega), by intro h; cases h⟩
          · exact ⟨[], x :: r, rfl, rfl, rfl, by simp, (by intro h; cases h), fun _ => ⟨x, r, rfl, by omega, by omega, rfl⟩⟩
/-- Who is in a list in order is found there. -/
theorem findS_in {hash key link : Nat} {xs : List Nd} (hi : incr xs = true) {x : Nd} (hx : x ∈ xs) (hk : x.2.1 = key) (hh : x.2.2.2 = hash) : (findS hash key link xs).1.found = true ∧ (findS hash key link xs).1.node = x.1 ∧ (findS hash key link xs).1.val = x.2.2.1 := by
  obtain ⟨l1, l2, e1, e2, e3, e4, e5, e6⟩ := findS_split hash key link xs
  have hp := (incr_pw xs).1 hi
  rw [e1] at hp hx
  obtain ⟨p1, p2, p3⟩ := List.pairwise_append.1 hp
  rcases List.mem_append.1 hx with h | h
  · have := e4 x h; omega
  · cases l2 with
    | nil => cases h
    | cons y r =>
      have hy : ∀ z ∈ r, aheadN y z = true := (List.pairwise_cons.1 p2).1
      cases hf : (findS hash key link xs).1.found with
      | false =>
        have q := e5 hf y r rfl
        rcases List.mem_cons.1 h with rfl | h
        · omega
        · have := (ahead_iff _ _).1 (hy x h); omega
      | true =>
        obtain ⟨y', r', e, q1, q2, q3⟩ := e6 hf
        cases e
        rcases List.mem_cons.1 h with rfl | h
        · exact ⟨rfl, e3, q3⟩
        · have := (ahead_iff _ _).1 (hy x h); omega
/-- Put in where who seeks stands, the list stays in order. -/
theorem incr_ins {l1 l2 : List Nd} {t : Nd} (hi : incr (l1 ++ l2) = true) (h1 : ∀ x ∈ l1, x.2.2.2 < t.2.2.2 ∨ (x.2.2.2 = t.2.2.2 ∧ x.2.1 < t.2.1)) (h2 : ∀ x r, l2 = x :: r → t.2.2.2 < x.2.2.2 ∨ (t.2.2.2 = x.2.2.2 ∧ t.2.1 < x.2.1)) : incr (l1 ++ t :: l2) = true := by
  rw [incr_pw] at hi ⊢
  obtain ⟨p1, p2, p3⟩ := List.pairwise_append.1 hi
  have ht : ∀ y ∈ l2, aheadN t y = true := by
    intro y hy
    cases l2 with
    | nil => cases hy
    | cons z r =>
      have hz := (ahead_iff t z).2 (h2 z r rfl)
      rcases List.mem_cons.1 hy with rfl | hy
      · exact hz
      · exact ahead_trans hz ((List.pairwise_cons.1 p2).1 y hy)
  refine List.pairwise_append.2 ⟨p1, List.pairwise_cons.2 ⟨ht, p2⟩, fun a ha b hb => ?_⟩
  rcases List.mem_cons.1 hb with rfl | hb
  · exact (ahead_iff _ _).2 (h1 a ha)
  · exact p3 a ha b hb
theorem incr_rem {l1 l2 : List Nd} {t : Nd} (hi : incr (l1 ++ t :: l2) = true) : incr (l1 ++ l2) = true ∧ ∀ x ∈ l1 ++ l2, ¬(x.2.1 = t.2.1 ∧ x.2.2.2 = t.2.2.2) := by
  rw [incr_pw] at hi ⊢
  obtain ⟨p1, p2, p3⟩ := List.pairwise_append.1 hi
  obtain ⟨q1, q2⟩ := List.pairwise_cons.1 p2
  refine ⟨List.pairwise_append.2 ⟨p1, q2, fun a ha b hb => p3 a ha b (List.mem_cons_of_mem _ hb)⟩, fun x hx => ?_⟩
  rcases List.mem_append.1 hx with h | h
  · have := (ahead_iff _ _).1 (p3 x h t (List.mem_cons_self ..)); omega
  · have := (ahead_iff _ _).1 (q1 x h); omega
theorem incr_mid {l1 l2 : List Nd} {t : Nd} (hi : incr (l1 ++ t :: l2) = true) : t ∉ l1 := by
  rw [incr_pw] at hi
  obtain ⟨p1, p2, p3⟩ := List.pairwise_append.1 hi
  intro h
  have := (ahead_iff _ _).1 (p3 t h t (List.mem_cons_self ..)); omega
end Go.Proofs.Ytdkkjcflcegeoaa
