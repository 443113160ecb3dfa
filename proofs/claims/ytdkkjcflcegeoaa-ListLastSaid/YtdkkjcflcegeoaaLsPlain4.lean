/- Lists: the laws of putting, and cutting. Plain laws. -/
import Derived.Test.YtdkkjcflcegeoaaLsPlain3
namespace Go.Proofs.Ytdkkjcflcegeoaa
open Go.RowKit
open Go.Proofs
set_option linter.unusedVariables false

/-- Words that a list does not have may be written. -/
theorem chain_other {M : Mem} {head : Nat} {xs : List Nd} {W : List Nat} {F : Bool} (h : ChainL M head xs) (hw : ∀ w ∈ wordsL head xs, rdL W w = rdL M.W w) : ChainL ⟨W, M.L, F⟩ head xs :=
  ⟨h.nd, h.live, lnk_congr xs _ _ h.fw (hw _ (List.mem_cons_self ..)) (fun w hm => hw w (List.mem_cons_of_mem _ hm)), h.inc⟩
theorem words_ins {head : Nat} {l1 l2 : List Nd} {t : Nd} (w : Nat) : w ∈ wordsL head (l1 ++ t :: l2) ↔ w ∈ w4L t ∨ w ∈ wordsL head (l1 ++ l2) := by
  rw [wordsL_eq, wordsL_eq, wlL_append, wlL_append, wlL_cons]
  simp only [List.mem_cons, List.mem_append]
  constructor
  · rintro (h | h | h | h)
    · exact .inr (.inl h)
    · exact .inr (.inr (.inl h))
    · exact .inl (by simpa using h)
    · exact .inr (.inr (.inr h))
  · rintro (h | h | h | h)
    · exact .inr (.inr (.inl (by simpa using h)))
    · exact .inl h
    · exact .inr (.inl h)
    · exact .inr (.inr (.inr h))
theorem posL_ne {p j k : Nat} (h : j ≠ k) : posL p j ≠ posL p k := by unfold posL; omega
theorem nodup_ins {head : Nat} {l1 l2 : List Nd} {t : Nd} (hn : (wordsL head (l1 ++ l2)).Nodup) (ht : ∀ k, k < 4 → posL t.1 k ∉ wordsL head (l1 ++ l2)) : (wordsL head (l1 ++ t :: l2)).Nodup := by
  have hp : (wordsL head (l1 ++ t :: l2)).Perm (w4L t ++ wordsL head (l1 ++ l2)) := by
    rw [wordsL_eq, wordsL_eq, wlL_append, wlL_append, wlL_cons]
    have h1 : (wlL l1 ++ (w4L t ++ wlL l2)).Perm (w4L t ++ (wlL l1 ++ wlL l2)) := by
      rw [← List.append_assoc, ← List.append_assoc]
      exact List.Perm.append_right _ List.perm_append_comm
    exact (List.Perm.cons _ h1).trans List.perm_middle.symm
  rw [hp.nodup_iff, List.nodup_append]
  refine ⟨?_, hn, ?_⟩
  · simp only [List.nodup_cons, List.mem_cons, List.not_mem_nil, not_or, or_false, not_false_eq_true, List.nodup_nil, and_true]
    exact ⟨⟨posL_ne (by decide), posL_ne (by decide), posL_ne (by decide)⟩, ⟨posL_ne (by decide), posL_ne (by decide)⟩, posL_ne (by decide)⟩
  · intro a ha b hb e
    subst e
    simp only [List.mem_cons, List.not_mem_nil, or_false] at ha
    rcases ha with rfl | rfl | rfl | rfl
    · exact ht 0 (by decide) hb
    · exact ht 1 (by decide) hb
    · exact ht 2 (by decide) hb
    · exact ht 3 (by decide) hb
theorem nodup_rem {head : Nat} {l1 l2 : List Nd} {t : Nd} (hn : (wordsL head (l1 ++ t :: l2)).Nodup) : (wordsL head (l1 ++ l2)).Nodup := by
  rw [wordsL_eq, wlL_append, wlL_cons] at hn
  rw [wordsL_eq, wlL_append]
  have hs : (posL head 0 :: (wlL l1 ++ wlL l2)).Sublist (posL head 0 :: (wlL l1 ++ (w4L t ++ wlL l2))) := List.Sublist.cons_cons _ (List.Sublist.append_left (List.sublist_append_right _ _) _)
  exact hs.nodup hn
/-- The words that are stored one after another. -/
def putW (M : Mem) (t : Nd) (next : Nat) : Nat → List Nat
  | 0 => M.W
  | 1 => M.W.set (posL t.1 0) t.2.1
  | 2 => (M.W.set (posL t.1 0) t.2.1).set (posL t.1 1) t.2.2.1
  | 3 => ((M.W.set (posL t.1 0) t.2.1).set (posL t.1 1) t.2.2.1).set (posL t.1 3) t.2.2.2
  | _ => (((M.W.set (posL t.1 0) t.2.1).set (posL t.1 1) t.2.2.1).set (posL t.1 3) t.2.2.2).set (posL t.1 2) next
theorem putW_other {M : Mem} {t : Nd} {next : Nat} (hl : ∀ k, k < 4 → posL t.1 k < M.W.length) (k w : Nat) (hw : ∀ j, j < 4 → w ≠ posL t.1 j) : rdL (putW M t next k) w = rdL M.W w := by
  have h0 := hl 0 (by decide)
  have h1 := hl 1 (by decide)
  have h2 := hl 2 (by decide)
  have h3 := hl 3 (by decide)
  have g0 := hw 0 (by decide)
  have g1 := hw 1 (by decide)
  have g2 := hw 2 (by decide)
  have g3 := hw 3 (by decide)
  have e1 : rdL (M.W.set (posL t.1 0) t.2.1) w = rdL M.W w := rdL_other h0 g0
  have e2 : rdL ((M.W.set (posL t.1 0) t.2.1).set (posL t.1 1) t.2.2.1) w = rdL M.W w := by rw [rdL_other (by simpa using h1) g1]; exact e1
  have e3 : rdL (((M.W.set (posL t.1 0) t.2.1).set (posL t.1 1) t.2.2.1).set (posL t.1 3) t.2.2.2) w = rdL M.W w := by rw [rdL_other (by simpa using h3) g3]; exact e2
  match k with
  | 0 => rfl
  | 1 => exact e1
  | 2 => exact e2
  | 3 => exact e3
  | _ + 4 => show rdL ((((M.W.set (posL t.1 0) t.2.1).set (posL t.1 1) t.2.2.1).set (posL t.1 3) t.2.2.2).set (posL t.1 2) next) w = _; rw [rdL_other (by simpa using h2) g2]; exact e3
theorem putW_len (M : Mem) (t : Nd) (next k : Nat) : (putW M t next k).length = M.W.length := by
  match k with
  | 0 => rfl
  | 1 => simp [putW]
  | 2 => simp [putW]
  | 3 => simp [putW]
  | _ + 4 => simp [putW]
/-- The memory behind all stores of who puts. -/
def putM' (M : Mem) (link : Nat) (t : Nd) (next : Nat) : Mem := ⟨(putW M t next 4).set (posL link 0) t.1, M.L, M.F⟩
theorem put_law {M : Mem} {head : Nat} {xs : List Nd} {t : Nd} (hok : okM M = true) (h : ChainL M head xs) (hf : fitsP M head xs t = true) (hn : (findS t.2.2.2 t.2.1 head xs).1.found = false) :
    ∃ l1 l2, xs = l1 ++ l2 ∧ ChainL (putM' M (findS t.2.2.2 t.2.1 head xs).1.link t (findS t.2.2.2 t.2.1 head xs).1.node) head (l1 ++ t :: l2) ∧ (∀ k, k ≤ 4 → ChainL ⟨putW M t (findS t.2.2.2 t.2.1 head xs).1.node k, M.L, M.F⟩ head xs) := by
  obtain ⟨f1, f2⟩ := fitsP_spec hf
  obtain ⟨o1, o2, o3, -⟩ := okM_spec hok
  have hl : ∀ k, k < 4 → posL t.1 k < M.W.length := fun k hk => by have := live_lt (f2 k hk).1; omega
  obtain ⟨l1, l2, e1, e2, e3, e4, e5, -⟩ := findS_split t.2.2.2 t.2.1 head xs
  have off : ∀ w ∈ wordsL head xs, ∀ j, j < 4 → w ≠ posL t.1 j := fun w hw j hj e => (f2 j hj).2 (by rw [← e]; exact hw)
  have hst : ∀ k, ChainL ⟨putW M t (findS t.2.2.2 t.2.1 head xs).1.node k, M.L, M.F⟩ head xs := fun k => chain_other h fun w hw => putW_other hl k w (off w hw)
  refine ⟨l1, l2, e1, ?_, fun k _ => hst k⟩
  have hE : posL (findS t.2.2.2 t.2.1 head xs).1.link 0 = endL (posL head 0) l1 := by
    rw [e2]
    exact endA_word hok l1 head (fun w hw => h.live w (by rw [e1, words_append]; exact List.mem_append_left _ (List.mem_cons_of_mem _ hw)))
  have hEm : endL (posL head 0) l1 ∈ wordsL head xs := by rw [e1, words_append]; exact List.mem_append_left _ (endL_mem l1 _)
  have hEl : endL (posL head 0) l1 < (putW M t (findS t.2.2.2 t.2.1 head xs).1.node 4).length := by
    rw [putW_len]; have := live_lt (h.live _ hEm); omega
  have hoff := off _ hEm
  obtain ⟨nx, hnx⟩ : ∃ x, (findS t.2.2.2 t.2.1 head xs).1.node = x := ⟨_, rfl⟩
  rw [hnx] at hst hEl e3 ⊢
  unfold putM'
  rw [hE]
  have rd4 : ∀ w, w ≠ endL (posL head 0) l1 → rdL ((putW M t nx 4).set (endL (posL head 0) l1) t.1) w = rdL (putW M t nx 4) w := fun w hw => rdL_other hEl hw
  have q0 := hl 0 (by decide)
  have q1 := hl 1 (by decide)
  have q2 := hl 2 (by decide)
  have q3 := hl 3 (by decide)
  have w2 : rdL (putW M t nx 4) (posL t.1 2) = nx := rdL_same (by simpa using q2)
  have w3 : rdL (putW M t nx 4) (posL t.1 3) = t.2.2.2 := by
    show rdL ((((M.W.set (posL t.1 0) t.2.1).set (posL t.1 1) t.2.2.1).set (posL t.1 3) t.2.2.2).set (posL t.1 2) nx) (posL t.1 3) = _
    rw [rdL_other (by simpa using q2) (posL_ne (by decide)), rdL_same (by simpa using q3)]
  have w1 : rdL (putW M t nx 4) (posL t.1 1) = t.2.2.1 := by
    show rdL ((((M.W.set (posL t.1 0) t.2.1).set (posL t.1 1) t.2.2.1).set (posL t.1 3) t.2.2.2).set (posL t.1 2) nx) (posL t.1 1) = _
    rw [rdL_other (by simpa using q2) (posL_ne (by decide)), rdL_other (by simpa using q3) (posL_ne (by decide)), rdL_same (by simpa using q1)]
  have w0 : rdL (putW M t nx 4) (posL t.1 0) = t.2.1 := by
    show rdL ((((M.W.set (posL t.1 0) t.2.1).set (posL t.1 1) t.2.2.1).set (posL t.1 3) t.2.2.2).set (posL t.1 2) nx) (posL t.1 0) = _
    rw [rdL_other (by simpa using q2) (posL_ne (by decide)), rdL_other (by simpa using q3) (posL_ne (by decide)), rdL_other (by simpa using q1) (posL_ne (by decide)), rdL_same q0]
  have hne : ∀ j, j < 4 → posL t.1 j ≠ endL (posL head 0) l1 := fun j hj e => hoff j hj e.symm
  refine ⟨?_, ?_, ?_, ?_⟩
  · exact nodup_ins (by rw [← e1]; exact h.nd) (fun k hk => by rw [← e1]; exact (f2 k hk).2)
  · intro w hw
    rcases (words_ins w).1 hw with hw | hw
    · simp only [List.mem_cons, List.not_mem_nil, or_false] at hw
      rcases hw with rfl | rfl | rfl | rfl
      · exact (f2 0 (by decide)).1
      · exact (f2 1 (by decide)).1
      · exact (f2 2 (by decide)).1
      · exact (f2 3 (by decide)).1
    · exact h.live w (by rw [e1]; exact hw)
  · refine lnk_ins (W := M.W) (by rw [← e1]; exact h.nd) (by rw [← e1]; exact h.fw) f1 (fun w hw he => ?_) (rdL_same hEl) ?_ ?_ ?_ ?_
    · rw [rd4 w he]; exact putW_other hl 4 w (off w (by rw [e1]; exact hw))
    · rw [rd4 _ (hne 0 (by decide))]; exact w0
    · rw [rd4 _ (hne 1 (by decide))]; exact w1
    · rw [rd4 _ (hne 3 (by decide))]; exact w3
    · rw [rd4 _ (hne 2 (by decide)), w2]; exact e3
  · exact incr_ins (by rw [← e1]; exact h.inc) e4 (e5 hn)
/-- The memory behind who cuts. -/
def cutM (M : Mem) (link node : Nat) : Mem := ⟨M.W.set (posL link 0) (wAt M node 2), M.L, M.F⟩
theorem cut_law {M : Mem} {head hash key : Nat} {xs : List Nd} (hok : okM M = true) (h : ChainL M head xs) (hf : (findS hash key head xs).1.found = true) :
    ∃ l1 t l2, xs = l1 ++ t :: l2 ∧ t.2.1 = key ∧ t.2.2.2 = hash ∧ (findS hash key head xs).1.node = t.1 ∧ (findS hash key head xs).1.val = t.2.2.1 ∧ ChainL (cutM M (findS hash key head xs).1.link t.1) head (l1 ++ l2) ∧ wAt M t.1 2 = fstL l2 ∧ wAt (cutM M (findS hash key head xs).1.link t.1) t.1 2 = fstL l2 ∧ (∀ x ∈ l1, x.1 ≠ t.1) ∧ liveN M (posL t.1 2) = true := by
  obtain ⟨l1, l2', e1, e2, e3, e4, -, e6⟩ := findS_split hash key head xs
  obtain ⟨t, l2, rfl, q1, q2, q3⟩ := e6 hf
  obtain ⟨o1, o2, o3, -⟩ := okM_spec hok
  have hE : posL (findS hash key head xs).1.link 0 = endL (posL head 0) l1 := by
    rw [e2]
    exact endA_word hok l1 head (fun w hw => h.live w (by rw [e1, words_append]; exact List.mem_append_left _ (List.mem_cons_of_mem _ hw)))
  have hEm : endL (posL head 0) l1 ∈ wordsL head xs := by rw [e1, words_append]; exact List.mem_append_left _ (endL_mem l1 _)
  have hEl : endL (posL head 0) l1 < M.W.length := by have := live_lt (h.live _ hEm); omega
  have hnx : wAt M t.1 2 = fstL l2 := lnk_mid (W := M.W) (a := posL head 0) (l1 := l1) (by rw [← e1]; exact h.fw)
  have hnd := h.nd
  rw [e1, words_append] at hnd
  obtain ⟨n1, n2, n3⟩ := List.nodup_append.1 hnd
  have htw : ∀ k, k < 4 → posL t.1 k ∈ wlL (t :: l2) := fun k hk => mem_wlL (List.mem_cons_self ..) k hk
  have hne : posL t.1 2 ≠ endL (posL head 0) l1 := fun e => n3 _ (endL_mem l1 _) _ (htw 2 (by decide)) e.symm
  refine ⟨l1, t, l2, e1, q1, q2, e3, q3, ?_, hnx, ?_, fun x hx e => ?_, h.live _ (by rw [e1, words_append]; exact List.mem_append_right _ (htw 2 (by decide)))⟩
  · unfold cutM
    rw [hE, hnx]
    refine ⟨nodup_rem (by rw [← e1]; exact h.nd), fun w hw => h.live w (by rw [e1]; exact (words_ins w).2 (.inr hw)), ?_, (incr_rem (by rw [← e1]; exact h.inc)).1⟩
    exact lnk_rem (W := M.W) (by rw [← e1]; exact h.nd) (by rw [← e1]; exact h.fw) (fun w hw he => rdL_other hEl he) (rdL_same hEl)
  · unfold cutM
    rw [hE]
    exact (rdL_other hEl hne).trans hnx
  · have := mem_wlL (xs := l1) hx 0 (by decide)
    rw [e] at this
    exact n3 _ (List.mem_cons_of_mem _ this) _ (htw 0 (by decide)) rfl
end Go.Proofs.Ytdkkjcflcegeoaa
