/- Lists linked both ways: who goes forward while a node is put, or cut. No walk here. -/
import Derived.Test.YtoihjmdpbbcbjaaDblZ
namespace Go.Proofs.Ytoihjmdpbbcbjaa
open Go.RowKit
open Go.Proofs
set_option linter.unusedVariables false

def rdW (W : List Nat) (i : Nat) : Nat := W.getD i 0
theorem rd_set {W : List Nat} {j v i : Nat} (hj : j < W.length) : rdW (W.set j v) i = if i = j then v else rdW W i := by
  unfold rdW
  rw [List.getD_eq_getElem?_getD, List.getD_eq_getElem?_getD, List.getElem?_set]
  by_cases h : i = j
  · subst h; rw [if_pos rfl, if_pos hj, if_pos rfl]; rfl
  · rw [if_neg (fun e => h e.symm), if_neg h]
theorem rd_same {W : List Nat} {j v : Nat} (hj : j < W.length) : rdW (W.set j v) j = v := by rw [rd_set hj, if_pos rfl]
theorem rd_other {W : List Nat} {j v i : Nat} (hj : j < W.length) (h : i ≠ j) : rdW (W.set j v) i = rdW W i := by rw [rd_set hj, if_neg h]
/-- The words of nodes. -/
def w4 (t : Tw) : List Nat := [posN t.1 0, posN t.1 1, posN t.1 2, posN t.1 3]
def wl (xs : List Tw) : List Nat := xs.flatMap w4
theorem wl_cons (t : Tw) (xs : List Tw) : wl (t :: xs) = w4 t ++ wl xs := by simp [wl]
theorem wl_append (xs ys : List Tw) : wl (xs ++ ys) = wl xs ++ wl ys := by simp [wl]
theorem mem_w4 (t : Tw) (k : Nat) (hk : k < 4) : posN t.1 k ∈ w4 t := by
  match k, hk with
  | 0, _ => simp [w4]
  | 1, _ => simp [w4]
  | 2, _ => simp [w4]
  | 3, _ => simp [w4]
theorem mem_wl {t : Tw} {xs : List Tw} (h : t ∈ xs) (k : Nat) (hk : k < 4) : posN t.1 k ∈ wl xs := List.mem_flatMap.2 ⟨t, h, mem_w4 t k hk⟩
/-- Links forward, from a word on. -/
def lnk (W : List Nat) : Nat → List Tw → Prop
  | a, [] => rdW W a = 0
  | a, t :: ts => rdW W a = t.1 ∧ t.1 ≠ 0 ∧ rdW W (posN t.1 0) = t.2.1 ∧ rdW W (posN t.1 1) = t.2.2 ∧ lnk W (posN t.1 2) ts
/-- Links back. -/
def bck (W : List Nat) : Nat → List Tw → Nat → Prop
  | a, [], l => l = a
  | a, t :: ts, l => rdW W (posN t.1 3) = a ∧ bck W t.1 ts l
theorem takeP_eq (M : Mem) (p : Nat) : ∀ (ks met met' : List Nat), takeP M p ks met = some met' → met' = met ++ ks.map (posN p)
  | [], met, met', h => by cases h; simp
  | k :: ks, met, met', h => by
    unfold takeP at h
    split at h
    · rw [takeP_eq M p ks _ _ h]; simp
    · cases h
theorem takeP_mk (M : Mem) (p : Nat) : ∀ (ks met : List Nat), (met ++ ks.map (posN p)).Nodup → (∀ k ∈ ks, liveN M (posN p k) = true) → takeP M p ks met = some (met ++ ks.map (posN p))
  | [], met, hn, hl => by simp [takeP]
  | k :: ks, met, hn, hl => by
    unfold takeP
    have h1 : posN p k ∉ met := by
      intro hm
      rw [List.nodup_append] at hn
      exact hn.2.2 _ hm _ (List.mem_map.2 ⟨k, List.mem_cons_self, rfl⟩) rfl
    rw [if_pos (by unfold freeB; rw [hl k List.mem_cons_self, decide_eq_false h1]; rfl)]
    rw [takeP_mk M p ks _ (by simpa using hn) (fun j hj => hl j (List.mem_cons_of_mem _ hj))]
    simp
theorem goN_chain (M : Mem) : ∀ (f ahead place : Nat) (met : List Nat) (out out' : List Tw) (met' : List Nat) (l a : Nat), goN M f ahead place met out = some (out', met', l) → rdW M.W a = place →
    ∃ new, out' = out ++ new ∧ met' = met ++ wl new ∧ lnk M.W a new ∧ bck M.W ahead new l
  | 0, ahead, place, met, out, out', met', l, a, h, ha => by unfold goN at h; cases h
  | f + 1, ahead, place, met, out, out', met', l, a, h, ha => by
    by_cases h0 : place = 0
    · subst h0
      rw [goN_zero] at h
      cases h
      exact ⟨[], by simp, by simp [wl], ha, rfl⟩
    · cases ht : takeP M place (List.range 4) met with
      | none => rw [goN_none h0 ht] at h; cases h
      | some m2 =>
        rw [goN_some h0 ht] at h
        split at h
        · rename_i h3
          obtain ⟨new, e1, e2, e3, e4⟩ := goN_chain M f _ _ _ _ _ _ _ (posN place 2) h rfl
          have h2 := takeP_eq M place _ _ _ ht
          refine ⟨(place, wAt M place 0, wAt M place 1) :: new, by rw [e1]; simp, ?_, ⟨ha, h0, rfl, rfl, e3⟩, ⟨h3, e4⟩⟩
          rw [e2, h2, wl_cons]
          simp [w4, List.range, List.range.loop]
        · cases h
theorem goN_mk (M : Mem) : ∀ (new : List Tw) (f ahead place : Nat) (met : List Nat) (out : List Tw) (l a : Nat), lnk M.W a new → rdW M.W a = place → bck M.W ahead new l → (met ++ wl new).Nodup → (∀ w ∈ wl new, liveN M w = true) → new.length < f →
    goN M f ahead place met out = some (out ++ new, met ++ wl new, l)
  | _, 0, _, _, _, _, _, _, _, _, _, _, _, hf => by omega
  | [], f + 1, ahead, place, met, out, l, a, h1, ha, h2, hn, hl, hf => by
    have h0 : place = 0 := by rw [← ha]; exact h1
    subst h0
    rw [goN_zero]
    have : l = ahead := h2
    subst this
    simp [wl]
  | t :: ts, f + 1, ahead, place, met, out, l, a, h1, ha, h2, hn, hl, hf => by
    obtain ⟨q1, q2, q3, q4, q5⟩ := h1
    obtain ⟨b1, b2⟩ := h2
    have hp : place = t.1 := by rw [← ha]; exact q1
    subst hp
    rw [wl_cons] at hn hl
    have hr : (List.range 4).map (posN t.1) = w4 t := rfl
    have ht := takeP_mk M t.1 (List.range 4) met (by rw [hr]; rw [← List.append_assoc] at hn; exact (List.nodup_append.1 hn).1) (fun k hk => hl _ (List.mem_append_left _ (mem_w4 t k (List.mem_range.1 hk))))
    rw [goN_some q2 ht, if_pos (show wAt M t.1 3 = ahead from b1), hr]
    have := goN_mk M ts f t.1 (wAt M t.1 2) (met ++ w4 t) (out ++ [(t.1, wAt M t.1 0, wAt M t.1 1)]) l (posN t.1 2) q5 rfl b2 (by rw [List.append_assoc]; exact hn) (fun w hw => hl w (List.mem_append_right _ hw)) (by simp at hf; omega)
    rw [this]
    have e : ((t.1, wAt M t.1 0, wAt M t.1 1) : Tw) = t := by
      show (t.1, rdW M.W (posN t.1 0), rdW M.W (posN t.1 1)) = t
      rw [q3, q4]
    rw [e, wl_cons]
    simp
/-- A list lies so. -/
structure Chain (M : Mem) (head : Nat) (xs : List Tw) : Prop where
  nd : (posN head 0 :: posN head 1 :: wl xs).Nodup
  live : ∀ w ∈ posN head 0 :: posN head 1 :: wl xs, liveN M w = true
  fw : lnk M.W (posN head 0) xs
  bk : bck M.W 0 xs (rdW M.W (posN head 1))
theorem chain_of {M : Mem} {head : Nat} {xs : List Tw} {met : List Nat} (h : nodesN M head = some (xs, met)) : Chain M head xs ∧ met = posN head 0 :: posN head 1 :: wl xs := by
  obtain ⟨h1, h2, -⟩ := nodesN_spec h
  cases ht : takeP M head (List.range 2) [] with
  | none => rw [nodesN_none ht] at h; cases h
  | some m0 =>
    rw [nodesN_some ht] at h
    have e0 := takeP_eq M head _ _ _ ht
    cases hg : goN M 4101 0 (wAt M head 0) m0 [] with
    | none => rw [hg] at h; cases h
    | some r =>
      obtain ⟨o, m, a⟩ := r
      rw [hg] at h
      unfold endN at h
      dsimp only at h
      split at h
      · rename_i ha
        cases h
        obtain ⟨new, e1, e2, e3, e4⟩ := goN_chain M _ _ _ _ _ _ _ _ (posN head 0) hg rfl
        simp only [List.nil_append] at e1
        subst e1
        have em : met = posN head 0 :: posN head 1 :: wl xs := by rw [e2, e0]; rfl
        subst em
        refine ⟨⟨h1, h2, e3, ?_⟩, rfl⟩
        rw [← ha] at e4
        exact e4
      · cases h
theorem of_chain {M : Mem} {head : Nat} {xs : List Tw} (h : Chain M head xs) (hl : xs.length < 4101) : nodesN M head = some (xs, posN head 0 :: posN head 1 :: wl xs) := by
  have ht := takeP_mk M head (List.range 2) [] (by
    have := h.nd
    simp only [List.nodup_cons, List.mem_cons, not_or] at this
    show [posN head 0, posN head 1].Nodup
    simp only [List.nodup_cons, List.mem_cons, List.not_mem_nil, not_false_eq_true, List.nodup_nil, and_true, or_false]
    exact this.1.1) (fun k hk => by
      have hk := List.mem_range.1 hk
      match k, hk with
      | 0, _ => exact h.live _ (by simp)
      | 1, _ => exact h.live _ (by simp))
  rw [nodesN_some ht]
  have hg := goN_mk M xs 4101 0 (wAt M head 0) ([] ++ (List.range 2).map (posN head)) [] (rdW M.W (posN head 1)) (posN head 0) h.fw rfl h.bk h.nd (fun w hw => h.live w (List.mem_cons_of_mem _ (List.mem_cons_of_mem _ hw))) hl
  rw [hg]
  unfold endN
  dsimp only
  rw [if_pos (show wAt M head 1 = rdW M.W (posN head 1) from rfl)]
  rfl

theorem lnk_move {W W' : List Nat} : ∀ (xs : List Tw) (a a' : Nat), lnk W a xs → rdW W' a' = rdW W a → (∀ t ∈ xs, ∀ k, k < 3 → rdW W' (posN t.1 k) = rdW W (posN t.1 k)) → lnk W' a' xs
  | [], a, a', h, ha, hk => ha.trans h
  | t :: ts, a, a', ⟨q1, q2, q3, q4, q5⟩, ha, hk =>
    ⟨ha.trans q1, q2, (hk t List.mem_cons_self 0 (by decide)).trans q3, (hk t List.mem_cons_self 1 (by decide)).trans q4, lnk_move ts _ _ q5 (hk t List.mem_cons_self 2 (by decide)) (fun u hu => hk u (List.mem_cons_of_mem _ hu))⟩
theorem bck_congr {W W' : List Nat} : ∀ (xs : List Tw) (a l : Nat), bck W a xs l → (∀ t ∈ xs, rdW W' (posN t.1 3) = rdW W (posN t.1 3)) → bck W' a xs l
  | [], a, l, h, hk => h
  | t :: ts, a, l, ⟨q1, q2⟩, hk => ⟨(hk t List.mem_cons_self).trans q1, bck_congr ts _ _ q2 (fun u hu => hk u (List.mem_cons_of_mem _ hu))⟩
def endS : Nat → List Tw → Nat
  | a, [] => a
  | a, t :: ts => endS (posN t.1 2) ts
def segS (W : List Nat) : Nat → List Tw → Prop
  | a, [] => True
  | a, t :: ts => rdW W a = t.1 ∧ t.1 ≠ 0 ∧ rdW W (posN t.1 0) = t.2.1 ∧ rdW W (posN t.1 1) = t.2.2 ∧ segS W (posN t.1 2) ts
def lastP : Nat → List Tw → Nat
  | a, [] => a
  | a, t :: ts => lastP t.1 ts
def segB (W : List Nat) : Nat → List Tw → Prop
  | a, [] => True
  | a, t :: ts => rdW W (posN t.1 3) = a ∧ segB W t.1 ts
theorem lnk_append {W : List Nat} : ∀ (l1 l2 : List Tw) (a : Nat), lnk W a (l1 ++ l2) ↔ segS W a l1 ∧ lnk W (endS a l1) l2
  | [], l2, a => by simp [segS, endS]
  | t :: ts, l2, a => by
    show (_ ∧ _ ∧ _ ∧ _ ∧ lnk W (posN t.1 2) (ts ++ l2)) ↔ (_ ∧ _ ∧ _ ∧ _ ∧ segS W (posN t.1 2) ts) ∧ lnk W (endS (posN t.1 2) ts) l2
    rw [lnk_append ts l2]
    exact ⟨fun ⟨h1, h2, h3, h4, h5, h6⟩ => ⟨⟨h1, h2, h3, h4, h5⟩, h6⟩, fun ⟨⟨h1, h2, h3, h4, h5⟩, h6⟩ => ⟨h1, h2, h3, h4, h5, h6⟩⟩
theorem bck_append {W : List Nat} : ∀ (l1 l2 : List Tw) (a l : Nat), bck W a (l1 ++ l2) l ↔ segB W a l1 ∧ bck W (lastP a l1) l2 l
  | [], l2, a, l => by simp [segB, lastP]
  | t :: ts, l2, a, l => by
    show (_ ∧ bck W t.1 (ts ++ l2) l) ↔ (_ ∧ segB W t.1 ts) ∧ bck W (lastP t.1 ts) l2 l
    rw [bck_append ts l2]
    exact ⟨fun ⟨h1, h2, h3⟩ => ⟨⟨h1, h2⟩, h3⟩, fun ⟨⟨h1, h2⟩, h3⟩ => ⟨h1, h2, h3⟩⟩
theorem segB_congr {W W' : List Nat} : ∀ (xs : List Tw) (a : Nat), segB W a xs → (∀ t ∈ xs, rdW W' (posN t.1 3) = rdW W (posN t.1 3)) → segB W' a xs
  | [], a, h, hk => trivial
  | t :: ts, a, ⟨q1, q2⟩, hk => ⟨(hk t List.mem_cons_self).trans q1, segB_congr ts _ q2 (fun u hu => hk u (List.mem_cons_of_mem _ hu))⟩
theorem endS_mem : ∀ (l : List Tw) (a : Nat), endS a l ∈ a :: wl l
  | [], a => List.mem_cons_self
  | t :: ts, a => by
    have := endS_mem ts (posN t.1 2)
    show endS (posN t.1 2) ts ∈ _
    rw [wl_cons]
    rcases List.mem_cons.1 this with h | h
    · rw [h]; exact List.mem_cons_of_mem _ (List.mem_append_left _ (mem_w4 t 2 (by decide)))
    · exact List.mem_cons_of_mem _ (List.mem_append_right _ h)
theorem segS_congr {W W' : List Nat} : ∀ (l : List Tw) (a : Nat), segS W a l → (a :: wl l).Nodup → (∀ w ∈ a :: wl l, w ≠ endS a l → rdW W' w = rdW W w) → segS W' a l
  | [], a, h, hn, hk => trivial
  | t :: ts, a, ⟨q1, q2, q3, q4, q5⟩, hn, hk => by
    rw [wl_cons] at hn hk
    have he := endS_mem ts (posN t.1 2)
    rw [List.nodup_cons] at hn
    obtain ⟨n1, n2⟩ := hn
    obtain ⟨n3, n4, n5⟩ := List.nodup_append.1 n2
    have n6 : ∀ k, k < 4 → posN t.1 k ∉ wl ts := fun k hk hm => n5 _ (mem_w4 t k hk) _ hm rfl
    have n7 : posN t.1 0 ≠ posN t.1 2 ∧ posN t.1 1 ≠ posN t.1 2 := by unfold posN; omega
    have e2 : ∀ w ∈ w4 t, endS (posN t.1 2) ts = w → w = posN t.1 2 := by
      intro w hw e
      rcases List.mem_cons.1 he with h | h
      · rw [← e, h]
      · rw [e] at h; exact absurd rfl (n5 _ hw _ h)
    refine ⟨?_, q2, ?_, ?_, segS_congr ts _ q5 ?_ ?_⟩
    · refine (hk a List.mem_cons_self ?_).trans q1
      intro e
      apply n1
      rw [show a = endS (posN t.1 2) ts from e]
      rcases List.mem_cons.1 he with h | h
      · rw [h]; exact List.mem_append_left _ (mem_w4 t 2 (by decide))
      · exact List.mem_append_right _ h
    · exact (hk _ (List.mem_cons_of_mem _ (List.mem_append_left _ (mem_w4 t 0 (by decide)))) (fun e => n7.1 (e2 _ (mem_w4 t 0 (by decide)) e.symm))).trans q3
    · exact (hk _ (List.mem_cons_of_mem _ (List.mem_append_left _ (mem_w4 t 1 (by decide)))) (fun e => n7.2 (e2 _ (mem_w4 t 1 (by decide)) e.symm))).trans q4
    · exact List.nodup_cons.2 ⟨n6 2 (by decide), n4⟩
    · intro w hw hne
      refine hk w ?_ hne
      rcases List.mem_cons.1 hw with h | h
      · rw [h]; exact List.mem_cons_of_mem _ (List.mem_append_left _ (mem_w4 t 2 (by decide)))
      · exact List.mem_cons_of_mem _ (List.mem_append_right _ h)
/-- Words of nodes at different numbers are different. -/
theorem wl_ne : ∀ (xs : List Tw), (wl xs).Nodup → ∀ t ∈ xs, ∀ u ∈ xs, ∀ k j, k < 4 → j < 4 → k ≠ j → posN t.1 k ≠ posN u.1 j
  | [], _, t, ht, _, _, _, _, _, _, _ => by cases ht
  | x :: xs, hn, t, ht, u, hu, k, j, hk, hj, hkj => by
    rw [wl_cons] at hn
    obtain ⟨n1, n2, n3⟩ := List.nodup_append.1 hn
    rcases List.mem_cons.1 ht with e1 | ht' <;> rcases List.mem_cons.1 hu with e2 | hu'
    · rw [e1, e2]; unfold posN; omega
    · rw [e1]; exact n3 _ (mem_w4 x k hk) _ (mem_wl hu' j hj)
    · rw [e2]; exact fun e => n3 _ (mem_w4 x j hj) _ (mem_wl ht' k hk) e.symm
    · exact wl_ne xs n2 t ht' u hu' k j hk hj hkj
theorem endS_form : ∀ (l : List Tw) (a : Nat), (l = [] ∧ endS a l = a) ∨ (∃ u ∈ l, endS a l = posN u.1 2)
  | [], a => .inl ⟨rfl, rfl⟩
  | x :: xs, a => by
    rcases endS_form xs (posN x.1 2) with ⟨e0, e⟩ | ⟨u, hu, e⟩
    · exact .inr ⟨x, List.mem_cons_self, by show endS (posN x.1 2) xs = _; exact e⟩
    · exact .inr ⟨u, List.mem_cons_of_mem _ hu, e⟩
/-- The word that leads to what stands behind, from behind. -/
def bckSlot (head : Nat) : List Tw → Nat
  | [] => posN head 1
  | n :: _ => posN n.1 3
def fstP : List Tw → Nat
  | [] => 0
  | n :: _ => n.1
theorem lnk_fst {W : List Nat} {a : Nat} {xs : List Tw} (h : lnk W a xs) : rdW W a = fstP xs := by
  cases xs with
  | nil => exact h
  | cons t ts => exact h.1
theorem bckSlot_mem (head : Nat) (l : List Tw) : bckSlot head l ∈ posN head 1 :: wl l := by
  cases l with
  | nil => exact List.mem_cons_self
  | cons n ns => exact List.mem_cons_of_mem _ (mem_wl List.mem_cons_self 3 (by decide))
/-- The words of a list in two parts are apart. -/
structure Parts (head : Nat) (l1 l2 : List Tw) : Prop where
  n1 : (posN head 0 :: wl l1).Nodup
  n2 : (wl l2).Nodup
  d12 : ∀ x ∈ posN head 0 :: wl l1, ∀ y ∈ posN head 1 :: wl l2, x ≠ y
  h1 : posN head 1 ∉ wl l2
theorem parts_of {head : Nat} {l1 l2 : List Tw} (h : (posN head 0 :: posN head 1 :: wl (l1 ++ l2)).Nodup) : Parts head l1 l2 := by
  rw [wl_append] at h
  simp only [List.nodup_cons, List.mem_cons, List.mem_append, not_or] at h
  obtain ⟨⟨a1, a2, a3⟩, ⟨b1, b2⟩, c⟩ := h
  obtain ⟨c1, c2, c3⟩ := List.nodup_append.1 c
  refine ⟨List.nodup_cons.2 ⟨a2, c1⟩, c2, ?_, b2⟩
  intro x hx y hy e
  subst e
  rcases List.mem_cons.1 hx with rfl | hx <;> rcases List.mem_cons.1 hy with hy | hy
  · exact a1 hy
  · exact a3 hy
  · rw [hy] at hx; exact b1 hx
  · exact c3 _ hx _ hy rfl
theorem lnk_ins {W W' : List Nat} {head : Nat} {l1 l2 : List Tw} {t : Tw} (hp : Parts head l1 l2) (hf : lnk W (posN head 0) (l1 ++ l2)) (ht0 : t.1 ≠ 0)
    (h0 : rdW W' (posN t.1 0) = t.2.1) (h1 : rdW W' (posN t.1 1) = t.2.2) (h2 : rdW W' (posN t.1 2) = rdW W (endS (posN head 0) l1)) (he : rdW W' (endS (posN head 0) l1) = t.1)
    (ho : ∀ w ∈ posN head 0 :: posN head 1 :: wl (l1 ++ l2), w ≠ endS (posN head 0) l1 → w ≠ bckSlot head l2 → rdW W' w = rdW W w) : lnk W' (posN head 0) (l1 ++ t :: l2) := by
  obtain ⟨s1, s2⟩ := (lnk_append l1 l2 _).1 hf
  have hE := endS_mem l1 (posN head 0)
  have hB := bckSlot_mem head l2
  refine (lnk_append l1 (t :: l2) _).2 ⟨segS_congr l1 _ s1 hp.n1 (fun w hw hne => ?_), he, ht0, h0, h1, lnk_move l2 _ _ s2 h2 (fun u hu k hk => ?_)⟩
  · refine ho w ?_ hne (hp.d12 _ hw _ hB)
    rw [wl_append]
    rcases List.mem_cons.1 hw with h | h
    · rw [h]; exact List.mem_cons_self
    · exact List.mem_cons_of_mem _ (List.mem_cons_of_mem _ (List.mem_append_left _ h))
  · have hm := mem_wl hu k (by omega)
    refine ho _ ?_ (fun e => hp.d12 _ hE _ (List.mem_cons_of_mem _ hm) e.symm) ?_
    · rw [wl_append]; exact List.mem_cons_of_mem _ (List.mem_cons_of_mem _ (List.mem_append_right _ hm))
    · cases l2 with
      | nil => cases hu
      | cons n ns => exact wl_ne _ hp.n2 u hu n List.mem_cons_self k 3 (by omega) (by decide) (by omega)
theorem bck_ins {W W' : List Nat} {head : Nat} {l1 l2 : List Tw} {t : Tw} (hp : Parts head l1 l2) (hf : bck W 0 (l1 ++ l2) (rdW W (posN head 1)))
    (h3 : rdW W' (posN t.1 3) = lastP 0 l1) (hb : rdW W' (bckSlot head l2) = t.1)
    (ho : ∀ w ∈ posN head 0 :: posN head 1 :: wl (l1 ++ l2), w ≠ endS (posN head 0) l1 → w ≠ bckSlot head l2 → rdW W' w = rdW W w) : bck W' 0 (l1 ++ t :: l2) (rdW W' (posN head 1)) := by
  obtain ⟨s1, s2⟩ := (bck_append l1 l2 _ _).1 hf
  have hE := endS_mem l1 (posN head 0)
  have hB := bckSlot_mem head l2
  refine (bck_append l1 (t :: l2) _ _).2 ⟨segB_congr l1 _ s1 (fun u hu => ?_), h3, ?_⟩
  · have hm := mem_wl hu 3 (by decide)
    refine ho _ ?_ ?_ (hp.d12 _ (List.mem_cons_of_mem _ hm) _ hB)
    · rw [wl_append]; exact List.mem_cons_of_mem _ (List.mem_cons_of_mem _ (List.mem_append_left _ hm))
    · rcases endS_form l1 (posN head 0) with ⟨e0, e⟩ | ⟨v, hv, e⟩
      · rw [e0] at hu; cases hu
      · rw [e]; exact wl_ne _ (List.nodup_cons.1 hp.n1).2 u hu v hv 3 2 (by decide) (by decide) (by decide)
  · cases l2 with
    | nil => exact hb
    | cons n ns =>
      obtain ⟨r1, r2⟩ := s2
      refine ⟨hb, ?_⟩
      have h1 : rdW W' (posN head 1) = rdW W (posN head 1) := by
        refine ho _ (by simp) (fun e => hp.d12 _ hE _ List.mem_cons_self e.symm) (fun e => hp.h1 ?_)
        rw [e]; exact mem_wl List.mem_cons_self 3 (by decide)
      rw [h1]
      refine bck_congr ns _ _ r2 (fun u hu => ?_)
      have hm := mem_wl (List.mem_cons_of_mem n hu) 3 (by decide)
      refine ho _ ?_ (fun e => hp.d12 _ hE _ (List.mem_cons_of_mem _ hm) e.symm) ?_
      · rw [wl_append]; exact List.mem_cons_of_mem _ (List.mem_cons_of_mem _ (List.mem_append_right _ hm))
      · have := hp.n2
        rw [wl_cons] at this
        exact fun e => (List.nodup_append.1 this).2.2 _ (mem_w4 n 3 (by decide)) _ (mem_wl hu 3 (by decide)) e.symm
theorem lnk_rem {W W' : List Nat} {head : Nat} {l1 l2 : List Tw} {t : Tw} (hp : Parts head l1 (t :: l2)) (hf : lnk W (posN head 0) (l1 ++ t :: l2))
    (he : rdW W' (endS (posN head 0) l1) = fstP l2)
    (ho : ∀ w ∈ posN head 0 :: posN head 1 :: wl (l1 ++ t :: l2), w ≠ endS (posN head 0) l1 → w ≠ bckSlot head l2 → rdW W' w = rdW W w) : lnk W' (posN head 0) (l1 ++ l2) := by
  obtain ⟨s1, s2⟩ := (lnk_append l1 (t :: l2) _).1 hf
  have hE := endS_mem l1 (posN head 0)
  have hB : bckSlot head l2 ∈ posN head 1 :: wl (t :: l2) := by
    rcases List.mem_cons.1 (bckSlot_mem head l2) with h | h
    · rw [h]; exact List.mem_cons_self
    · rw [wl_cons]; exact List.mem_cons_of_mem _ (List.mem_append_right _ h)
  refine (lnk_append l1 l2 _).2 ⟨segS_congr l1 _ s1 hp.n1 (fun w hw hne => ?_), lnk_move l2 _ _ s2.2.2.2.2 ?_ (fun u hu k hk => ?_)⟩
  · refine ho w ?_ hne (hp.d12 _ hw _ hB)
    rw [wl_append]
    rcases List.mem_cons.1 hw with h | h
    · rw [h]; exact List.mem_cons_self
    · exact List.mem_cons_of_mem _ (List.mem_cons_of_mem _ (List.mem_append_left _ h))
  · rw [he]; exact (lnk_fst s2.2.2.2.2).symm
  · have hm := mem_wl (List.mem_cons_of_mem t hu) k (by omega)
    refine ho _ ?_ (fun e => hp.d12 _ hE _ (List.mem_cons_of_mem _ hm) e.symm) ?_
    · rw [wl_append]; exact List.mem_cons_of_mem _ (List.mem_cons_of_mem _ (List.mem_append_right _ hm))
    · cases l2 with
      | nil => cases hu
      | cons n ns => exact wl_ne _ hp.n2 u (List.mem_cons_of_mem _ hu) n (List.mem_cons_of_mem _ List.mem_cons_self) k 3 (by omega) (by decide) (by omega)
theorem bck_rem {W W' : List Nat} {head : Nat} {l1 l2 : List Tw} {t : Tw} (hp : Parts head l1 (t :: l2)) (hf : bck W 0 (l1 ++ t :: l2) (rdW W (posN head 1)))
    (hb : rdW W' (bckSlot head l2) = lastP 0 l1)
    (ho : ∀ w ∈ posN head 0 :: posN head 1 :: wl (l1 ++ t :: l2), w ≠ endS (posN head 0) l1 → w ≠ bckSlot head l2 → rdW W' w = rdW W w) : bck W' 0 (l1 ++ l2) (rdW W' (posN head 1)) := by
  obtain ⟨s1, s2⟩ := (bck_append l1 (t :: l2) _ _).1 hf
  have hE := endS_mem l1 (posN head 0)
  have hB : bckSlot head l2 ∈ posN head 1 :: wl (t :: l2) := by
    rcases List.mem_cons.1 (bckSlot_mem head l2) with h | h
    · rw [h]; exact List.mem_cons_self
    · rw [wl_cons]; exact List.mem_cons_of_mem _ (List.mem_append_right _ h)
  refine (bck_append l1 l2 _ _).2 ⟨segB_congr l1 _ s1 (fun u hu => ?_), ?_⟩
  · have hm := mem_wl hu 3 (by decide)
    refine ho _ ?_ ?_ (hp.d12 _ (List.mem_cons_of_mem _ hm) _ hB)
    · rw [wl_append]; exact List.mem_cons_of_mem _ (List.mem_cons_of_mem _ (List.mem_append_left _ hm))
    · rcases endS_form l1 (posN head 0) with ⟨e0, e⟩ | ⟨v, hv, e⟩
      · rw [e0] at hu; cases hu
      · rw [e]; exact wl_ne _ (List.nodup_cons.1 hp.n1).2 u hu v hv 3 2 (by decide) (by decide) (by decide)
  · obtain ⟨r1, r2⟩ := s2
    cases l2 with
    | nil => exact hb
    | cons n ns =>
      obtain ⟨r3, r4⟩ := r2
      refine ⟨hb, ?_⟩
      have h1 : rdW W' (posN head 1) = rdW W (posN head 1) := by
        refine ho _ (by simp) (fun e => hp.d12 _ hE _ List.mem_cons_self e.symm) (fun e => hp.h1 ?_)
        rw [e]; exact mem_wl (List.mem_cons_of_mem _ List.mem_cons_self) 3 (by decide)
      rw [h1]
      refine bck_congr ns _ _ r4 (fun u hu => ?_)
      have hm := mem_wl (List.mem_cons_of_mem t (List.mem_cons_of_mem n hu)) 3 (by decide)
      refine ho _ ?_ (fun e => hp.d12 _ hE _ (List.mem_cons_of_mem _ hm) e.symm) ?_
      · rw [wl_append]; exact List.mem_cons_of_mem _ (List.mem_cons_of_mem _ (List.mem_append_right _ hm))
      · have := hp.n2
        rw [wl_cons, wl_cons] at this
        have := (List.nodup_append.1 this).2.1
        exact fun e => (List.nodup_append.1 this).2.2 _ (mem_w4 n 3 (by decide)) _ (mem_wl hu 3 (by decide)) e.symm
theorem endS_snoc : ∀ (l : List Tw) (u : Tw) (a : Nat), endS a (l ++ [u]) = posN u.1 2
  | [], u, a => rfl
  | x :: xs, u, a => endS_snoc xs u _
theorem lastP_snoc : ∀ (l : List Tw) (u : Tw) (a : Nat), lastP a (l ++ [u]) = u.1
  | [], u, a => rfl
  | x :: xs, u, a => lastP_snoc xs u _
theorem segS_ne : ∀ {W : List Nat} (l : List Tw) (a : Nat), segS W a l → ∀ t ∈ l, t.1 ≠ 0
  | W, [], a, h, t, ht => by cases ht
  | W, x :: xs, a, h, t, ht => by
    rcases List.mem_cons.1 ht with rfl | ht
    · exact h.2.1
    · exact segS_ne xs _ h.2.2.2.2 t ht
theorem end_from (head : Nat) (l : List Tw) (h : ∀ t ∈ l, t.1 ≠ 0) : endS (posN head 0) l = if lastP 0 l = 0 then posN head 0 else posN (lastP 0 l) 2 := by
  revert h
  refine snocRec (p := fun l => (∀ t ∈ l, t.1 ≠ 0) → endS (posN head 0) l = if lastP 0 l = 0 then posN head 0 else posN (lastP 0 l) 2) (fun _ => rfl) (fun l u _ hu => ?_) l
  rw [endS_snoc, lastP_snoc, if_neg (hu u (by simp))]
theorem slot_back (head : Nat) (l : List Tw) (h : ∀ t ∈ l, t.1 ≠ 0) : bckSlot head l = if fstP l = 0 then posN head 1 else posN (fstP l) 3 := by
  cases l with
  | nil => rfl
  | cons n ns => show posN n.1 3 = if n.1 = 0 then _ else _; rw [if_neg (h n List.mem_cons_self)]; rfl
/-- Who goes forward. -/
def fwdG (W : List Nat) : Nat → Nat → List Nat → List Nat × Bool
  | 0, _, out => (out, false)
  | f + 1, a, out => if W.length ≤ a then (out, false) else if rdW W a = 0 then (out, true) else fwdG W f ((rdW W a + 2) % 18446744073709551616) (out ++ [rdW W a])
theorem fwdG_chain {W : List Nat} (hW : W.length ≤ 9223372036854775807) : ∀ (xs : List Tw) (a f : Nat) (out : List Nat), lnk W a xs → a < W.length → (∀ t ∈ xs, posN t.1 2 = t.1 + 2 ∧ t.1 + 2 < W.length) → xs.length < f → fwdG W f a out = (out ++ xs.map (·.1), true)
  | _, _, 0, _, _, _, _, hf => by omega
  | [], a, f + 1, out, h, ha, hs, hf => by
    unfold fwdG
    rw [if_neg (by omega), if_pos (show rdW W a = 0 from h)]
    simp
  | t :: ts, a, f + 1, out, h, ha, hs, hf => by
    obtain ⟨q1, q2, q3, q4, q5⟩ := h
    obtain ⟨e1, e2⟩ := hs t List.mem_cons_self
    unfold fwdG
    rw [if_neg (by omega), q1, if_neg q2]
    rw [e1] at q5
    rw [Nat.mod_eq_of_lt (by omega)]
    rw [fwdG_chain hW ts _ f _ q5 e2 (fun u hu => hs u (List.mem_cons_of_mem _ hu)) (by simp at hf; omega)]
    simp

/-- So many steps. -/
def itE : Nat → Mem → Ed → Mem × Ed
  | 0, M, s => (M, s)
  | k + 1, M, s => stepE (itE k M s).1 (itE k M s).2
theorem stepE_idle {M : Mem} {s : Ed} (h : 9 ≤ s.ph) : stepE M s = (M, s) := by unfold stepE; rw [if_pos h]
theorem itE_front : ∀ (k : Nat) (M : Mem) (s : Ed), itE (k + 1) M s = itE k (stepE M s).1 (stepE M s).2
  | 0, M, s => rfl
  | k + 1, M, s => by
    show stepE (itE (k + 1) M s).1 (itE (k + 1) M s).2 = _
    rw [itE_front k M s]
    rfl
theorem itE_idle {M : Mem} {s : Ed} (h : 9 ≤ s.ph) : ∀ k, itE k M s = (M, s)
  | 0 => rfl
  | k + 1 => by show stepE (itE k M s).1 (itE k M s).2 = _; rw [itE_idle h k]; exact stepE_idle h
theorem runE_it : ∀ (f : Nat) (M : Mem) (s : Ed) (n : Nat), (runE f M s n).1 = (itE f M s).1
  | 0, M, s, n => rfl
  | f + 1, M, s, n => by
    unfold runE
    split
    · rw [runE_it f, itE_front]
    · rename_i h
      rw [itE_idle (by omega)]
theorem itE_ok {M : Mem} {s : Ed} (hM : okM M = true) (hW : Wok M) (hs : s.Ok) (hp : 0 ≤ s.ph) (hp10 : s.ph ≤ 10) : ∀ k, okM (itE k M s).1 = true ∧ Wok (itE k M s).1 ∧ (itE k M s).2.Ok ∧ 0 ≤ (itE k M s).2.ph ∧ (itE k M s).2.ph ≤ 10 ∧ (itE k M s).1.W.length = M.W.length ∧ (itE k M s).1.L = M.L
  | 0 => ⟨hM, hW, hs, hp, hp10, rfl, rfl⟩
  | k + 1 => by
    obtain ⟨q1, q2, q3, q4, q5, q6, q7⟩ := itE_ok hM hW hs hp hp10 k
    obtain ⟨r1, r2, r3, r4, r5⟩ := stepE_ok q1 q2 q3 q4
    have hl : (stepE (itE k M s).1 (itE k M s).2).1.W.length = (itE k M s).1.W.length ∧ (stepE (itE k M s).1 (itE k M s).2).1.L = (itE k M s).1.L := by
      unfold stepE
      split
      · exact ⟨rfl, rfl⟩
      · unfold accR
        exact ⟨stepM_len _ _ _ _, stepM_L _ _ _ _⟩
    refine ⟨r1, r2, r3, r5, ?_, hl.1.trans q6, hl.2.trans q7⟩
    by_cases h9 : (itE k M s).2.ph < 9
    · exact (r4 h9).2
    · show (stepE _ _).2.ph ≤ 10
      rw [stepE_idle (by omega)]; exact q5
theorem liveAt_nat (M : Mem) (a : Nat) : liveAt M ((a : Nat) : Int) = liveN M a := by unfold liveAt liveN; simp
theorem step_st {M : Mem} {s : Ed} (k : Nat) (hk : s.ph = ((k : Nat) : Int)) (h9 : k < 9) (hs : accS k = true) (hl : liveN M (accA s k) = true) :
    stepE M s = (⟨M.W.set (accA s k) (accW s k), M.L, M.F⟩, { s with ph := if k = 4 then 7 else ((k : Nat) : Int) + 1 }) := by
  have hr : accR M s k = (⟨M.W.set (accA s k) (accW s k), M.L, M.F⟩, M.W.getD (accA s k) 0, true) := by
    unfold accR stepM
    rw [if_pos (by rw [liveAt_nat]; exact hl), if_pos hs]
    rfl
  have ha : ∀ v d, aftE s k v d = s := by
    intro v d
    match k, hs with
    | 0, _ => rfl
    | 1, _ => rfl
    | 2, h => exact absurd h (by decide)
    | 3, _ => rfl
    | 4, _ => rfl
    | 5, h => exact absurd h (by decide)
    | 6, h => exact absurd h (by decide)
    | k + 7, _ => rfl
  unfold stepE
  rw [if_neg (by omega)]
  have hn : s.ph.toNat = k := by omega
  rw [hn, hr, ha]
  unfold nextPh
  rw [if_neg (show ¬ (true = false) by decide)]
theorem step_ld {M : Mem} {s : Ed} (k : Nat) (hk : s.ph = ((k : Nat) : Int)) (h9 : k < 9) (h4 : k ≠ 4) (hs : accS k = false) (hl : liveN M (accA s k) = true) :
    stepE M s = (M, { aftE s k (rdW M.W (accA s k)) true with ph := ((k : Nat) : Int) + 1 }) := by
  have hr : accR M s k = (M, M.W.getD (accA s k) 0, true) := by
    unfold accR stepM
    rw [if_pos (by rw [liveAt_nat]; exact hl), if_neg (by rw [hs]; decide)]
    rfl
  unfold stepE
  rw [if_neg (by omega)]
  have hn : s.ph.toNat = k := by omega
  rw [hn, hr]
  unfold nextPh
  rw [if_neg (show ¬ (true = false) by decide), if_neg h4]
  rfl
/-- What who goes forward meets, while a list is changed. -/
structure FwdL (M : Mem) (head : Nat) (s0 : Ed) (was is : List Nat) : Prop where
  each : ∀ k, k < 9 → fwdG (itE k M s0).1.W 20 head [] = (if 7 < (itE k M s0).2.ph then is else was, true)
  last : (itE 9 M s0).2.ph = 9 ∧ (itE 9 M s0).1.F = M.F ∧ ∃ xs', lookN (itE 9 M s0).1 head = (xs', 0) ∧ is = xs'.map (·.1)
theorem live_small {M : Mem} {p k : Nat} (h : liveN M (posN p k) = true) (hl : M.L.length ≤ 48) : posN p k = p + k ∧ p + k < M.L.length := by
  have := live_lt h
  unfold posN at this ⊢
  omega
theorem fwd_of {M : Mem} {head : Nat} {xs : List Tw} {W : List Nat} (hok : okM M = true) (hl : M.L.length ≤ 48) (hW : W.length = M.W.length) (hh : liveN M (posN head 0) = true) (hx : ∀ t ∈ xs, liveN M (posN t.1 2) = true) (hn : xs.length < 20) (h : lnk W (posN head 0) xs) : fwdG W 20 head [] = (xs.map (·.1), true) := by
  obtain ⟨q1, q2, q3, -⟩ := okM_spec hok
  obtain ⟨e1, e2⟩ := live_small hh hl
  rw [e1, Nat.add_zero] at h
  rw [fwdG_chain (by omega) xs head 20 [] h (by omega) (fun t ht => by have := live_small (hx t ht) hl; exact ⟨this.1, by omega⟩) hn]
  simp
theorem chain_len {M : Mem} {head : Nat} {xs : List Tw} (h : Chain M head xs) (hl : M.L.length ≤ 48) : xs.length ≤ 11 := by
  have h1 := nodup_lt h.nd (fun x hx => live_lt (h.live x hx))
  have : ∀ ys : List Tw, (wl ys).length = 4 * ys.length := by
    intro ys
    induction ys with
    | nil => rfl
    | cons y ys ih => rw [wl_cons, List.length_append, ih]; simp [w4]; omega
  simp only [List.length_cons, this] at h1
  omega
theorem lookN_chain {M : Mem} {head : Nat} {xs : List Tw} (hok : okM M = true) (h : Chain M head xs) (hl : M.L.length ≤ 48) : lookN M head = (xs, 0) := by
  have := chain_len h hl
  exact lookN_some hok (of_chain h (by omega))
theorem split_of {xs : List Tw} {p : Nat} (h : hasN xs p = true) : ∃ l1 u l2, xs = l1 ++ u :: l2 ∧ u.1 = p := by
  unfold hasN at h
  obtain ⟨u, hu, hp⟩ := List.any_eq_true.1 h
  obtain ⟨l1, l2, e⟩ := List.append_of_mem hu
  exact ⟨l1, u, l2, e, by simpa using hp⟩
theorem put_law {M : Mem} {head prev : Nat} {t : Tw} {xs l1 l2 : List Tw} (hok : okM M = true) (hW : Wok M) (hl : M.L.length ≤ 48) (hhd : head < 18446744073709551616) (hpv : prev < 18446744073709551616) (htb : t.1 < 18446744073709551616 ∧ t.2.1 < 18446744073709551616 ∧ t.2.2 < 18446744073709551616)
    (hc : Chain M head xs) (hx : xs = l1 ++ l2) (hlast : lastP 0 l1 = prev) (ht0 : t.1 ≠ 0) (hfr : ∀ k, k < 4 → liveN M (posN t.1 k) = true ∧ posN t.1 k ∉ posN head 0 :: posN head 1 :: wl xs) :
    FwdL M head (putE head prev t) (xs.map (·.1)) ((l1 ++ t :: l2).map (·.1)) ∧ lookN (itE 9 M (putE head prev t)).1 head = (l1 ++ t :: l2, 0) := by
  obtain ⟨q1, q2, q3, -⟩ := okM_spec hok
  have hP := parts_of (head := head) (l1 := l1) (l2 := l2) (by rw [← hx]; exact hc.nd)
  have hf := hc.fw
  have hb := hc.bk
  rw [hx] at hf hb
  have hsg := (lnk_append l1 l2 _).1 hf
  have hne1 := segS_ne l1 _ hsg.1
  have hnx := lnk_fst hsg.2
  have hne2 : ∀ u ∈ l2, u.1 ≠ 0 := by
    have : ∀ (l : List Tw) (a : Nat), lnk M.W a l → ∀ u ∈ l, u.1 ≠ 0 := by
      intro l
      induction l with
      | nil => intro a h u hu; cases hu
      | cons y ys ih =>
        intro a h u hu
        rcases List.mem_cons.1 hu with rfl | hu'
        · exact h.2.1
        · exact ih _ h.2.2.2.2 u hu'
    exact this l2 _ hsg.2
  have hfe := end_from head l1 hne1
  rw [hlast] at hfe
  have hbe := slot_back head l2 hne2
  have hE := endS_mem l1 (posN head 0)
  have hB := bckSlot_mem head l2
  have hEx : endS (posN head 0) l1 ∈ posN head 0 :: posN head 1 :: wl xs := by
    rw [hx, wl_append]
    rcases List.mem_cons.1 hE with h | h
    · rw [h]; exact List.mem_cons_self
    · exact List.mem_cons_of_mem _ (List.mem_cons_of_mem _ (List.mem_append_left _ h))
  have hBx : bckSlot head l2 ∈ posN head 0 :: posN head 1 :: wl xs := by
    rw [hx, wl_append]
    rcases List.mem_cons.1 hB with h | h
    · rw [h]; exact List.mem_cons_of_mem _ List.mem_cons_self
    · exact List.mem_cons_of_mem _ (List.mem_cons_of_mem _ (List.mem_append_right _ h))
  have hEB : endS (posN head 0) l1 ≠ bckSlot head l2 := hP.d12 _ hE _ hB
  obtain ⟨p, key, val⟩ := t
  dsimp only at ht0 hfr htb
  obtain ⟨fr, hfrE⟩ : ∃ fr, endS (posN head 0) l1 = fr := ⟨_, rfl⟩
  obtain ⟨bk, hbkE⟩ : ∃ bk, bckSlot head l2 = bk := ⟨_, rfl⟩
  rw [hfrE] at hfe hEx hEB hE hnx
  rw [hbkE] at hbe hBx hEB hB
  have lv : ∀ w, liveN M w = true → w < M.W.length := fun w h => by have := live_lt h; omega
  have l0 := lv _ (hfr 0 (by decide)).1
  have l1' := lv _ (hfr 1 (by decide)).1
  have l2' := lv _ (hfr 2 (by decide)).1
  have l3 := lv _ (hfr 3 (by decide)).1
  have lf := lv _ (hc.live _ hEx)
  have lb := lv _ (hc.live _ hBx)
  have nw : ∀ w ∈ posN head 0 :: posN head 1 :: wl xs, ∀ k, k < 4 → w ≠ posN p k := fun w hw k hk e => (hfr k hk).2 (by rw [← e]; exact hw)
  have nf := nw fr hEx
  have nb := nw bk hBx
  have np : ∀ j k, j ≠ k → posN p j ≠ posN p k := fun j k h => by unfold posN; omega
  -- the memories on the way
  obtain ⟨A1, hA1⟩ : ∃ A, M.W.set (posN p 0) key = A := ⟨_, rfl⟩
  obtain ⟨A2, hA2⟩ : ∃ A, A1.set (posN p 1) val = A := ⟨_, rfl⟩
  obtain ⟨A3, hA3⟩ : ∃ A, A2.set (posN p 2) (fstP l2) = A := ⟨_, rfl⟩
  obtain ⟨A4, hA4⟩ : ∃ A, A3.set (posN p 3) prev = A := ⟨_, rfl⟩
  obtain ⟨A5, hA5⟩ : ∃ A, A4.set fr p = A := ⟨_, rfl⟩
  obtain ⟨A6, hA6⟩ : ∃ A, A5.set bk p = A := ⟨_, rfl⟩
  have z1 : A1.length = M.W.length := by rw [← hA1]; simp
  have z2 : A2.length = M.W.length := by rw [← hA2]; simp [z1]
  have z3 : A3.length = M.W.length := by rw [← hA3]; simp [z2]
  have z4 : A4.length = M.W.length := by rw [← hA4]; simp [z3]
  have z5 : A5.length = M.W.length := by rw [← hA5]; simp [z4]
  have z6 : A6.length = M.W.length := by rw [← hA6]; simp [z5]
  have r1 : ∀ i, rdW A1 i = if i = posN p 0 then key else rdW M.W i := fun i => by rw [← hA1]; exact rd_set l0
  have r2 : ∀ i, rdW A2 i = if i = posN p 1 then val else rdW A1 i := fun i => by rw [← hA2]; exact rd_set (by omega)
  have r3 : ∀ i, rdW A3 i = if i = posN p 2 then fstP l2 else rdW A2 i := fun i => by rw [← hA3]; exact rd_set (by omega)
  have r4 : ∀ i, rdW A4 i = if i = posN p 3 then prev else rdW A3 i := fun i => by rw [← hA4]; exact rd_set (by omega)
  have r5 : ∀ i, rdW A5 i = if i = fr then p else rdW A4 i := fun i => by rw [← hA5]; exact rd_set (by omega)
  have r6 : ∀ i, rdW A6 i = if i = bk then p else rdW A5 i := fun i => by rw [← hA6]; exact rd_set (by omega)
  let tr : Nat → Mem × Ed := fun k => match k with
    | 0 => (M, ⟨0, false, head, p, key, val, prev, 0⟩)
    | 1 => (⟨A1, M.L, M.F⟩, ⟨1, false, head, p, key, val, prev, 0⟩)
    | 2 => (⟨A2, M.L, M.F⟩, ⟨2, false, head, p, key, val, prev, 0⟩)
    | 3 => (⟨A2, M.L, M.F⟩, ⟨3, false, head, p, key, val, prev, fstP l2⟩)
    | 4 => (⟨A3, M.L, M.F⟩, ⟨4, false, head, p, key, val, prev, fstP l2⟩)
    | 5 => (⟨A4, M.L, M.F⟩, ⟨7, false, head, p, key, val, prev, fstP l2⟩)
    | 6 => (⟨A5, M.L, M.F⟩, ⟨8, false, head, p, key, val, prev, fstP l2⟩)
    | _ => (⟨A6, M.L, M.F⟩, ⟨9, false, head, p, key, val, prev, fstP l2⟩)
  have LV : ∀ (A : List Nat) w, liveN ⟨A, M.L, M.F⟩ w = liveN M w := fun A w => rfl
  have fr2 : rdW A2 fr = fstP l2 := by rw [r2, if_neg (nf 1 (by decide)), r1, if_neg (nf 0 (by decide))]; exact hnx
  have ffr : ∀ (ph : Int) (nx : Nat), fromN ⟨ph, false, head, p, key, val, prev, nx⟩ = fr := fun ph nx => hfe.symm
  have fbk : ∀ (ph : Int), backN ⟨ph, false, head, p, key, val, prev, fstP l2⟩ = bk := fun ph => hbe.symm
  have hstep : ∀ k, stepE (tr k).1 (tr k).2 = tr (k + 1) := by
    intro k
    match k with
    | 0 => rw [step_st 0 rfl (by decide) (by decide) (hfr 0 (by decide)).1]; show (_, _) = (_, _); rw [← hA1]; rfl
    | 1 => rw [step_st 1 rfl (by decide) (by decide) (hfr 1 (by decide)).1]; show (_, _) = (_, _); rw [← hA2]; rfl
    | 2 =>
      rw [step_ld 2 rfl (by decide) (by decide) (by decide) (by show liveN M (fromN ⟨2, false, head, p, key, val, prev, 0⟩) = true; rw [ffr]; exact hc.live _ hEx)]
      show (_, ({ ph := 3, cuts := false, head := head, pl := p, key := key, val := val, prev := prev, next := rdW A2 (fromN ⟨2, false, head, p, key, val, prev, 0⟩) } : Ed)) = _
      rw [ffr, fr2]
      rfl
    | 3 => rw [step_st 3 rfl (by decide) (by decide) (hfr 2 (by decide)).1]; show (_, _) = (_, _); rw [← hA3]; rfl
    | 4 => rw [step_st 4 rfl (by decide) (by decide) (hfr 3 (by decide)).1]; show (_, _) = (_, _); rw [← hA4]; rfl
    | 5 =>
      rw [step_st 7 rfl (by decide) (by decide) (by show liveN M (fromN ⟨7, false, head, p, key, val, prev, (fstP l2)⟩) = true; rw [ffr]; exact hc.live _ hEx)]
      show ((⟨A4.set (fromN ⟨7, false, head, p, key, val, prev, (fstP l2)⟩) p, M.L, M.F⟩ : Mem), _) = (_, _)
      rw [ffr, ← hA5]; rfl
    | 6 =>
      rw [step_st 8 rfl (by decide) (by decide) (by show liveN M (backN ⟨8, false, head, p, key, val, prev, (fstP l2)⟩) = true; rw [fbk]; exact hc.live _ hBx)]
      show ((⟨A5.set (backN ⟨8, false, head, p, key, val, prev, (fstP l2)⟩) p, M.L, M.F⟩ : Mem), _) = (_, _)
      rw [fbk, ← hA6]; rfl
    | k + 7 => exact stepE_idle (show (9 : Int) ≤ 9 by decide)
  have hit : ∀ k, itE k M (putE head prev (p, key, val)) = tr k := by
    intro k
    induction k with
    | zero => rfl
    | succ k ih => show stepE _ _ = _; rw [ih]; exact hstep k
  have ho6 : ∀ w ∈ posN head 0 :: posN head 1 :: wl (l1 ++ l2), w ≠ endS (posN head 0) l1 → w ≠ bckSlot head l2 → rdW A6 w = rdW M.W w := by
    intro w hw e1 e2
    rw [← hx] at hw
    rw [hfrE] at e1
    rw [hbkE] at e2
    rw [r6, if_neg e2, r5, if_neg e1, r4, if_neg (nw w hw 3 (by decide)), r3, if_neg (nw w hw 2 (by decide)), r2, if_neg (nw w hw 1 (by decide)), r1, if_neg (nw w hw 0 (by decide))]
  have ho5 : ∀ w ∈ posN head 0 :: posN head 1 :: wl (l1 ++ l2), w ≠ endS (posN head 0) l1 → w ≠ bckSlot head l2 → rdW A5 w = rdW M.W w := by
    intro w hw e1 e2
    have := ho6 w hw e1 e2
    rw [hbkE] at e2
    rwa [r6, if_neg e2] at this
  have n5 : ∀ k, k < 4 → posN p k ≠ fr ∧ posN p k ≠ bk := fun k hk => ⟨fun e => nf k hk e.symm, fun e => nb k hk e.symm⟩
  have p0 : rdW A4 (posN p 0) = key := by rw [r4, if_neg (np _ _ (by decide)), r3, if_neg (np _ _ (by decide)), r2, if_neg (np _ _ (by decide)), r1, if_pos rfl]
  have p1 : rdW A4 (posN p 1) = val := by rw [r4, if_neg (np _ _ (by decide)), r3, if_neg (np _ _ (by decide)), r2, if_pos rfl]
  have p2 : rdW A4 (posN p 2) = fstP l2 := by rw [r4, if_neg (np _ _ (by decide)), r3, if_pos rfl]
  have p3 : rdW A4 (posN p 3) = prev := by rw [r4, if_pos rfl]
  have i5 : lnk A5 (posN head 0) (l1 ++ (p, key, val) :: l2) := lnk_ins hP hf ht0 (by rw [r5, if_neg (n5 0 (by decide)).1]; exact p0) (by rw [r5, if_neg (n5 1 (by decide)).1]; exact p1) (by rw [r5, if_neg (n5 2 (by decide)).1, hfrE, hnx]; exact p2) (by rw [hfrE, r5, if_pos rfl]) ho5
  have i6 : lnk A6 (posN head 0) (l1 ++ (p, key, val) :: l2) := lnk_ins hP hf ht0 (by rw [r6, if_neg (n5 0 (by decide)).2, r5, if_neg (n5 0 (by decide)).1]; exact p0) (by rw [r6, if_neg (n5 1 (by decide)).2, r5, if_neg (n5 1 (by decide)).1]; exact p1) (by rw [r6, if_neg (n5 2 (by decide)).2, r5, if_neg (n5 2 (by decide)).1, hfrE, hnx]; exact p2) (by rw [hfrE, r6, if_neg hEB, r5, if_pos rfl]) ho6
  have b6 : bck A6 0 (l1 ++ (p, key, val) :: l2) (rdW A6 (posN head 1)) := bck_ins hP hb (by rw [r6, if_neg (n5 3 (by decide)).2, r5, if_neg (n5 3 (by decide)).1, p3, hlast]) (by rw [hbkE, r6, if_pos rfl]) ho6
  have hwl : wl (l1 ++ (p, key, val) :: l2) = wl l1 ++ (w4 (p, key, val) ++ wl l2) := by rw [wl_append, wl_cons]
  have hperm : (posN head 0 :: posN head 1 :: wl (l1 ++ (p, key, val) :: l2)).Perm (w4 (p, key, val) ++ (posN head 0 :: posN head 1 :: wl xs)) := by
    rw [hwl, hx, wl_append]
    have e1 := List.perm_append_comm_assoc (wl l1) (w4 (p, key, val)) (wl l2)
    refine ((e1.cons (posN head 1)).cons (posN head 0)).trans ?_
    exact (List.perm_append_comm_assoc [posN head 0, posN head 1] (w4 (p, key, val)) (wl l1 ++ wl l2))
  have hn4 : (w4 (p, key, val)).Nodup := by simp [w4, posN]
  have hnd : (posN head 0 :: posN head 1 :: wl (l1 ++ (p, key, val) :: l2)).Nodup := by
    refine hperm.nodup_iff.2 (List.nodup_append.2 ⟨hn4, hc.nd, ?_⟩)
    intro a ha b hb' e
    subst e
    simp only [w4, List.mem_cons, List.not_mem_nil, or_false] at ha
    rcases ha with rfl | rfl | rfl | rfl
    · exact (hfr 0 (by decide)).2 hb'
    · exact (hfr 1 (by decide)).2 hb'
    · exact (hfr 2 (by decide)).2 hb'
    · exact (hfr 3 (by decide)).2 hb'
  have hlv : ∀ w ∈ posN head 0 :: posN head 1 :: wl (l1 ++ (p, key, val) :: l2), liveN M w = true := by
    intro w hw
    rcases List.mem_append.1 (hperm.mem_iff.1 hw) with h | h
    · simp only [w4, List.mem_cons, List.not_mem_nil, or_false] at h
      rcases h with rfl | rfl | rfl | rfl
      · exact (hfr 0 (by decide)).1
      · exact (hfr 1 (by decide)).1
      · exact (hfr 2 (by decide)).1
      · exact (hfr 3 (by decide)).1
    · exact hc.live w h
  have hch : Chain ⟨A6, M.L, M.F⟩ head (l1 ++ (p, key, val) :: l2) := ⟨hnd, hlv, i6, b6⟩
  have hlen := chain_len hc hl
  have hlen' : (l1 ++ (p, key, val) :: l2).length < 20 := by rw [hx] at hlen; simp at hlen ⊢; omega
  have hok9 : okM (itE 9 M (putE head prev (p, key, val))).1 = true := (itE_ok hok hW (putE_ok hhd hpv htb) (show (0 : Int) ≤ 0 by decide) (show (0 : Int) ≤ 10 by decide) 9).1
  have hh := hc.live (posN head 0) List.mem_cons_self
  have hx2 : ∀ t ∈ xs, liveN M (posN t.1 2) = true := fun t ht => hc.live _ (List.mem_cons_of_mem _ (List.mem_cons_of_mem _ (mem_wl ht 2 (by decide))))
  have hx2' : ∀ t ∈ l1 ++ (p, key, val) :: l2, liveN M (posN t.1 2) = true := fun t ht => hlv _ (List.mem_cons_of_mem _ (List.mem_cons_of_mem _ (mem_wl ht 2 (by decide))))
  have was : ∀ A : List Nat, A.length = M.W.length → (∀ w ∈ posN head 0 :: posN head 1 :: wl xs, rdW A w = rdW M.W w) → fwdG A 20 head [] = (xs.map (·.1), true) := fun A hA hw =>
    fwd_of hok hl hA hh hx2 (by omega) (lnk_move xs _ _ hc.fw (hw _ List.mem_cons_self) (fun t ht k hk => hw _ (List.mem_cons_of_mem _ (List.mem_cons_of_mem _ (mem_wl ht k (by omega))))))
  have is5 : fwdG A5 20 head [] = ((l1 ++ (p, key, val) :: l2).map (·.1), true) := fwd_of hok hl z5 hh hx2' hlen' i5
  have is6 : fwdG A6 20 head [] = ((l1 ++ (p, key, val) :: l2).map (·.1), true) := fwd_of hok hl z6 hh hx2' hlen' i6
  have o1 : ∀ w ∈ posN head 0 :: posN head 1 :: wl xs, rdW A1 w = rdW M.W w := fun w hw => by rw [r1, if_neg (nw w hw 0 (by decide))]
  have o2 : ∀ w ∈ posN head 0 :: posN head 1 :: wl xs, rdW A2 w = rdW M.W w := fun w hw => by rw [r2, if_neg (nw w hw 1 (by decide))]; exact o1 w hw
  have o3 : ∀ w ∈ posN head 0 :: posN head 1 :: wl xs, rdW A3 w = rdW M.W w := fun w hw => by rw [r3, if_neg (nw w hw 2 (by decide))]; exact o2 w hw
  have o4 : ∀ w ∈ posN head 0 :: posN head 1 :: wl xs, rdW A4 w = rdW M.W w := fun w hw => by rw [r4, if_neg (nw w hw 3 (by decide))]; exact o3 w hw
  have h9 := hit 9
  have hlk : lookN (itE 9 M (putE head prev (p, key, val))).1 head = (l1 ++ (p, key, val) :: l2, 0) := by
    rw [h9] at hok9 ⊢
    exact lookN_chain hok9 hch hl
  refine ⟨⟨fun k hk => ?_, by rw [h9]; rfl, by rw [h9]; rfl, _, hlk, rfl⟩, hlk⟩
  rw [hit k]
  match k, hk with
  | 0, _ => exact was M.W rfl (fun w hw => rfl)
  | 1, _ => exact was A1 z1 o1
  | 2, _ => exact was A2 z2 o2
  | 3, _ => exact was A2 z2 o2
  | 4, _ => exact was A3 z3 o3
  | 5, _ => exact was A4 z4 o4
  | 6, _ => exact is5
  | 7, _ => exact is6
  | 8, _ => exact is6
theorem cut_law {M : Mem} {head : Nat} {t : Tw} {l1 l2 : List Tw} (hok : okM M = true) (hW : Wok M) (hl : M.L.length ≤ 48) (hhd : head < 18446744073709551616) (htb : t.1 < 18446744073709551616)
    (hc : Chain M head (l1 ++ t :: l2)) :
    FwdL M head (cutE head t.1) ((l1 ++ t :: l2).map (·.1)) ((l1 ++ l2).map (·.1)) ∧ lookN (itE 9 M (cutE head t.1)).1 head = (l1 ++ l2, 0) := by
  obtain ⟨q1, q2, q3, -⟩ := okM_spec hok
  have hP := parts_of (head := head) (l1 := l1) (l2 := t :: l2) hc.nd
  have hf := hc.fw
  have hb := hc.bk
  have hsg := (lnk_append l1 (t :: l2) _).1 hf
  have hsb := (bck_append l1 (t :: l2) _ _).1 hb
  have hne1 := segS_ne l1 _ hsg.1
  have hnx : rdW M.W (posN t.1 2) = fstP l2 := lnk_fst hsg.2.2.2.2.2
  have hpv : rdW M.W (posN t.1 3) = lastP 0 l1 := hsb.2.1
  have hne2 : ∀ u ∈ l2, u.1 ≠ 0 := by
    have : ∀ (l : List Tw) (a : Nat), lnk M.W a l → ∀ u ∈ l, u.1 ≠ 0 := by
      intro l
      induction l with
      | nil => intro a h u hu; cases hu
      | cons y ys ih =>
        intro a h u hu
        rcases List.mem_cons.1 hu with rfl | hu'
        · exact h.2.1
        · exact ih _ h.2.2.2.2 u hu'
    exact this l2 _ hsg.2.2.2.2.2
  have hfe := end_from head l1 hne1
  have hbe := slot_back head l2 hne2
  have hE := endS_mem l1 (posN head 0)
  have hB : bckSlot head l2 ∈ posN head 1 :: wl (t :: l2) := by
    rcases List.mem_cons.1 (bckSlot_mem head l2) with h | h
    · rw [h]; exact List.mem_cons_self
    · rw [wl_cons]; exact List.mem_cons_of_mem _ (List.mem_append_right _ h)
  have hEx : endS (posN head 0) l1 ∈ posN head 0 :: posN head 1 :: wl (l1 ++ t :: l2) := by
    rw [wl_append]
    rcases List.mem_cons.1 hE with h | h
    · rw [h]; exact List.mem_cons_self
    · exact List.mem_cons_of_mem _ (List.mem_cons_of_mem _ (List.mem_append_left _ h))
  have hBx : bckSlot head l2 ∈ posN head 0 :: posN head 1 :: wl (l1 ++ t :: l2) := by
    rw [wl_append]
    rcases List.mem_cons.1 hB with h | h
    · rw [h]; exact List.mem_cons_of_mem _ List.mem_cons_self
    · exact List.mem_cons_of_mem _ (List.mem_cons_of_mem _ (List.mem_append_right _ h))
  have hEB : endS (posN head 0) l1 ≠ bckSlot head l2 := hP.d12 _ hE _ hB
  have htx : t ∈ l1 ++ t :: l2 := List.mem_append_right _ List.mem_cons_self
  have hlt : ∀ k, k < 4 → liveN M (posN t.1 k) = true := fun k hk => hc.live _ (List.mem_cons_of_mem _ (List.mem_cons_of_mem _ (mem_wl htx k hk)))
  obtain ⟨p, key, val⟩ := t
  dsimp only at hlt hnx hpv htb ⊢
  obtain ⟨fr, hfrE⟩ : ∃ fr, endS (posN head 0) l1 = fr := ⟨_, rfl⟩
  obtain ⟨bk, hbkE⟩ : ∃ bk, bckSlot head l2 = bk := ⟨_, rfl⟩
  obtain ⟨prev, hprev⟩ : ∃ q, lastP 0 l1 = q := ⟨_, rfl⟩
  rw [hfrE] at hfe hEx hEB hE
  rw [hbkE] at hbe hBx hEB hB
  rw [hprev] at hfe hpv
  have lv : ∀ w, liveN M w = true → w < M.W.length := fun w h => by have := live_lt h; omega
  have lf := lv _ (hc.live _ hEx)
  have lb := lv _ (hc.live _ hBx)
  obtain ⟨A1, hA1⟩ : ∃ A, M.W.set fr (fstP l2) = A := ⟨_, rfl⟩
  obtain ⟨A2, hA2⟩ : ∃ A, A1.set bk prev = A := ⟨_, rfl⟩
  have z1 : A1.length = M.W.length := by rw [← hA1]; simp
  have z2 : A2.length = M.W.length := by rw [← hA2]; simp [z1]
  have r1 : ∀ i, rdW A1 i = if i = fr then fstP l2 else rdW M.W i := fun i => by rw [← hA1]; exact rd_set lf
  have r2 : ∀ i, rdW A2 i = if i = bk then prev else rdW A1 i := fun i => by rw [← hA2]; exact rd_set (by omega)
  let tr : Nat → Mem × Ed := fun k => match k with
    | 0 => (M, ⟨5, true, head, p, 0, 0, 0, 0⟩)
    | 1 => (M, ⟨6, true, head, p, 0, 0, 0, fstP l2⟩)
    | 2 => (M, ⟨7, true, head, p, 0, 0, prev, fstP l2⟩)
    | 3 => (⟨A1, M.L, M.F⟩, ⟨8, true, head, p, 0, 0, prev, fstP l2⟩)
    | _ => (⟨A2, M.L, M.F⟩, ⟨9, true, head, p, 0, 0, prev, fstP l2⟩)
  have ffr : ∀ (ph : Int), fromN ⟨ph, true, head, p, 0, 0, prev, fstP l2⟩ = fr := fun ph => hfe.symm
  have fbk : ∀ (ph : Int), backN ⟨ph, true, head, p, 0, 0, prev, fstP l2⟩ = bk := fun ph => hbe.symm
  have hstep : ∀ k, stepE (tr k).1 (tr k).2 = tr (k + 1) := by
    intro k
    match k with
    | 0 =>
      rw [step_ld 5 rfl (by decide) (by decide) (by decide) (hlt 2 (by decide))]
      show (M, ({ ph := 6, cuts := true, head := head, pl := p, key := 0, val := 0, prev := 0, next := rdW M.W (posN p 2) } : Ed)) = _
      rw [hnx]
      rfl
    | 1 =>
      rw [step_ld 6 rfl (by decide) (by decide) (by decide) (hlt 3 (by decide))]
      show (M, ({ ph := 7, cuts := true, head := head, pl := p, key := 0, val := 0, prev := rdW M.W (posN p 3), next := fstP l2 } : Ed)) = _
      rw [hpv]
      rfl
    | 2 =>
      rw [step_st 7 rfl (by decide) (by decide) (by show liveN M (fromN ⟨7, true, head, p, 0, 0, prev, fstP l2⟩) = true; rw [ffr]; exact hc.live _ hEx)]
      show ((⟨M.W.set (fromN ⟨7, true, head, p, 0, 0, prev, fstP l2⟩) (fstP l2), M.L, M.F⟩ : Mem), _) = (_, _)
      rw [ffr, ← hA1]; rfl
    | 3 =>
      rw [step_st 8 rfl (by decide) (by decide) (by show liveN M (backN ⟨8, true, head, p, 0, 0, prev, fstP l2⟩) = true; rw [fbk]; exact hc.live _ hBx)]
      show ((⟨A1.set (backN ⟨8, true, head, p, 0, 0, prev, fstP l2⟩) prev, M.L, M.F⟩ : Mem), _) = (_, _)
      rw [fbk, ← hA2]; rfl
    | k + 4 => exact stepE_idle (show (9 : Int) ≤ 9 by decide)
  have hit : ∀ k, itE k M (cutE head p) = tr k := by
    intro k
    induction k with
    | zero => rfl
    | succ k ih => show stepE _ _ = _; rw [ih]; exact hstep k
  have ho2 : ∀ w ∈ posN head 0 :: posN head 1 :: wl (l1 ++ (p, key, val) :: l2), w ≠ endS (posN head 0) l1 → w ≠ bckSlot head l2 → rdW A2 w = rdW M.W w := by
    intro w hw e1 e2
    rw [hfrE] at e1
    rw [hbkE] at e2
    rw [r2, if_neg e2, r1, if_neg e1]
  have ho1 : ∀ w ∈ posN head 0 :: posN head 1 :: wl (l1 ++ (p, key, val) :: l2), w ≠ endS (posN head 0) l1 → w ≠ bckSlot head l2 → rdW A1 w = rdW M.W w := by
    intro w hw e1 e2
    rw [hfrE] at e1
    rw [r1, if_neg e1]
  have i1 : lnk A1 (posN head 0) (l1 ++ l2) := lnk_rem hP hf (by rw [hfrE, r1, if_pos rfl]) ho1
  have i2 : lnk A2 (posN head 0) (l1 ++ l2) := lnk_rem hP hf (by rw [hfrE, r2, if_neg hEB, r1, if_pos rfl]) ho2
  have b2 : bck A2 0 (l1 ++ l2) (rdW A2 (posN head 1)) := bck_rem hP hb (by rw [hbkE, r2, if_pos rfl]; exact hprev.symm) ho2
  have hsub : (posN head 0 :: posN head 1 :: wl (l1 ++ l2)).Sublist (posN head 0 :: posN head 1 :: wl (l1 ++ (p, key, val) :: l2)) := by
    rw [wl_append, wl_append, wl_cons]
    exact ((List.Sublist.append (List.Sublist.refl _) (List.sublist_append_right _ _)).cons_cons _).cons_cons _
  have hch : Chain ⟨A2, M.L, M.F⟩ head (l1 ++ l2) := ⟨hc.nd.sublist hsub, fun w hw => hc.live w (hsub.subset hw), i2, b2⟩
  have hlen := chain_len hc hl
  have hlen' : (l1 ++ l2).length < 20 := by simp at hlen ⊢; omega
  have hok9 : okM (itE 9 M (cutE head p)).1 = true := (itE_ok hok hW (cutE_ok hhd htb) (show (0 : Int) ≤ 5 by decide) (show (5 : Int) ≤ 10 by decide) 9).1
  have hh := hc.live (posN head 0) List.mem_cons_self
  have hx2 : ∀ t ∈ l1 ++ (p, key, val) :: l2, liveN M (posN t.1 2) = true := fun t ht => hc.live _ (List.mem_cons_of_mem _ (List.mem_cons_of_mem _ (mem_wl ht 2 (by decide))))
  have hx2' : ∀ t ∈ l1 ++ l2, liveN M (posN t.1 2) = true := fun t ht => hx2 t (by simp only [List.mem_append, List.mem_cons] at ht ⊢; rcases ht with h | h; exact .inl h; exact .inr (.inr h))
  have was : fwdG M.W 20 head [] = ((l1 ++ (p, key, val) :: l2).map (·.1), true) := fwd_of hok hl rfl hh hx2 (by omega) hf
  have is1 : fwdG A1 20 head [] = ((l1 ++ l2).map (·.1), true) := fwd_of hok hl z1 hh hx2' hlen' i1
  have is2 : fwdG A2 20 head [] = ((l1 ++ l2).map (·.1), true) := fwd_of hok hl z2 hh hx2' hlen' i2
  have h9 := hit 9
  have hlk : lookN (itE 9 M (cutE head p)).1 head = (l1 ++ l2, 0) := by
    rw [h9] at hok9 ⊢
    exact lookN_chain hok9 hch hl
  refine ⟨⟨fun k hk => ?_, by rw [h9]; rfl, by rw [h9]; rfl, _, hlk, rfl⟩, hlk⟩
  rw [hit k]
  match k, hk with
  | 0, _ => exact was
  | 1, _ => exact was
  | 2, _ => exact was
  | 3, _ => exact is1
  | 4, _ => exact is2
  | 5, _ => exact is2
  | 6, _ => exact is2
  | 7, _ => exact is2
  | 8, _ => exact is2
/-- A move that goes through: what who goes forward meets at each step. -/
theorem ins_law {M : Mem} {head prev : Nat} {t : Tw} {xs : List Tw} (hW : Wok M) (hl : M.L.length ≤ 48) (hhd : head < 18446744073709551616) (hpv : prev < 18446744073709551616) (htb : t.1 < 18446744073709551616 ∧ t.2.1 < 18446744073709551616 ∧ t.2.2 < 18446744073709551616)
    (hlk : lookN M head = (xs, 0)) (hins : (insP M head prev t).2.2 = 0) : okM M = true ∧ (insP M head prev t).1 = (itE 9 M (putE head prev t)).1 ∧ ∃ xs', lookN (itE 9 M (putE head prev t)).1 head = (xs', 0) ∧ FwdL M head (putE head prev t) (xs.map (·.1)) (xs'.map (·.1)) := by
  have hok : okM M = true := by
    cases h : okM M with
    | true => rfl
    | false => rw [lookN_bad h] at hlk; cases hlk
  refine ⟨hok, ?_⟩
  cases hn : nodesN M head with
  | none => rw [lookN_none hok hn] at hlk; cases hlk
  | some r =>
    obtain ⟨xs0, met⟩ := r
    rw [lookN_some hok hn] at hlk
    obtain rfl : xs0 = xs := by cases hlk; rfl
    obtain ⟨hc, hm⟩ := chain_of hn
    have hi : insP M head prev t = if prev ≠ 0 ∧ hasN xs0 prev = false then (zeroM, 0, 4) else if (List.range 4).all (goodN M met t) = false then (zeroM, 0, 2) else ((runE 12 M (putE head prev t) 0).1, (runE 12 M (putE head prev t) 0).2, 0) := by
      unfold insP
      rw [hok, if_neg (by decide), hn]
    rw [hi] at hins ⊢
    by_cases c1 : prev ≠ 0 ∧ hasN xs0 prev = false
    · rw [if_pos c1] at hins; cases hins
    · rw [if_neg c1] at hins ⊢
      by_cases c2 : (List.range 4).all (goodN M met t) = false
      · rw [if_pos c2] at hins; cases hins
      · rw [if_neg c2]
        have c2' : (List.range 4).all (goodN M met t) = true := by simpa using c2
        have hg : ∀ k, k < 4 → t.1 ≠ 0 ∧ liveN M (posN t.1 k) = true ∧ posN t.1 k ∉ met := by
          intro k hk
          have := List.all_eq_true.1 c2' k (List.mem_range.2 hk)
          unfold goodN freeB at this
          simpa using this
        rw [hm] at hg
        have hsp : ∃ l1 l2, xs0 = l1 ++ l2 ∧ lastP 0 l1 = prev := by
          by_cases h0 : prev = 0
          · exact ⟨[], xs0, rfl, h0.symm⟩
          · have hh : hasN xs0 prev = true := by
              cases hq : hasN xs0 prev with
              | true => rfl
              | false => exact absurd ⟨h0, hq⟩ c1
            obtain ⟨l1, u, l2, e, hu⟩ := split_of hh
            exact ⟨l1 ++ [u], l2, by rw [e]; simp, by rw [lastP_snoc]; exact hu⟩
        obtain ⟨l1, l2, hx, hlast⟩ := hsp
        obtain ⟨w1, w2⟩ := put_law hok hW hl hhd hpv htb hc hx hlast (hg 0 (by decide)).1 (fun k hk => (hg k hk).2)
        have h9 := w1.last.1
        refine ⟨?_, _, w2, w1⟩
        show (runE 12 M (putE head prev t) 0).1 = _
        rw [runE_it]
        have e : ∀ j, (itE (9 + j) M (putE head prev t)) = itE 9 M (putE head prev t) := by
          intro j
          induction j with
          | zero => rfl
          | succ j ih =>
            show stepE (itE (9 + j) M (putE head prev t)).1 (itE (9 + j) M (putE head prev t)).2 = _
            rw [ih]
            exact stepE_idle (by omega)
        rw [e 3]
theorem rem_law {M : Mem} {head node : Nat} {xs : List Tw} (hW : Wok M) (hl : M.L.length ≤ 48) (hhd : head < 18446744073709551616) (hnd : node < 18446744073709551616)
    (hlk : lookN M head = (xs, 0)) (hrem : (remP M head node).2.2 = 0) : okM M = true ∧ (remP M head node).1 = (itE 9 M (cutE head node)).1 ∧ ∃ xs', lookN (itE 9 M (cutE head node)).1 head = (xs', 0) ∧ FwdL M head (cutE head node) (xs.map (·.1)) (xs'.map (·.1)) := by
  have hok : okM M = true := by
    cases h : okM M with
    | true => rfl
    | false => rw [lookN_bad h] at hlk; cases hlk
  refine ⟨hok, ?_⟩
  have hlk0 := hlk
  cases hn : nodesN M head with
  | none => rw [lookN_none hok hn] at hlk; cases hlk
  | some r =>
    obtain ⟨xs0, met⟩ := r
    rw [lookN_some hok hn] at hlk
    obtain rfl : xs0 = xs := by cases hlk; rfl
    obtain ⟨hc, hm⟩ := chain_of hn
    have hi : remP M head node = if hasN xs0 node = false then (zeroM, 0, 4) else ((runE 12 M (cutE head node) 0).1, (runE 12 M (cutE head node) 0).2, 0) := by
      unfold remP
      rw [hlk0, if_neg (fun h => h rfl)]
    rw [hi] at hrem ⊢
    by_cases c1 : hasN xs0 node = false
    · rw [if_pos c1] at hrem; cases hrem
    · rw [if_neg c1]
      obtain ⟨l1, u, l2, e, hu⟩ := split_of (by simpa using c1)
      subst e hu
      obtain ⟨w1, w2⟩ := cut_law hok hW hl hhd hnd hc
      have h9 := w1.last.1
      refine ⟨?_, _, w2, w1⟩
      show (runE 12 M (cutE head u.1) 0).1 = _
      rw [runE_it]
      have e : ∀ j, (itE (9 + j) M (cutE head u.1)) = itE 9 M (cutE head u.1) := by
        intro j
        induction j with
        | zero => rfl
        | succ j ih =>
          show stepE (itE (9 + j) M (cutE head u.1)).1 (itE (9 + j) M (cutE head u.1)).2 = _
          rw [ih]
          exact stepE_idle (by omega)
      rw [e 3]
end Go.Proofs.Ytoihjmdpbbcbjaa
