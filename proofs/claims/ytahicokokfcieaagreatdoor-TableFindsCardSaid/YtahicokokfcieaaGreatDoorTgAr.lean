/- Several texts in one. -/
import Derived.Test.YtahicokokfcieaaGreatDoorTgAq
import Derived.Test.YtahicokokfcieaaGreatDoorTgAo
namespace Go.Proofs.YtahicokokfcieaaGreatDoor
open Go.RowKit
open Go.Proofs
set_option linter.unusedVariables false
theorem editE_store {M : Mem} {s : Ede} (k q new : Nat) (hph : s.ph = k) (hk : k < 6) (h4 : k ≠ 4) (hq : (needE s k).2.1 = q) (hn : (needE s k).2.2 = new) (hl : liveN M q = true) :
    editE M s = (⟨M.W.set q new, M.L, M.F⟩, { s with ph := nextE k }, true) := by
  have e : s.ph.toNat = k := by omega
  have e1 : (s.ph != 4) = true := by simp; omega
  unfold editE
  rw [if_neg (by omega), e, hq, hn, e1, store_live hl, if_pos rfl, if_neg (by omega)]
theorem editE_load {M : Mem} {s : Ede} (q : Nat) (hph : s.ph = 4) (hq : posL s.at_ 2 = q) (hl : liveN M q = true) :
    editE M s = (M, { s with ph := 5, next := M.W.getD q 0 }, true) := by
  have e : s.ph.toNat = 4 := by omega
  have e1 : (s.ph != 4) = false := by simp; omega
  unfold editE
  rw [if_neg (by omega), e, e1]
  show ((stepM M false ((posL s.at_ 2 : Nat) : Int) 0).1, (if (stepM M false ((posL s.at_ 2 : Nat) : Int) 0).2.2 = true then ({ s with ph := 5, next := if s.ph = 4 then (stepM M false ((posL s.at_ 2 : Nat) : Int) 0).2.1 else s.next } : Ede) else { s with ph := 7 }), true) = _
  rw [hq, load_live hl, if_pos rfl, if_pos hph]
/-- All steps of who puts a node whose words are live. -/
theorem put_run {M : Mem} {link next : Nat} {t : Nd} (n : Nat) (ht : ∀ k, k < 4 → liveN M (posL t.1 k) = true) (hl : liveN M (posL link 0) = true) :
    editRun 8 M (putK link t next) n = (⟨((((M.W.set (posL t.1 0) t.2.1).set (posL t.1 1) t.2.2.1).set (posL t.1 3) t.2.2.2).set (posL t.1 2) next).set (posL link 0) t.1, M.L, M.F⟩, ⟨6, false, link, t.1, t.2.1, t.2.2.1, t.2.2.2, next⟩, n + 5) := by
  obtain ⟨a, k, v, h⟩ := t
  unfold putK
  dsimp only at ht ⊢
  have n0 : ¬ 6 ≤ (⟨0, false, link, a, k, v, h, next⟩ : Ede).ph := by show ¬ (6 : Int) ≤ 0; decide
  have n1 : ¬ 6 ≤ (⟨1, false, link, a, k, v, h, next⟩ : Ede).ph := by show ¬ (6 : Int) ≤ 1; decide
  have n2 : ¬ 6 ≤ (⟨2, false, link, a, k, v, h, next⟩ : Ede).ph := by show ¬ (6 : Int) ≤ 2; decide
  have n3 : ¬ 6 ≤ (⟨3, false, link, a, k, v, h, next⟩ : Ede).ph := by show ¬ (6 : Int) ≤ 3; decide
  have n5 : ¬ 6 ≤ (⟨5, false, link, a, k, v, h, next⟩ : Ede).ph := by show ¬ (6 : Int) ≤ 5; decide
  rw [editRun_step n0 (editE_store 0 (posL a 0) k rfl (by decide) (by decide) rfl rfl (ht 0 (by decide)))]
  show editRun 7 _ (⟨1, false, link, a, k, v, h, next⟩ : Ede) _ = _
  rw [editRun_step n1 (editE_store (M := ⟨M.W.set (posL a 0) k, M.L, M.F⟩) 1 (posL a 1) v rfl (by decide) (by decide) rfl rfl (ht 1 (by decide)))]
  show editRun 6 _ (⟨2, false, link, a, k, v, h, next⟩ : Ede) _ = _
  rw [editRun_step n2 (editE_store (M := ⟨(M.W.set (posL a 0) k).set (posL a 1) v, M.L, M.F⟩) 2 (posL a 3) h rfl (by decide) (by decide) rfl rfl (ht 3 (by decide)))]
  show editRun 5 _ (⟨3, false, link, a, k, v, h, next⟩ : Ede) _ = _
  rw [editRun_step n3 (editE_store (M := ⟨((M.W.set (posL a 0) k).set (posL a 1) v).set (posL a 3) h, M.L, M.F⟩) 3 (posL a 2) next rfl (by decide) (by decide) rfl rfl (ht 2 (by decide)))]
  show editRun 4 _ (⟨5, false, link, a, k, v, h, next⟩ : Ede) _ = _
  rw [editRun_step n5 (editE_store (M := ⟨(((M.W.set (posL a 0) k).set (posL a 1) v).set (posL a 3) h).set (posL a 2) next, M.L, M.F⟩) 5 (posL link 0) a rfl (by decide) (by decide) rfl rfl hl)]
  show editRun 3 _ (⟨6, false, link, a, k, v, h, next⟩ : Ede) _ = _
  rw [editRun_end (by show (6 : Int) ≤ 6; decide)]
/-- All steps of who cuts a node. -/
theorem cut_run {M : Mem} {link node : Nat} (n : Nat) (ht : liveN M (posL node 2) = true) (hl : liveN M (posL link 0) = true) :
    editRun 8 M (cutK link node) n = (⟨M.W.set (posL link 0) (wAt M node 2), M.L, M.F⟩, ⟨6, true, link, node, 0, 0, 0, wAt M node 2⟩, n + 2) := by
  unfold cutK
  have n4 : ¬ 6 ≤ (⟨4, true, link, node, 0, 0, 0, 0⟩ : Ede).ph := by show ¬ (6 : Int) ≤ 4; decide
  have n5 : ¬ 6 ≤ (⟨5, true, link, node, 0, 0, 0, M.W.getD (posL node 2) 0⟩ : Ede).ph := by show ¬ (6 : Int) ≤ 5; decide
  rw [editRun_step n4 (editE_load (posL node 2) rfl rfl ht)]
  show editRun 7 _ (⟨5, true, link, node, 0, 0, 0, M.W.getD (posL node 2) 0⟩ : Ede) _ = _
  rw [editRun_step n5 (editE_store 5 (posL link 0) (M.W.getD (posL node 2) 0) rfl (by decide) (by decide) rfl rfl hl)]
  show editRun 6 _ (⟨6, true, link, node, 0, 0, 0, M.W.getD (posL node 2) 0⟩ : Ede) _ = _
  rw [editRun_end (by show (6 : Int) ≤ 6; decide)]
  rfl
/-- Where who seeks ends: its link is the head's, or a node's. -/
theorem findS_link {hash key : Nat} : ∀ (link : Nat) (xs : List Nd), (findS hash key link xs).1.link = link ∨ ∃ x ∈ xs, (findS hash key link xs).1.link = x.1 + 2
  | link, [] => .inl rfl
  | link, x :: r => by
    have hr := findS_link (hash := hash) (key := key) (x.1 + 2) r
    have hx : (findS hash key (x.1 + 2) r).1.link = link ∨ ∃ y ∈ x :: r, (findS hash key (x.1 + 2) r).1.link = y.1 + 2 := by
      rcases hr with h | ⟨y, hy, h⟩
      · exact .inr ⟨x, List.mem_cons_self .., h⟩
      · exact .inr ⟨y, List.mem_cons_of_mem _ hy, h⟩
    unfold findS
    split
    · exact hx
    · split
      · exact .inl rfl
      · split
        · exact hx
        · split <;> exact .inl rfl
theorem chain_live {M : Mem} (hok : okM M = true) : ∀ (p : Nat) (xs : List Nd), ChainP M p xs → ∀ x ∈ xs, x.1 < 4096 ∧ (∀ k, k < 4 → liveN M (posL x.1 k) = true) ∧ posL (x.1 + 2) 0 = posL x.1 2
  | p, [], h, x, hx => by cases hx
  | p, y :: r, h, x, hx => by
    obtain ⟨h1, h2, h3, h4⟩ := h
    rcases List.mem_cons.1 hx with rfl | hx
    · obtain ⟨q1, q2, q3⟩ := live_small hok (h3 2 (by decide))
      have e : x.1 = p := by rw [h1]; rfl
      rw [e]
      obtain ⟨o1, o2, -⟩ := okM_spec hok
      exact ⟨q1, h3, by rw [q2]; unfold posL; omega⟩
    · exact chain_live hok _ r h4 x hx
theorem findS_found {hash key : Nat} : ∀ (link : Nat) (xs : List Nd), (findS hash key link xs).1.found = true → ∃ x ∈ xs, (findS hash key link xs).1.node = x.1 ∧ (findS hash key link xs).1.val = x.2.2.1 ∧ x.2.1 = key ∧ x.2.2.2 = hash
  | link, [], h => by cases h
  | link, x :: r, h => by
    unfold findS at h ⊢
    split at h
    · rename_i c
      rw [if_pos c]
      obtain ⟨y, hy, h'⟩ := findS_found _ r h
      exact ⟨y, List.mem_cons_of_mem _ hy, h'⟩
    · rename_i c
      rw [if_neg c]
      split at h
      · cases h
      · rename_i c2
        rw [if_neg c2]
        split at h
        · rename_i c3
          rw [if_pos c3]
          obtain ⟨y, hy, h'⟩ := findS_found _ r h
          exact ⟨y, List.mem_cons_of_mem _ hy, h'⟩
        · rename_i c3
          rw [if_neg c3]
          split at h
          · cases h
          · rename_i c4
            rw [if_neg c4]
            exact ⟨x, List.mem_cons_self .., rfl, rfl, by omega, by omega⟩
end Go.Proofs.YtahicokokfcieaaGreatDoor
namespace Go.Proofs.YtahicokokfcieaaGreatDoor
open Go.RowKit
open Go.Proofs
set_option linter.unusedVariables false
def rdL (W : List Nat) (a : Nat) : Nat := W.getD a 0
/-- Links that lead on from a word. -/
def lnkL (W : List Nat) : Nat → List Nd → Prop
  | a, [] => rdL W a = 0
  | a, t :: ts => rdL W a = t.1 ∧ t.1 ≠ 0 ∧ rdL W (posL t.1 0) = t.2.1 ∧ rdL W (posL t.1 1) = t.2.2.1 ∧ rdL W (posL t.1 3) = t.2.2.2 ∧ lnkL W (posL t.1 2) ts
theorem lnk_of {M : Mem} : ∀ (xs : List Nd) (a : Nat), ChainP M (rdL M.W a) xs → lnkL M.W a xs
  | [], a, h => h
  | x :: r, a, h => by
    obtain ⟨h1, h2, h3, h4⟩ := h
    have e : x.1 = rdL M.W a := by rw [h1]; rfl
    refine ⟨e.symm, by rw [e]; exact h2, ?_, ?_, ?_, lnk_of r _ ?_⟩
    · rw [e]; rw [h1]; rfl
    · rw [e]; rw [h1]; rfl
    · rw [e]; rw [h1]; rfl
    · rw [e]; exact h4
/-- A list lies so. -/
structure ChainL (M : Mem) (head : Nat) (xs : List Nd) : Prop where
  nd : (wordsL head xs).Nodup
  live : ∀ w ∈ wordsL head xs, liveN M w = true
  fw : lnkL M.W (posL head 0) xs
  inc : incr xs = true
theorem chain_of {M : Mem} {head : Nat} {xs : List Nd} (h : nodesR M head = some xs) : ChainL M head xs := by
  obtain ⟨hw, hi⟩ := nodesR_some h
  obtain ⟨h1, h2⟩ := nodesW_words hw
  exact ⟨h1, h2, lnk_of _ _ (nodesW_chain hw).2, hi⟩
theorem chain_len {M : Mem} {head : Nat} {xs : List Nd} (hok : okM M = true) (h : ChainL M head xs) : 4 * xs.length + 1 ≤ 4096 := by
  obtain ⟨q1, q2, q3, -⟩ := okM_spec hok
  have := nodup_lt (n := M.L.length) h.nd (fun x hx => live_lt (h.live x hx))
  have e : (wordsL head xs).length = 4 * xs.length + 1 := by unfold wordsL; rw [List.length_cons, flat4_len]
  omega
end Go.Proofs.YtahicokokfcieaaGreatDoor
namespace Go.Proofs.YtahicokokfcieaaGreatDoor
open Go.RowKit
open Go.Proofs
set_option linter.unusedVariables false
/-- The words that are stored one after another. -/
def putW (M : Mem) (t : Nd) (next : Nat) : Nat → List Nat
  | 0 => M.W
  | 1 => M.W.set (posL t.1 0) t.2.1
  | 2 => (M.W.set (posL t.1 0) t.2.1).set (posL t.1 1) t.2.2.1
  | 3 => ((M.W.set (posL t.1 0) t.2.1).set (posL t.1 1) t.2.2.1).set (posL t.1 3) t.2.2.2
  | _ => (((M.W.set (posL t.1 0) t.2.1).set (posL t.1 1) t.2.2.1).set (posL t.1 3) t.2.2.2).set (posL t.1 2) next
/-- The memory behind all stores of who puts. -/
def putM' (M : Mem) (link : Nat) (t : Nd) (next : Nat) : Mem := ⟨(putW M t next 4).set (posL link 0) t.1, M.L, M.F⟩
/-- The memory behind who cuts. -/
def cutM (M : Mem) (link node : Nat) : Mem := ⟨M.W.set (posL link 0) (wAt M node 2), M.L, M.F⟩
end Go.Proofs.YtahicokokfcieaaGreatDoor
namespace Go.Proofs.YtahicokokfcieaaGreatDoor
open Go.RowKit
open Go.Proofs
set_option linter.unusedVariables false
/-- Who looks comes to its end in so many steps, and memory stays as it is. -/
inductive LkRun (M : Mem) : Lk → Nat → Lk → Prop
  | done {l : Lk} : l.Ok → lookE M l = (M, l, false) → LkRun M l 0 l
  | step {l l' l'' : Lk} {n : Nat} : l.Ok → lookE M l = (M, l', true) → LkRun M l' n l'' → LkRun M l (n + 1) l''
theorem LkRun.ok {M : Mem} {l l' : Lk} {n : Nat} (h : LkRun M l n l') : l.Ok := by cases h <;> assumption
theorem LkRun.last {M : Mem} {l l' : Lk} {n : Nat} (h : LkRun M l n l') : l'.Ok ∧ lookE M l' = (M, l', false) := by
  induction h with
  | done o e => exact ⟨o, e⟩
  | step o e r ih => exact ih
theorem lookE_over {M : Mem} {l : Lk} (h : l.ph = 2) : lookE M l = (M, l, false) := by
  unfold lookE
  rw [if_neg (by omega), if_neg (by omega)]
/-- Seeking's steps are who looks' steps. -/
theorem seek_lk {M M' : Mem} (hok : okM M = true) (hW : ∀ x ∈ M.W, x < 18446744073709551616) {root key array : Nat} {many : Int} (hr : root < 18446744073709551616) (hk : key < 18446744073709551616) (ha : array < 18446744073709551616) (hm : -9223372036854775808 ≤ many ∧ many ≤ 9223372036854775807) :
    ∀ (F : Nat) (s s' : Sk) (n m : Nat), s.Ok → 0 ≤ s.ph → s.ph ≤ 3 → seekRun F M s n = (M', s', m) → s'.ph = 4 → n < m ∧ LkRun M ⟨1, root, key, array, many, s⟩ (m - n) ⟨2, root, key, array, many, s'⟩
  | 0, s, s', n, m, _, _, h3, h, h4 => by
    unfold seekRun at h
    cases h
    omega
  | F + 1, s, s', n, m, hs, h0, h3, h, h4 => by
    have hn4 : ¬ 4 ≤ s.ph := by omega
    obtain ⟨o1, o2, o3, o4, o5⟩ := seekE_ok hok hW hs h0 (by omega)
    obtain ⟨⟨M1, s1, b⟩, e⟩ : ∃ x, seekE M s = x := ⟨_, rfl⟩
    rw [e] at o1 o2 o3 o4 o5
    dsimp only at o1 o2 o3 o4 o5
    rw [seekRun_step hn4 e] at h
    have hb : b = true := by
      have : (seekE M s).2.2 = true := by unfold seekE; rw [if_neg hn4]
      rw [e] at this; exact this
    subst hb
    have hP : sseekP M s = (M1, s1, 0) := by
      unfold sseekP
      rw [if_neg (by rw [hok]; decide), if_neg (by omega), e]
    have hL : lookE M ⟨1, root, key, array, many, s⟩ = (M1, ⟨if s1.ph = 4 then 2 else if s1.ph = 5 then 3 else 1, root, key, array, many, s1⟩, true) := by
      unfold lookE
      dsimp only
      rw [if_neg (by decide), if_pos rfl, hP]
    have hlo : ∀ (p : Int) (t : Sk), 0 ≤ p → p ≤ 5 → t.Ok → Lk.Ok ⟨p, root, key, array, many, t⟩ := fun p t h0 h5 ht => ⟨⟨by show _ ≤ p; omega, by show p ≤ _; omega⟩, hr, hk, ha, hm, ht⟩
    have hM : s1.ph ≠ 5 → M = M1 := by
      intro e5
      by_cases hl : (stepM M false ((needS s s.ph.toNat : Nat) : Int) 0).2.2 = true
      · have e1 : (seekE M s).1 = (stepM M false ((needS s s.ph.toNat : Nat) : Int) 0).1 := by unfold seekE; rw [if_neg hn4]
        rw [e] at e1
        rw [show M1 = _ from e1]
        unfold stepM at hl ⊢
        split
        · rfl
        · rename_i hf; rw [if_neg hf] at hl; cases hl
      · have e1 : (seekE M s).2.1.ph = 5 := by unfold seekE; rw [if_neg hn4]; show Sk.ph (if _ then _ else _) = 5; rw [if_neg hl]
        rw [e] at e1
        exact absurd e1 e5
    by_cases e4 : s1.ph = 4
    · have hM := hM (by omega)
      subst hM
      rw [seekRun_end (by omega)] at h
      cases h
      rw [if_pos e4] at hL
      exact ⟨by omega, by rw [show n + 1 - n = 0 + 1 by omega]; exact .step (hlo 1 s (by decide) (by decide) hs) hL (.done (hlo 2 _ (by decide) (by decide) o3) (lookE_over rfl))⟩
    · by_cases e5 : s1.ph = 5
      · rw [seekRun_end (by omega)] at h
        cases h
        omega
      · rw [if_neg e4, if_neg e5] at hL
        have hM := hM e5
        subst hM
        obtain ⟨i1, i2⟩ := seek_lk hok hW hr hk ha hm F s1 s' (n + 1) m o3 o4 (by omega) h h4
        exact ⟨by omega, by rw [show m - n = (m - (n + 1)) + 1 by omega]; exact .step (hlo 1 s (by decide) (by decide) hs) hL i2⟩
/-- A table's array, its buckets, and their nodes. -/
theorem rows_buckets {M : Mem} {a d : Nat} : ∀ (k b : Nat) (met : List Nat) (out xs : List Rw) (met' : List Nat), bucketsGo M a d k b met out = some (xs, met') → ∀ j, b ≤ j → j < b + k → ∃ ns, nodesR M (a + j) = some ns
  | 0, b, met, out, xs, met', h, j, h1, h2 => by omega
  | k + 1, b, met, out, xs, met', h, j, h1, h2 => by
    unfold bucketsGo at h
    cases hn : nodesR M (a + b) with
    | none => rw [hn] at h; cases h
    | some ns =>
      rw [hn, Option.bind_some] at h
      cases ht : takeNs M d b ns met out with
      | none => rw [ht] at h; cases h
      | some r =>
        rw [ht, Option.bind_some] at h
        by_cases e : j = b
        · subst e; exact ⟨ns, hn⟩
        · exact rows_buckets k (b + 1) _ _ _ _ h j (by omega) (by omega)
theorem rows_open {M : Mem} {root : Nat} {xs : List Rw} {met : List Nat} (h : rowsW M root = some (xs, met)) : ∃ a d m0 m1, tmeet M root 1 [] = some m0 ∧ saysW (M.W.getD root 0) = some (a, d) ∧ tmeet M a (2 ^ d) m0 = some m1 ∧ bucketsGo M a d (2 ^ d) 0 m1 [] = some (xs, met) := by
  unfold rowsW at h
  cases h0 : tmeet M root 1 [] with
  | none => rw [h0] at h; cases h
  | some m0 =>
    rw [h0, Option.bind_some] at h
    cases h1 : saysW (M.W.getD root 0) with
    | none => rw [h1] at h; cases h
    | some s =>
      rw [h1, Option.bind_some] at h
      cases h2 : tmeet M s.1 (2 ^ s.2) m0 with
      | none => rw [h2] at h; cases h
      | some m1 =>
        rw [h2, Option.bind_some] at h
        exact ⟨s.1, s.2, m0, m1, rfl, rfl, h2, h⟩
/-- Who looked in a table, and in how many steps. -/
def lookT (M : Mem) (root key : Nat) : Lk × Nat :=
  match saysW (M.W.getD root 0) with
  | none => (zeroLk, 0)
  | some (a, d) =>
    match nodesR M (a + ofN key d) with
    | none => (zeroLk, 0)
    | some ns => (⟨2, root, key, a, ((2 ^ d : Nat) : Int), (findS (hashN key) key (a + ofN key d) ns).1⟩, (findS (hashN key) key (a + ofN key d) ns).2 + 1)
theorem lookT_some {M : Mem} {root key a d : Nat} {ns : List Nd} (h : saysW (M.W.getD root 0) = some (a, d)) (hn : nodesR M (a + ofN key d) = some ns) :
    lookT M root key = (⟨2, root, key, a, ((2 ^ d : Nat) : Int), (findS (hashN key) key (a + ofN key d) ns).1⟩, (findS (hashN key) key (a + ofN key d) ns).2 + 1) := by
  unfold lookT
  rw [h]
  dsimp only
  rw [hn]
theorem tab_live {M : Mem} {root a d : Nat} {m0 : List Nat} (h0 : tmeet M root 1 [] = some m0) : liveN M root = true ∧ root ≤ 4096 := by
  obtain ⟨h1, h2, -⟩ := tmeet_iff.1 h0
  exact ⟨(h2 0 (by decide)).1, h1⟩
/-- Looking in a table. -/
theorem look_run {M : Mem} {root key : Nat} {xs : List Rw} {met : List Nat} (hok : okM M = true) (hW : ∀ x ∈ M.W, x < 18446744073709551616) (hr : root < 18446744073709551616) (hk : key < 18446744073709551616) (h : rowsW M root = some (xs, met)) :
    LkRun M (askK root key) (lookT M root key).2 (lookT M root key).1 ∧ (lookT M root key).2 ≤ 20000 := by
  obtain ⟨a, d, m0, m1, t0, hs, t1, hb⟩ := rows_open h
  obtain ⟨hd2, hd4, ha⟩ := saysW_some hs
  have ho := ofN_lt (key := key) (show d ≤ 64 by omega)
  obtain ⟨ns, hns⟩ := rows_buckets _ _ _ _ _ _ hb (ofN key d) (by omega) (by omega)
  obtain ⟨hl, hr4⟩ := tab_live (a := 0) (d := 0) t0
  have hp16 : 2 ^ d ≤ 16 := (pow_dep hd2 hd4).2.2
  rw [lookT_some hs hns]
  have hf := find_run hok hns (hashN key) key
  have hlen := findS_len (hashN key) key (a + ofN key d) ns
  have hnl := chain_len hok (chain_of hns)
  have hsk : (seekK (a + ofN key d) (hashN key) key).Ok := ⟨⟨by show _ ≤ (0 : Int); decide, by show (0 : Int) ≤ _; decide⟩, hashN_lt key, hk, by show a + ofN key d < _; omega, by show 0 < _; decide, by show 0 < _; decide⟩
  have hmany : -9223372036854775808 ≤ ((2 ^ d : Nat) : Int) ∧ ((2 ^ d : Nat) : Int) ≤ 9223372036854775807 := by omega
  obtain ⟨q1, q2⟩ := seek_lk hok hW hr hk (array := a) (many := ((2 ^ d : Nat) : Int)) (by omega) hmany _ _ _ _ _ hsk (by show (0 : Int) ≤ 0; decide) (by show (0 : Int) ≤ 3; decide) hf.1 (findS_ph _ _ _ _)
  refine ⟨?_, by dsimp only; omega⟩
  have hz : (askK root key).Ok := ⟨⟨by show _ ≤ (0 : Int); decide, by show (0 : Int) ≤ _; decide⟩, hr, hk, by show 0 < _; decide, by show _ ≤ (0 : Int) ∧ (0 : Int) ≤ _; decide, ⟨by show _ ≤ (0 : Int) ∧ (0 : Int) ≤ _; decide, by show 0 < _; decide, by show 0 < _; decide, by show 0 < _; decide, by show 0 < _; decide, by show 0 < _; decide⟩⟩
  have he : lookE M (askK root key) = (M, ⟨1, root, key, a, ((2 ^ d : Nat) : Int), seekK (a + ofN key d) (hashN key) key⟩, true) := by
    unfold lookE askK
    dsimp only
    rw [if_pos rfl, Nat.min_eq_left hr4, load_live hl]
    dsimp only
    rw [if_pos rfl, hs]
  refine .step hz he ?_
  simpa using q2
end Go.Proofs.YtahicokokfcieaaGreatDoor
namespace Go.Proofs.YtahicokokfcieaaGreatDoor
open Go.RowKit
open Go.Proofs
set_option linter.unusedVariables false
attribute [local go_sem] Oper.semAt_some
theorem looked_result {W : World} {b6 : Nat} {v6_0 v6_1 v6_2 v6_3 v6_4 v6_5 v6_6 v6_7 v6_8 v6_9 v6_10 v6_11 : Value} {tmps : Array Value} (h6 : W.heap[b6]? = some (.cells #[v6_0, v6_1, v6_2, v6_3, v6_4, v6_5, v6_6, v6_7, v6_8, v6_9, v6_10, v6_11] 43 (0, 0))) (q6 : tmps[6]?.getD undef = .pointer (some ⟨b6, 0, none⟩)) :
    (results Tryz.f40 tmps).run Tryz.prog W = .ok (.agg #[v6_0, v6_1, v6_2, v6_3, v6_4, v6_5, v6_6, v6_7, v6_8, v6_9, v6_10, v6_11]) W := by
  have e6_0 := cell_laid (i := 0) (v := v6_0) h6 rfl
  have e6_1 := cell_laid (i := 1) (v := v6_1) h6 rfl
  have e6_2 := cell_laid (i := 2) (v := v6_2) h6 rfl
  have e6_3 := cell_laid (i := 3) (v := v6_3) h6 rfl
  have e6_4 := cell_laid (i := 4) (v := v6_4) h6 rfl
  have e6_5 := cell_laid (i := 5) (v := v6_5) h6 rfl
  have e6_6 := cell_laid (i := 6) (v := v6_6) h6 rfl
  have e6_7 := cell_laid (i := 7) (v := v6_7) h6 rfl
  have e6_8 := cell_laid (i := 8) (v := v6_8) h6 rfl
  have e6_9 := cell_laid (i := 9) (v := v6_9) h6 rfl
  have e6_10 := cell_laid (i := 10) (v := v6_10) h6 rfl
  have e6_11 := cell_laid (i := 11) (v := v6_11) h6 rfl
  simp [results, Tryz.results40, go_sem, e6_0, e6_1, e6_2, e6_3, e6_4, e6_5, e6_6, e6_7, e6_8, e6_9, e6_10, e6_11, q6]
theorem LkRun.two {M : Mem} {l lE : Lk} {n : Nat} (h : LkRun M l n lE) : (n = 0 ∧ l = lE ∧ lookE M l = (M, l, false)) ∨ ∃ l' g, n = g + 1 ∧ lookE M l = (M, l', true) ∧ LkRun M l' g lE := by
  cases h with
  | done o e => exact .inl ⟨rfl, rfl, e⟩
  | step o e r => exact .inr ⟨_, _, rfl, e, r⟩
theorem Glob.tch {P : Nat → Prop} {V W : World} (h : Glob V) (ht : Tch P V W) (h0 : ¬ P 0) : Glob W := by
  have e0 : W.heap[0]? = V.heap[0]? := ht.block 0 h.one h0
  have k : ∀ i v, V.cell? ⟨0, i, none⟩ = some v → W.cell? ⟨0, i, none⟩ = some v := fun i v hv => by
    unfold World.cell? at hv ⊢
    rw [e0]
    exact hv
  exact ⟨Nat.le_trans h.one ht.size, k _ _ h.c0, k _ _ h.c1, k _ _ h.c2, k _ _ h.c3⟩
structure Lkd (B R S Z : Nat) (V : World) (M : Mem) (l lE : Lk) (n N g : Nat) (W : World) : Prop where
  run : RunT B R M n W
  bs : W.heap[S]? = some (.cells (lk12 l) 43 (0, 0))
  bz : W.heap[Z]? = some (.cells #[.int .i64 0, .int .u64 0, .int .u64 0, .int .u64 0, .int .i64 0, .int .i64 0, .int .u64 0, .int .u64 0, .int .u64 0, .int .u64 0, .int .u64 0, .bool false] 43 (0, 0))
  tch : Tch (fun k => k = R ∨ k = S) V W
  res : LkRun M l g lE
  cnt : n + g = N
def GivesLooked (B R N : Nat) (M : Mem) (lE : Lk) (V : World) (e : Ending) (W : World) : Prop := e = .returned (lkV lE) ∧ RunT B R M N W ∧ Tch (fun k => k = R) V W
set_option maxRecDepth 100000 in
set_option maxHeartbeats 4000000 in
theorem looked_any (B R root key N : Nat) (M : Mem) (lE : Lk) (V : World) (h : RunT B R M 0 V) (hB : B ≤ V.heap.size) (hok : okM M = true) (hg : Glob V) (hW : ∀ x ∈ M.W, x < 18446744073709551616) (hR0 : R ≠ 0) (hl : LkRun M (askK root key) N lE) (hN : N ≤ 100000) :
    Calls Tryz.prog 40 #[.pointer (some ⟨R, 0, none⟩), .int .u64 ((root : Nat) : Int), .int .u64 ((key : Nat) : Int)] V (GivesLooked B R N M lE V) := by
  obtain ⟨V1, hV1, hb1, hs1, hl1⟩ := laid V #[.int .i64 0, .int .u64 0, .int .u64 0, .int .u64 0, .int .i64 0, .int .i64 0, .int .u64 0, .int .u64 0, .int .u64 0, .int .u64 0, .int .u64 0, .bool false] 43
  obtain ⟨Z, hZ⟩ : ∃ X, V.heap.size = X := ⟨_, rfl⟩
  rw [hZ] at hl1
  have KZ := hid hl1
  have HB := hid hb1
  have hVZ : V.heap.size ≤ Z := by omega
  have hRlt := h.lt
  have hRZ : R < Z := by omega
  have HR := hid (h.grow hb1)
  have HAS := hid (fun W => Ask_any root key W)
  unfold lkV at HAS
  unfold askK zeroSk at HAS
  unfold lk12 at HAS
  dsimp only at HAS
  have HL := hid hl
  have HOK := hid hok
  have HG := hid hg
  have HW := hid hW
  have hV0 : 0 < V.heap.size := hg.one
  clear hb1 hs1 hl1 h hl hok hg hW
  go_enter Tryz.func40, Tryz.ntmps40
  go_wp2
  go_step3
  go_wp2_with fail
  refine (HAS.out V1).mono ?_
  rintro e V2 ⟨rfl, hb2⟩
  obtain ⟨V3, hV3, hb3, hs3, hl3⟩ := laid V2 #[.int .i64 0, .int .u64 0, .int .u64 0, .int .u64 0, .int .i64 0, .int .i64 0, .int .u64 0, .int .u64 0, .int .u64 0, .int .u64 0, .int .u64 0, .bool false] 43
  obtain ⟨S, hS⟩ : ∃ X, V2.heap.size = X := ⟨_, rfl⟩
  rw [hS] at hl3
  have KS3 := hid hl3
  have hVS : V.heap.size ≤ S := by have := HB.out.size; have := hb2.size; omega
  have hZS : Z < S := by have := lt_laid (keep_laid KZ.out hb2); omega
  have KZ3 := hid (keep_laid (keep_laid KZ.out hb2) hb3)
  have HR3 := hid ((HR.out.grow hb2).grow hb3)
  have HB3 := hid (step (step HB.out hb2) hb3)
  clear hb2 hb3 hs3 hl3 hZ
  go_wp2_with (refine wp_storeP rfl 43 (.tmp 7) (.tmp 10) rfl S 0 _ (lk12 (askK root key)) _ rfl rfl _ KS3.out (by kernel_rfl) (Nat.le_of_ble_eq_true rfl) (by kernel_rfl) rfl ?_; intro V4 a1 a2 a3 a4; have KS4 := hid a1; have KZ4 := hid (a2 Z _ (by omega) KZ3.out); have HT4 : Hid (Tch (fun k => k = S) V3 V4) := hid ⟨a4.os, a4.tape, a4.output, a4.size, fun k hk hne => a4.block k hk (fun e => hne (Option.some.inj e))⟩; have HR4 := hid (HR3.out.tch HT4.out KS3.out (by decide) (by decide) (by decide)); have HB4 := hid (a3 V.heap.size V (by omega) HB3.out); clear a1 a2 a3 a4)
  clear hS
  have HF : Hid (Lkd B R S Z V M (askK root key) lE 0 N N V4) := hid ⟨HR4.out, KS4.out, KZ4.out, Tch.of_below HB4.out, HL.out, by omega⟩
  clear KS3 KZ3 HR3 HB3 KS4 KZ4 HT4 HR4 HB4 HR HB KZ HL
  go_step3
  simp only [Act.put]
  go_wp2
  go_loopg [13] N (fun g t13 wr => ∃ (l : Lk) (n : Nat), Hid (Lkd B R S Z V M l lE n N g wr))
  case atStart => exact ⟨_, 0, HF⟩
  case round =>
    clear HF
    obtain ⟨l, n, hF⟩ := hrel
    have HSE := hid (look_any B R S n M l wr hF.out.run hF.out.bs (Nat.le_trans hB hF.out.tch.size) HOK.out (HG.out.tch hF.out.tch (by omega)) HW.out hF.out.res.ok hR0 (by have := hF.out.cnt; omega))
    obtain ⟨⟨Mn, ln, bn⟩, hX⟩ : ∃ X, lookE M l = X := ⟨_, rfl⟩
    rw [hX] at HSE
    have HX := hid hX
    clear hX
    go_wp2_with fail
    refine HSE.out.mono ?_
    rintro e w2 ⟨rfl, hr2, hs2, ht2⟩
    have HR2 := hid hr2
    have HS2 := hid hs2
    have HT2 := hid ht2
    have HZ2 := hid (ht2.keep hF.out.bz (by rintro (e | e) <;> omega))
    clear hr2 hs2 ht2 HSE
    rcases hF.out.res.two with ⟨rfl, rfl, o2⟩ | ⟨l', g', hgk, o2, r⟩
    · skip
      rw [HX.out] at o2
      simp only [Prod.mk.injEq] at o2
      obtain ⟨rfl, rfl, rfl⟩ := o2
      have HFIN : Hid (RunT B R Mn N w2 ∧ Tch (fun k => k = R ∨ k = S) V w2) := hid ⟨by have e := hF.out.cnt; have := HR2.out; rw [← e]; simpa using this, hF.out.tch.trans HT2.out⟩
      obtain ⟨lp, root', key', array', many', ⟨sp, shash, skey, slink, snode, sval, sfound⟩⟩ := ln
      have HS3 := hid HS2.out
      unfold lk12 at HS3
      dsimp only at HS3
      have s0 := cell_laid (i := 0) HS3.out rfl
      have s1 := cell_laid (i := 1) HS3.out rfl
      have s2 := cell_laid (i := 2) HS3.out rfl
      have s3 := cell_laid (i := 3) HS3.out rfl
      have s4 := cell_laid (i := 4) HS3.out rfl
      have s5 := cell_laid (i := 5) HS3.out rfl
      have s6 := cell_laid (i := 6) HS3.out rfl
      have s7 := cell_laid (i := 7) HS3.out rfl
      have s8 := cell_laid (i := 8) HS3.out rfl
      have s9 := cell_laid (i := 9) HS3.out rfl
      have s10 := cell_laid (i := 10) HS3.out rfl
      have s11 := cell_laid (i := 11) HS3.out rfl
      clear hF
      go_wp2_with (refine wp_storeP rfl 43 (.tmp 6) (.tmp 14) rfl Z 0 _ (lk12 ⟨lp, root', key', array', many', ⟨sp, shash, skey, slink, snode, sval, sfound⟩⟩) _ rfl rfl _ HZ2.out (by kernel_rfl) (Nat.le_of_ble_eq_true rfl) (by kernel_rfl) rfl ?_; intro w3 a1 a2 a3 a4; have KZ5 := hid a1; have HT5 : Hid (Tch (fun k => k = Z) w2 w3) := hid ⟨a4.os, a4.tape, a4.output, a4.size, fun k hk hne => a4.block k hk (fun e => hne (Option.some.inj e))⟩; have HR5 := hid (HFIN.out.1.tch HT5.out HZ2.out (by decide) (by decide) (by decide)); have HT6 : Hid (Tch (fun k => k = R) V w3) := hid ⟨a4.os.trans HFIN.out.2.os, a4.tape.trans HFIN.out.2.tape, a4.output.trans HFIN.out.2.output, Nat.le_trans HFIN.out.2.size a4.size, fun j hj hn => (a4.block j (Nat.lt_of_lt_of_le hj HFIN.out.2.size) (fun e => by have := Option.some.inj e; omega)).trans (HFIN.out.2.block j hj (by rintro (e | e); exact hn e; omega))⟩; clear a1 a2 a3 a4)
      rw [Exit.noGoto_ret]
      refine bodyPost_ret (looked_result KZ5.out rfl) rfl ?_
      exact ⟨rfl, HR5.out, HT6.out⟩
    · skip
      rw [HX.out] at o2
      simp only [Prod.mk.injEq] at o2
      obtain ⟨rfl, rfl, rfl⟩ := o2
      have HF2 : Hid (Lkd B R S Z V Mn ln lE (n + 1) N g' w2) := hid ⟨HR2.out, HS2.out, HZ2.out, hF.out.tch.trans HT2.out, r, by have := hF.out.cnt; omega⟩
      have HGK := hid hgk
      clear hF r hgk
      go_wp2
      go_roundg g'
      case measure => have := HGK.out; omega
      case rel => exact ⟨ln, n + 1, HF2⟩
end Go.Proofs.YtahicokokfcieaaGreatDoor
namespace Go.Proofs.YtahicokokfcieaaGreatDoor
open Go.RowKit
open Go.Proofs
set_option linter.unusedVariables false
attribute [local go_sem] Oper.semAt_some
structure Edd (B R E : Nat) (V : World) (M : Mem) (s : Ede) (n g : Nat) (X : Mem × Ede × Nat) (W : World) : Prop where
  run : RunT B R M n W
  be : W.heap[E]? = some (.cells (ed8 s) 97 (0, 0))
  tch : Tch (fun k => k = R ∨ k = E) V W
  ok : okM M = true
  wok : ∀ x ∈ M.W, x < 18446744073709551616
  sok : s.Ok
  p0 : 0 ≤ s.ph
  p7 : s.ph ≤ 7
  res : editRun g M s n = X
  cnt : n + g ≤ 200000
structure REd (R E : Nat) (cs cs' : Array Value) where
  w : World
  br : w.heap[R]? = some (.cells cs 92 (0, 0))
  be : w.heap[E]? = some (.cells cs' 97 (0, 0))
def GivesEdits (B R : Nat) (X : Mem × Ede × Nat) (V : World) (e : Ending) (W : World) : Prop := e = .returned (.tuple #[]) ∧ RunT B R X.1 X.2.2 W ∧ Tch (fun k => k = R) V W
set_option maxRecDepth 100000 in
set_option maxHeartbeats 4000000 in
theorem tedit_any (B R n0 F : Nat) (M : Mem) (s : Ede) (X : Mem × Ede × Nat) (V : World) (h : RunT B R M n0 V) (hB : B ≤ V.heap.size) (hok : okM M = true) (hW : ∀ x ∈ M.W, x < 18446744073709551616) (hs : s.Ok) (h0 : 0 ≤ s.ph) (h7 : s.ph ≤ 7) (hx : editRun F M s n0 = X) (hX : 6 ≤ X.2.1.ph) (hn : n0 + F ≤ 200000) :
    Calls Tryz.prog 44 #[.pointer (some ⟨R, 0, none⟩), edV s] V (GivesEdits B R X V) := by
  obtain ⟨V1, hV1, hb1, hs1, hl1⟩ := laid V #[.int .i64 s.ph, .bool s.cuts, .int .u64 ((s.link : Nat) : Int), .int .u64 ((s.at_ : Nat) : Int), .int .u64 ((s.key : Nat) : Int), .int .u64 ((s.val : Nat) : Int), .int .u64 ((s.hash : Nat) : Int), .int .u64 ((s.next : Nat) : Int)] 97
  obtain ⟨E, hE⟩ : ∃ X, V.heap.size = X := ⟨_, rfl⟩
  rw [hE] at hl1
  have hVE : V.heap.size ≤ E := by omega
  have hRlt := h.lt
  have hRE : R < E := by omega
  have HF : Hid (Edd B R E V M s n0 F X V1) := hid ⟨h.grow hb1, hl1, Tch.of_below hb1, hok, hW, hs, h0, h7, hx, hn⟩
  have HX := hid hX
  unfold edV
  clear hb1 hs1 hl1 h hok hW hs h0 h7 hx hX hn
  go_enter Tryz.func44, Tryz.ntmps44
  go_wp2
  clear hE
  go_loopg [6] F (fun g t6 wr => ∃ (M2 : Mem) (s2 : Ede) (n : Nat), Hid (Edd B R E V M2 s2 n g X wr))
  case atStart => exact ⟨_, _, _, HF⟩
  case round =>
    clear HF
    obtain ⟨M2, s, n, hF⟩ := hrel
    have x0 := cell_laid (i := 0) hF.out.be rfl
    by_cases h6 : 6 ≤ s.ph
    · have d6 : decide (s.ph < 6) = false := decide_eq_false (by omega)
      have HFIN : Hid (RunT B R X.1 X.2.2 wr ∧ Tch (fun k => k = R) V wr) := hid (by
        have e := hF.out.res
        rw [editRun_end h6] at e
        rw [← e]
        exact ⟨hF.out.run, hF.out.tch.drop hVE⟩)
      have h6' : ¬ s.ph < 6 := by omega
      clear hF h6
      go_wp2
      go_end0
      exact ⟨rfl, HFIN.out.1, HFIN.out.2⟩
    · have d6 : decide (s.ph < 6) = true := decide_eq_true (by omega)
      have h6' : s.ph < 6 := by omega
      obtain ⟨g1, hg1⟩ : ∃ g1, gk = g1 + 1 := by
        cases gk with
        | zero =>
          have e := hF.out.res
          unfold editRun at e
          rw [← e] at HX
          exact absurd HX.out h6
        | succ g => exact ⟨g, rfl⟩
      obtain ⟨⟨M', s', b⟩, hXE⟩ : ∃ X, editE M2 s = X := ⟨_, rfl⟩
      obtain ⟨k1, k2, k3, k4⟩ := editE_ok hF.out.ok hF.out.wok hF.out.sok hF.out.p0 hF.out.p7
      rw [hXE] at k1 k2 k3 k4
      dsimp only at k1 k2 k3 k4
      have HRES : Hid (editRun g1 M' s' (n + 1) = X) := hid (by
        have e := hF.out.res
        rw [hg1, editRun_step h6 hXE] at e
        exact e)
      have HP : seditP M2 s = (M', s', 0) := by
        unfold seditP
        rw [if_neg (by rw [hF.out.ok]; decide), if_neg (by have := hF.out.p0; have := hF.out.p7; omega), hXE]
      have HK1 := hid k1
      have HK2 := hid k2
      have HK3 := hid k3
      have HK4 : Hid (0 ≤ s'.ph ∧ s'.ph ≤ 7) := hid (by have := k4.1 h6'; have := hF.out.p0; omega)
      have HG := hid hg1
      have HCN := hid hF.out.cnt
      obtain ⟨wa, wc, la, lc, kR, oM⟩ := hF.out.run
      have KRw := hid kR
      have KEw := hid hF.out.be
      have HOw := hid oM
      have HTw := hid hF.out.tch
      have hnc : n ≤ 200000 := by have := HCN.out; omega
      have hwl := HOw.out.memL.w.len
      have hll := HOw.out.memL.l.len
      have hBw : B ≤ wr.heap.size := Nat.le_trans hB HTw.out.size
      obtain ⟨D, hD⟩ : ∃ DX, wr.drew = DX := ⟨_, rfl⟩
      have hbD : Below wr.heap.size wr D := by rw [← hD]; exact (Below.refl _ _).drew
      have HD := hid hD
      have KRD := hid (keep_laid KRw.out hbD)
      have KED := hid (keep_laid KEw.out hbD)
      have HOD := hid (HOw.out.grow hbD)
      have HTD := hid (HTw.out.trans (Tch.of_below hbD))
      have hBD : B ≤ D.heap.size := Nat.le_trans hBw hbD.size
      have HSE := hid (StepEdit_any M2 s wa la wc lc D HOD.out.memL hF.out.sok)
      rw [HP] at HSE
      unfold memV edV at HSE
      have hRE' : R ≠ E := by omega
      have hER' : E ≠ R := by omega
      haveI : Nonempty (REd R E #[.slice wa M2.W.length wc, .slice la M2.L.length lc, .bool M2.F, .int .i64 ((n : Nat) : Int)] (ed8 s)) := ⟨⟨D, KRD.out, KED.out⟩⟩
      have r0 : ∀ z : REd R E #[.slice wa M2.W.length wc, .slice la M2.L.length lc, .bool M2.F, .int .i64 ((n : Nat) : Int)] (ed8 s), z.w.cell? ⟨R, 0, none⟩ = some (.slice wa M2.W.length wc) := fun z => cell_laid (i := 0) z.br rfl
      have r1 : ∀ z : REd R E #[.slice wa M2.W.length wc, .slice la M2.L.length lc, .bool M2.F, .int .i64 ((n : Nat) : Int)] (ed8 s), z.w.cell? ⟨R, 1, none⟩ = some (.slice la M2.L.length lc) := fun z => cell_laid (i := 1) z.br rfl
      have r2 : ∀ z : REd R E #[.slice wa M2.W.length wc, .slice la M2.L.length lc, .bool M2.F, .int .i64 ((n : Nat) : Int)] (ed8 s), z.w.cell? ⟨R, 2, none⟩ = some (.bool M2.F) := fun z => cell_laid (i := 2) z.br rfl
      have q0 : ∀ z : REd R E #[.slice wa M2.W.length wc, .slice la M2.L.length lc, .bool M2.F, .int .i64 ((n : Nat) : Int)] (ed8 s), z.w.cell? ⟨E, 0, none⟩ = some (.int .i64 s.ph) := fun z => cell_laid (i := 0) z.be rfl
      have q1 : ∀ z : REd R E #[.slice wa M2.W.length wc, .slice la M2.L.length lc, .bool M2.F, .int .i64 ((n : Nat) : Int)] (ed8 s), z.w.cell? ⟨E, 1, none⟩ = some (.bool s.cuts) := fun z => cell_laid (i := 1) z.be rfl
      have q2 : ∀ z : REd R E #[.slice wa M2.W.length wc, .slice la M2.L.length lc, .bool M2.F, .int .i64 ((n : Nat) : Int)] (ed8 s), z.w.cell? ⟨E, 2, none⟩ = some (.int .u64 ((s.link : Nat) : Int)) := fun z => cell_laid (i := 2) z.be rfl
      have q3 : ∀ z : REd R E #[.slice wa M2.W.length wc, .slice la M2.L.length lc, .bool M2.F, .int .i64 ((n : Nat) : Int)] (ed8 s), z.w.cell? ⟨E, 3, none⟩ = some (.int .u64 ((s.at_ : Nat) : Int)) := fun z => cell_laid (i := 3) z.be rfl
      have q4 : ∀ z : REd R E #[.slice wa M2.W.length wc, .slice la M2.L.length lc, .bool M2.F, .int .i64 ((n : Nat) : Int)] (ed8 s), z.w.cell? ⟨E, 4, none⟩ = some (.int .u64 ((s.key : Nat) : Int)) := fun z => cell_laid (i := 4) z.be rfl
      have q5 : ∀ z : REd R E #[.slice wa M2.W.length wc, .slice la M2.L.length lc, .bool M2.F, .int .i64 ((n : Nat) : Int)] (ed8 s), z.w.cell? ⟨E, 5, none⟩ = some (.int .u64 ((s.val : Nat) : Int)) := fun z => cell_laid (i := 5) z.be rfl
      have q6 : ∀ z : REd R E #[.slice wa M2.W.length wc, .slice la M2.L.length lc, .bool M2.F, .int .i64 ((n : Nat) : Int)] (ed8 s), z.w.cell? ⟨E, 6, none⟩ = some (.int .u64 ((s.hash : Nat) : Int)) := fun z => cell_laid (i := 6) z.be rfl
      have q7 : ∀ z : REd R E #[.slice wa M2.W.length wc, .slice la M2.L.length lc, .bool M2.F, .int .i64 ((n : Nat) : Int)] (ed8 s), z.w.cell? ⟨E, 7, none⟩ = some (.int .u64 ((s.next : Nat) : Int)) := fun z => cell_laid (i := 7) z.be rfl
      clear hF h6 hg1 hXE HP k1 k2 k3 k4 kR oM hD hbD KRw KEw HOw HTw
      go_upto_region 2 with (fail)
      clear x0
      refine wp_region_turn (fun W => ∃ z : REd R E #[.slice wa M2.W.length wc, .slice la M2.L.length lc, .bool M2.F, .int .i64 ((n : Nat) : Int)] (ed8 s), W = z.w) 13 (.p 0 (.p 1 (.p 2 (.p 3 (.q 4 (.q 5 (.h 6 (.p 7 (.p 8 (.p 9 (.p 10 (.p 11 (.p 12 (.h 13 (.h 14 (.done)))))))))))))))) (by kernel_rfl) (by kernel_rfl) (by rw [HD.out]; exact ⟨⟨D, KRD.out, KED.out⟩, rfl⟩) ?_
      rw [HD.out]
      iterate 4 (refine wpTurn_p rfl rfl ?_; go_big_quiet_step (fail); refine wpQuiet_nil ?_)
      iterate 2 (refine wpTurn_q rfl rfl ?_; go_big_quiet_step (fail); refine wpQuiet_nil ?_)
      refine wpTurn_h rfl rfl fun R' hR' hO => ?_
      go_wp2_with fail
      refine HSE.out.mono ?_
      rintro e w5 ⟨wa', wc', la', lc', rfl, hoo, hb5⟩
      have KR5 := hid (keep_laid KRD.out hb5)
      have KE5 := hid (keep_laid KED.out hb5)
      have HN5 := hid (hoo.base hBD)
      have HT5 := hid (HTD.out.trans (Tch.of_below hb5))
      unfold memV edV
      clear hoo hb5 HSE
      go_wp2
      refine hR' _ _ ⟨⟨w5, KR5.out, KE5.out⟩, rfl⟩ ?_
      clear hR' hO R'
      iterate 6 (refine wpTurn_p rfl rfl ?_; go_big_quiet_step (fail); refine wpQuiet_nil ?_)
      refine wpTurn_m rfl fun R' hR' hO => ?_
      go_wp2_with (refine wp_storeP rfl 25 (.tmp 19) (.tmp 15) rfl R 0 _ #[.slice wa' M'.W.length wc', .slice la' M'.L.length lc', .bool M'.F, .int .i64 ((n : Nat) : Int)] _ rfl rfl _ KR5.out (by kernel_rfl) (Nat.le_of_ble_eq_true rfl) (by kernel_rfl) rfl ?_; intro w6 a1 a2 a3 a4; have KR6 := hid a1; have KE6 := hid (a2 E _ hER' KE5.out); have HN6 : Hid (MemO B wa' wc' la' lc' M' w6) := hid ⟨own_keep HN5.out.w fun j o hj ho => a2 j o (fun e => own_neP HN5.out.w KR5.out (by decide) (by rw [← e]; exact hj)) ho, own_keep HN5.out.l fun j o hj ho => a2 j o (fun e => own_neP HN5.out.l KR5.out (by decide) (by rw [← e]; exact hj)) ho⟩; have HT6 := hid (HT5.out.trans ⟨a4.os, a4.tape, a4.output, a4.size, fun k hk hne => a4.block k hk (fun e => hne (.inl (Option.some.inj e)))⟩); clear a1 a2 a3 a4)
      refine hR' _ _ ?_
      clear hR' hO R'
      refine wpTurn_b rfl fun R' hR' hO => ?_
      go_wp2_with (refine wp_storeP rfl 97 (.tmp 3) (.tmp 16) rfl E 0 _ (ed8 s') _ rfl rfl _ KE6.out (by kernel_rfl) (Nat.le_of_ble_eq_true rfl) (by kernel_rfl) rfl ?_; intro w7 a1 a2 a3 a4; have KE7 := hid a1; have KR7 := hid (a2 R _ hRE' KR6.out); have HN7 : Hid (MemO B wa' wc' la' lc' M' w7) := hid ⟨own_keep HN6.out.w fun j o hj ho => a2 j o (fun e => own_neP HN6.out.w KE6.out (by decide) (by rw [← e]; exact hj)) ho, own_keep HN6.out.l fun j o hj ho => a2 j o (fun e => own_neP HN6.out.l KE6.out (by decide) (by rw [← e]; exact hj)) ho⟩; have HT7 := hid (HT6.out.trans ⟨a4.os, a4.tape, a4.output, a4.size, fun k hk hne => a4.block k hk (fun e => hne (.inr (Option.some.inj e)))⟩); clear a1 a2 a3 a4)
      refine hR' _ _ ?_
      clear hR' hO R'
      refine wpTurn_done ?_
      clear HD r0 r1 r2 q0 q1 q2 q3 q4 q5 q6 q7 KRD KED HOD HTD KR5 KE5 HN5 HT5 KR6 KE6 HN6 HT6
      have q3 := cell_laid (i := 3) KR7.out rfl
      have f3 := free_laid (i := 3) KR7.out
      have KR9 := hid (set_laid (i := 3) KR7.out (.int .i64 ((n + 1 : Nat) : Int)))
      have KE9 := hid (other_laid (i := 3) KE7.out hER' (.int .i64 ((n + 1 : Nat) : Int)))
      have HN9 := hid (HN7.out.set (i := 3) KR7.out (by decide) (by decide) (.int .i64 ((n + 1 : Nat) : Int)))
      have HT9 := hid (HT7.out.trans (Tch.set (P := fun k => k = R ∨ k = E) (b := R) (i := 3) (.inl rfl) (.int .i64 ((n + 1 : Nat) : Int))))
      go_wp2
      go_roundg g1
      case measure => have := HG.out; omega
      case rel => exact ⟨M', s', n + 1, hid ⟨⟨wa', wc', la', lc', KR9.out, HN9.out⟩, KE9.out, HT9.out, HK1.out, HK2.out, HK3.out, HK4.out.1, HK4.out.2, HRES.out, by have := HG.out; have := HCN.out; omega⟩⟩
end Go.Proofs.YtahicokokfcieaaGreatDoor
namespace Go.Proofs.YtahicokokfcieaaGreatDoor
open Go.RowKit
open Go.Proofs
set_option linter.unusedVariables false
attribute [local go_sem] Oper.semAt_some
/-- What Find gives. -/
def findT (M : Mem) (root key : Nat) : Nat × Nat × Nat :=
  if okM M = false then (0, 0, 120) else if (rowsW M root).isSome = false then (0, 0, 290) else
    if (lookT M root key).1.s.found = true then ((lookT M root key).1.s.val, (lookT M root key).2, 0) else (0, 0, 4)
def findTV (x : Nat × Nat × Nat) : Value := .tuple #[.int .u64 ((x.1 : Nat) : Int), .int .i64 ((x.2.1 : Nat) : Int), .int .i64 ((x.2.2 : Nat) : Int)]
set_option maxRecDepth 100000 in
set_option maxHeartbeats 4000000 in
theorem TFind_any (M : Mem) (root key : Nat) (wa la : Option Addr) (wc lc : Nat) (V : World) (h : MemL V wa wc la lc M) (hg : Glob V) (hW : ∀ x ∈ M.W, x < 18446744073709551616) (hr : root < 18446744073709551616) (hk : key < 18446744073709551616) :
    Calls Tryz.prog 12 #[memV wa wc la lc M, .int .u64 ((root : Nat) : Int), .int .u64 ((key : Nat) : Int)] V (Ret (findTV (findT M root key)) V) := by
  obtain ⟨V1, hV1, hbV1, hsV1, hlV1⟩ := laid V #[.slice wa M.W.length wc, .slice la M.L.length lc, .bool M.F] 25
  obtain ⟨X, hX⟩ : ∃ X, V.heap.size = X := ⟨_, rfl⟩
  rw [hX] at hlV1
  have KX := hid hlV1
  have HB := hid hbV1
  have hVX : V.heap.size ≤ X := by omega
  clear hbV1 hsV1 hlV1
  obtain ⟨XX, hXX⟩ : ∃ X, findT M root key = X := ⟨_, rfl⟩
  rw [hXX]
  have HXX := hid hXX
  clear hXX
  have HM := hid (h.grow HB.out)
  have HG0 := hid hg
  have HM0 := hid h
  have HW := hid hW
  have HTO := hid (told_any root wa wc la lc M V1 hr hW HM.out (hg.grow HB.out))
  have hwl := h.w.len
  have hll := h.l.len
  have hV0 : 0 < V.heap.size := hg.one
  unfold memV at HTO ⊢
  have x0 := cell_laid (i := 0) KX.out rfl
  have x1 := cell_laid (i := 1) KX.out rfl
  have x2 := cell_laid (i := 2) KX.out rfl
  have HLOOK := hid (fun xs met hok hx => look_run (M := M) (root := root) (key := key) (xs := xs) (met := met) hok hW hr hk hx)
  clear h hg hW
  go_enter Tryz.func12, Tryz.ntmps12
  go_wp2_with fail
  refine HTO.out.mono ?_
  clear HTO
  rintro e w2 ⟨hb2, ⟨hok, rfl⟩ | ⟨hok, hno, rfl⟩ | ⟨hok, xs, met, v, mb, hR, rfl, -, -, -, -⟩⟩
  · have HB2 := hid (step HB.out hb2)
    have e : XX = (0, 0, 120) := by rw [← HXX.out]; unfold findT; rw [if_pos hok]
    subst e
    clear hb2 hok hX HXX
    go_wp2
    refine bodyPost_ret (results_tmp3 rfl _ _ _) rfl ?_
    exact ⟨rfl, HB2.out⟩
  · have HB2 := hid (step HB.out hb2)
    have e : XX = (0, 0, 290) := by rw [← HXX.out]; unfold findT; rw [if_neg (by rw [hok]; decide), if_pos (by rw [hno]; rfl)]
    subst e
    clear hb2 hok hno hX HXX
    go_wp2
    refine bodyPost_ret (results_tmp3 rfl _ _ _) rfl ?_
    exact ⟨rfl, HB2.out⟩
  · have HB2 := hid (step HB.out hb2)
    have KX2 := hid (keep_laid KX.out hb2)
    have HOK := hid hok
    have hlr := HLOOK.out xs met hok hR
    have e : XX = if (lookT M root key).1.s.found = true then ((lookT M root key).1.s.val, (lookT M root key).2, 0) else (0, 0, 4) := by rw [← HXX.out]; unfold findT; rw [if_neg (by rw [hok]; decide), if_neg (by rw [hR]; exact fun h => by cases h)]
    obtain ⟨⟨⟨lp, lr, lk, la2, lm, ⟨sp, sh, sk, sl, sn, sv, sf⟩⟩, N⟩, hlt⟩ : ∃ x, lookT M root key = x := ⟨_, rfl⟩
    rw [hlt] at hlr e
    dsimp only at hlr e
    obtain ⟨hlr, hN⟩ := hlr
    have HLR := hid hlr
    have HE := hid e
    clear hb2 hok hR e hX HXX hlt hlr HLOOK x0 x1 x2
    have x0 := cell_laid (i := 0) KX2.out rfl
    have x1 := cell_laid (i := 1) KX2.out rfl
    have x2 := cell_laid (i := 2) KX2.out rfl
    go_wp2_with fail
    refine (town_any M wa la wc lc w2 (HM0.out.grow HB2.out) HOK.out).mono ?_
    rintro e w5 ⟨R, rfl, hR, hRT, hb5⟩
    have hR0 : R ≠ 0 := by have := HB2.out.size; omega
    have hRV : V.heap.size ≤ R := by have := HB2.out.size; omega
    have HR5 := hid (hRT.base HB2.out.size)
    have HB5 := hid (step HB2.out hb5)
    clear hb5 hRT hR x0 x1 x2
    go_wp2_with fail
    refine (looked_any V.heap.size R root key N M ⟨lp, lr, lk, la2, lm, ⟨sp, sh, sk, sl, sn, sv, sf⟩⟩ w5 HR5.out HB5.out.size HOK.out (HG0.out.grow HB5.out) HW.out hR0 HLR.out (by omega)).mono ?_
    rintro e w6 ⟨rfl, hrt, htl⟩
    have HR6 := hid hrt
    have HB6 : Hid (Below V.heap.size V w6) := hid (HB5.out.trans (htl.below (by intro k e; omega) HB5.out.size))
    clear hrt htl
    unfold lkV lk12
    dsimp only
    obtain ⟨w7, hw7, hb7, hs7, hl7⟩ := laid w6 #[.int .i64 0, .int .u64 0, .int .u64 0, .int .u64 0, .int .i64 0, .int .i64 0, .int .u64 0, .int .u64 0, .int .u64 0, .int .u64 0, .int .u64 0, .bool false] 43
    obtain ⟨L, hL⟩ : ∃ X, w6.heap.size = X := ⟨_, rfl⟩
    rw [hL] at hl7
    have KL7 := hid hl7
    have hVL : V.heap.size ≤ L := by have := HB6.out.size; omega
    have hRL : R < L := by have := HR6.out.lt; omega
    have hRL' : R ≠ L := by omega
    have HR7 := hid (HR6.out.grow hb7)
    have HB7 := hid (step HB6.out hb7)
    clear hb7 hs7 hl7
    cases sf with
    | false =>
      have e := HE.out
      rw [if_neg (by decide)] at e
      subst e
      go_wp2_with (refine wp_storeP rfl 43 (.tmp 13) (.tmp 29) rfl L 0 _ (lk12 ⟨lp, lr, lk, la2, lm, ⟨sp, sh, sk, sl, sn, sv, false⟩⟩) _ rfl rfl _ KL7.out (by kernel_rfl) (Nat.le_of_ble_eq_true rfl) (by kernel_rfl) rfl ?_; intro w9 a1 a2 a3 a4; have KL9 := hid a1; have HT9 : Hid (Tch (fun k => k = L) w7 w9) := hid ⟨a4.os, a4.tape, a4.output, a4.size, fun k hk hne => a4.block k hk (fun e => hne (Option.some.inj e))⟩; have HR9 := hid (HR7.out.tch HT9.out KL7.out (by decide) (by decide) (by decide)); have HB9 := hid (a3 V.heap.size V (by omega) HB7.out); have y11 : w9.cell? ⟨L, 11, none⟩ = some (.bool false) := cell_laid (i := 11) KL9.out rfl; clear a1 a2 a3 a4)
      clear hL
      refine bodyPost_ret (results_tmp3 rfl _ _ _) rfl ?_
      exact ⟨rfl, HB9.out⟩
    | true =>
      have e := HE.out
      rw [if_pos rfl] at e
      subst e
      go_wp2_with (refine wp_storeP rfl 43 (.tmp 13) (.tmp 29) rfl L 0 _ (lk12 ⟨lp, lr, lk, la2, lm, ⟨sp, sh, sk, sl, sn, sv, true⟩⟩) _ rfl rfl _ KL7.out (by kernel_rfl) (Nat.le_of_ble_eq_true rfl) (by kernel_rfl) rfl ?_; intro w9 a1 a2 a3 a4; have KL9 := hid a1; have HT9 : Hid (Tch (fun k => k = L) w7 w9) := hid ⟨a4.os, a4.tape, a4.output, a4.size, fun k hk hne => a4.block k hk (fun e => hne (Option.some.inj e))⟩; have HR9 := hid (HR7.out.tch HT9.out KL7.out (by decide) (by decide) (by decide)); have HB9 := hid (a3 V.heap.size V (by omega) HB7.out); have y11 : w9.cell? ⟨L, 11, none⟩ = some (.bool true) := cell_laid (i := 11) KL9.out rfl; clear a1 a2 a3 a4)
      clear hL
      obtain ⟨wa', wc', la', lc', kR9, oR9⟩ := HR9.out
      obtain ⟨D, hD⟩ : ∃ DX, w9.drew = DX := ⟨_, rfl⟩
      have hbD : Below w9.heap.size w9 D := by rw [← hD]; exact (Below.refl _ _).drew
      have HD := hid hD
      have KRD := hid (keep_laid kR9 hbD)
      have KLD := hid (keep_laid KL9.out hbD)
      have HBD := hid (step HB9.out hbD)
      haveI : Nonempty (RLk R L #[.slice wa' M.W.length wc', .slice la' M.L.length lc', .bool M.F, .int .i64 ((N : Nat) : Int)] #[.int .i64 lp, .int .u64 ((lr : Nat) : Int), .int .u64 ((lk : Nat) : Int), .int .u64 ((la2 : Nat) : Int), .int .i64 lm, .int .i64 sp, .int .u64 ((sh : Nat) : Int), .int .u64 ((sk : Nat) : Int), .int .u64 ((sl : Nat) : Int), .int .u64 ((sn : Nat) : Int), .int .u64 ((sv : Nat) : Int), .bool true]) := ⟨⟨D, KRD.out, KLD.out⟩⟩
      have r3 : ∀ z : RLk R L #[.slice wa' M.W.length wc', .slice la' M.L.length lc', .bool M.F, .int .i64 ((N : Nat) : Int)] #[.int .i64 lp, .int .u64 ((lr : Nat) : Int), .int .u64 ((lk : Nat) : Int), .int .u64 ((la2 : Nat) : Int), .int .i64 lm, .int .i64 sp, .int .u64 ((sh : Nat) : Int), .int .u64 ((sk : Nat) : Int), .int .u64 ((sl : Nat) : Int), .int .u64 ((sn : Nat) : Int), .int .u64 ((sv : Nat) : Int), .bool true], z.w.cell? ⟨R, 3, none⟩ = some (.int .i64 ((N : Nat) : Int)) := fun z => cell_laid (i := 3) z.br rfl
      have s10 : ∀ z : RLk R L #[.slice wa' M.W.length wc', .slice la' M.L.length lc', .bool M.F, .int .i64 ((N : Nat) : Int)] #[.int .i64 lp, .int .u64 ((lr : Nat) : Int), .int .u64 ((lk : Nat) : Int), .int .u64 ((la2 : Nat) : Int), .int .i64 lm, .int .i64 sp, .int .u64 ((sh : Nat) : Int), .int .u64 ((sk : Nat) : Int), .int .u64 ((sl : Nat) : Int), .int .u64 ((sn : Nat) : Int), .int .u64 ((sv : Nat) : Int), .bool true], z.w.cell? ⟨L, 10, none⟩ = some (.int .u64 ((sv : Nat) : Int)) := fun z => cell_laid (i := 10) z.bs rfl
      clear hD hbD kR9 oR9 y11
      refine wp_region_mix2 (fun W => ∃ z : RLk R L #[.slice wa' M.W.length wc', .slice la' M.L.length lc', .bool M.F, .int .i64 ((N : Nat) : Int)] #[.int .i64 lp, .int .u64 ((lr : Nat) : Int), .int .u64 ((lk : Nat) : Int), .int .u64 ((la2 : Nat) : Int), .int .i64 lm, .int .i64 sp, .int .u64 ((sh : Nat) : Int), .int .u64 ((sk : Nat) : Int), .int .u64 ((sl : Nat) : Int), .int .u64 ((sn : Nat) : Int), .int .u64 ((sv : Nat) : Int), .bool true], W = z.w) 10 (.q 0 (.q 1 (.q 2 (.q 3 (.q 4 (.q 5 (.q 6 (.q 7 (.q 8 (.q 9 .done)))))))))) (by kernel_rfl) (by kernel_rfl) (by rw [HD.out]; exact ⟨⟨D, KRD.out, KLD.out⟩, rfl⟩) ?_
      rw [HD.out]
      iterate 10 (refine wpMix2_q rfl rfl ?_; go_big_quiet_step (fail); refine wpQuiet_nil ?_)
      refine wpMix2_done ?_
      simp only [List.drop_succ_cons, List.drop_nil]
      go_wp2
      refine bodyPost_ret (results_tmp3 rfl _ _ _) rfl ?_
      exact ⟨rfl, HBD.out⟩
end Go.Proofs.YtahicokokfcieaaGreatDoor
namespace Go.Proofs.YtahicokokfcieaaGreatDoor
open Go.RowKit
open Go.Proofs
set_option linter.unusedVariables false
theorem tlink_live {M : Mem} {head hash key : Nat} {ns : List Nd} (hok : okM M = true) (h : nodesR M head = some ns) : liveN M (posL (findS hash key head ns).1.link 0) = true := by
  obtain ⟨hw, -⟩ := nodesR_some h
  obtain ⟨h1, h2⟩ := nodesW_chain hw
  rcases findS_link (hash := hash) (key := key) head ns with e | ⟨x, hx, e⟩
  · rw [e]; exact h1
  · obtain ⟨-, q2, q3⟩ := chain_live hok _ _ h2 x hx
    rw [e, q3]
    exact q2 2 (by decide)
theorem lookT_open {M : Mem} {root key : Nat} {xs : List Rw} {met : List Nat} (h : rowsW M root = some (xs, met)) : ∃ a d ns, saysW (M.W.getD root 0) = some (a, d) ∧ 2 ≤ d ∧ d ≤ 4 ∧ a < 4294967296 ∧ nodesR M (a + ofN key d) = some ns ∧
    lookT M root key = (⟨2, root, key, a, ((2 ^ d : Nat) : Int), (findS (hashN key) key (a + ofN key d) ns).1⟩, (findS (hashN key) key (a + ofN key d) ns).2 + 1) := by
  obtain ⟨a, d, m0, m1, t0, hs, t1, hb⟩ := rows_open h
  obtain ⟨hd2, hd4, ha⟩ := saysW_some hs
  have ho := ofN_lt (key := key) (show d ≤ 64 by omega)
  obtain ⟨ns, hns⟩ := rows_buckets _ _ _ _ _ _ hb (ofN key d) (by omega) (by omega)
  exact ⟨a, d, ns, hs, hd2, hd4, ha, hns, lookT_some hs hns⟩
/-- A node that was found is cut. -/
theorem cut_look {M : Mem} {root key : Nat} {xs : List Rw} {met : List Nat} (hok : okM M = true) (h : rowsW M root = some (xs, met)) (hf : (lookT M root key).1.s.found = true) (n : Nat) :
    editRun 8 M (cutK (lookT M root key).1.s.link (lookT M root key).1.s.node) n = (cutM M (lookT M root key).1.s.link (lookT M root key).1.s.node, ⟨6, true, (lookT M root key).1.s.link, (lookT M root key).1.s.node, 0, 0, 0, wAt M (lookT M root key).1.s.node 2⟩, n + 2) := by
  obtain ⟨a, d, ns, hs, hd2, hd4, ha, hns, e⟩ := lookT_open (key := key) h
  rw [e] at hf ⊢
  dsimp only at hf ⊢
  obtain ⟨x, hx, e1, -⟩ := findS_found _ _ hf
  obtain ⟨hw, -⟩ := nodesR_some hns
  obtain ⟨-, q2, -⟩ := chain_live hok _ _ (nodesW_chain hw).2 x hx
  rw [cut_run n (by rw [e1]; exact q2 2 (by decide)) (tlink_live hok hns)]
  rfl
/-- The memory behind a row that was put where one looked. -/
def putT (M : Mem) (root : Nat) (t : Nd) : Mem := putM' M (lookT M root t.2.1).1.s.link t (lookT M root t.2.1).1.s.node
theorem put_look {M : Mem} {root : Nat} {t : Nd} {xs : List Rw} {met met' : List Nat} (hok : okM M = true) (h : rowsW M root = some (xs, met)) (ht : tmeet M t.1 4 met = some met') (n : Nat) :
    editRun 8 M (putK (lookT M root t.2.1).1.s.link t (lookT M root t.2.1).1.s.node) n = (putT M root t, ⟨6, false, (lookT M root t.2.1).1.s.link, t.1, t.2.1, t.2.2.1, t.2.2.2, (lookT M root t.2.1).1.s.node⟩, n + 5) := by
  obtain ⟨a, d, ns, hs, hd2, hd4, ha, hns, e⟩ := lookT_open (key := t.2.1) h
  obtain ⟨h1, h2, -⟩ := tmeet_iff.1 ht
  have hl := tlink_live (hash := hashN t.2.1) (key := t.2.1) hok hns
  unfold putT
  rw [e]
  dsimp only
  rw [put_run n (fun k hk => by rw [show posL t.1 k = t.1 + k by unfold posL; omega]; exact (h2 k hk).1) hl]
  rfl
end Go.Proofs.YtahicokokfcieaaGreatDoor
