/- Several texts in one. -/
import Derived.Test.YtahicokokfcieaaDoorLsZ
namespace Go.Proofs.YtahicokokfcieaaDoor
open Go.RowKit
open Go.Proofs
set_option linter.unusedVariables false
attribute [local go_sem] Oper.semAt_some

/-- Who edits, on its way. -/
structure Edl (B R E Z : Nat) (V : World) (M : Mem) (s : Ede) (n g : Nat) (res : Mem × Ede × Nat) (W : World) : Prop where
  run : RunC B R M n W
  be : W.heap[E]? = some (.cells (ed8 s) 106 (0, 0))
  bz : W.heap[Z]? = some (.cells #[.slice none 0 0, .slice none 0 0, .bool false] 38 (0, 0))
  below : Below V.heap.size V W
  ok : okM M = true
  wok : ∀ x ∈ M.W, x < 18446744073709551616
  sok : s.Ok
  p0 : 0 ≤ s.ph
  p7 : s.ph ≤ 7
  res : editRun g M s n = res
  fuel : 6 ≤ g + s.ph
  cnt : g + n ≤ 5000
theorem Edl.grow {B R E Z : Nat} {V : World} {M : Mem} {s : Ede} {n g : Nat} {res : Mem × Ede × Nat} {W W' : World} (h : Edl B R E Z V M s n g res W) (hb : Below W.heap.size W W') : Edl B R E Z V M s n g res W' :=
  ⟨h.run.grow hb, keep_laid h.be hb, keep_laid h.bz hb, h.below.trans (hb.mono h.below.size), h.ok, h.wok, h.sok, h.p0, h.p7, h.res, h.fuel, h.cnt⟩
theorem editRun_step {f : Nat} {M M' : Mem} {s s' : Ede} {b : Bool} {n : Nat} (h : ¬ 6 ≤ s.ph) (e : editE M s = (M', s', b)) : editRun (f + 1) M s n = editRun f M' s' (n + 1) := by
  conv => lhs; unfold editRun
  rw [if_neg h, e]
/-- What Insert gives. -/
def insP (M : Mem) (head : Nat) (t : Nd) : Mem × Nat × Nat := if (nodesP M head).2 ≠ 0 then (zeroM, 0, (nodesP M head).2) else
  if fitsP M head (nodesP M head).1 t = false then (zeroM, 0, 2) else
  if (findS t.2.2.2 t.2.1 head (nodesP M head).1).1.found = true then (zeroM, 0, 5) else
  ((editRun 8 M (putK (findS t.2.2.2 t.2.1 head (nodesP M head).1).1.link t (findS t.2.2.2 t.2.1 head (nodesP M head).1).1.node) (findS t.2.2.2 t.2.1 head (nodesP M head).1).2).1,
   (editRun 8 M (putK (findS t.2.2.2 t.2.1 head (nodesP M head).1).1.link t (findS t.2.2.2 t.2.1 head (nodesP M head).1).1.node) (findS t.2.2.2 t.2.1 head (nodesP M head).1).2).2.2, 0)
/-- What Remove gives. -/
def remP (M : Mem) (head hash key : Nat) : Mem × Nat × Nat := if (nodesP M head).2 ≠ 0 then (zeroM, 0, (nodesP M head).2) else
  if (findS hash key head (nodesP M head).1).1.found = false then (zeroM, 0, 4) else
  ((editRun 8 M (cutK (findS hash key head (nodesP M head).1).1.link (findS hash key head (nodesP M head).1).1.node) (findS hash key head (nodesP M head).1).2).1, (findS hash key head (nodesP M head).1).1.node, 0)
def GivesI (R : Mem × Nat × Nat) (w : World) (e : Ending) (W : World) : Prop := ∃ wa wc la lc, e = .returned (.tuple #[memV wa wc la lc R.1, .int .i64 ((R.2.1 : Nat) : Int), .int .i64 ((R.2.2 : Nat) : Int)]) ∧ MemO w.heap.size wa wc la lc R.1 W ∧ Below w.heap.size w W
def GivesU (R : Mem × Nat × Nat) (w : World) (e : Ending) (W : World) : Prop := ∃ wa wc la lc, e = .returned (.tuple #[memV wa wc la lc R.1, .int .u64 ((R.2.1 : Nat) : Int), .int .i64 ((R.2.2 : Nat) : Int)]) ∧ MemO w.heap.size wa wc la lc R.1 W ∧ Below w.heap.size w W
/-- A world in which a variable lies so. -/
structure RRn (R S : Nat) (cs cs' : Array Value) where
  w : World
  br : w.heap[R]? = some (.cells cs 167 (0, 0))
  bs : w.heap[S]? = some (.cells cs' 44 (0, 0))
theorem findS_ok {hash key : Nat} (hha : hash < 18446744073709551616) (hke : key < 18446744073709551616) : ∀ (link : Nat) (xs : List Nd), link < 18446744073709551616 → (∀ x ∈ xs, x.1 + 2 < 18446744073709551616 ∧ x.2.2.1 < 18446744073709551616) → (findS hash key link xs).1.Ok
  | link, [], hl, hx => ⟨by show -9223372036854775808 ≤ (4 : Int) ∧ (4 : Int) ≤ _; decide, hha, hke, hl, by show 0 < _; decide, by show 0 < _; decide⟩
  | link, x :: r, hl, hx => by
    have hx0 := hx x (List.mem_cons_self ..)
    have hr := fun y hy => hx y (List.mem_cons_of_mem _ hy)
    unfold findS
    split
    · exact findS_ok hha hke _ r (by omega) hr
    · split
      · exact ⟨by show -9223372036854775808 ≤ (4 : Int) ∧ (4 : Int) ≤ _; decide, hha, hke, hl, by show x.1 < _; omega, by show 0 < _; decide⟩
      · split
        · exact findS_ok hha hke _ r (by omega) hr
        · split
          · exact ⟨by show -9223372036854775808 ≤ (4 : Int) ∧ (4 : Int) ≤ _; decide, hha, hke, hl, by show x.1 < _; omega, by show 0 < _; decide⟩
          · exact ⟨by show -9223372036854775808 ≤ (4 : Int) ∧ (4 : Int) ≤ _; decide, hha, hke, hl, by show x.1 < _; omega, hx0.2⟩
theorem chain_facts {M : Mem} (hok : okM M = true) (hW : ∀ x ∈ M.W, x < 18446744073709551616) : ∀ (p : Nat) (xs : List Nd), ChainP M p xs → ∀ x ∈ xs, x.1 < 4096 ∧ x.Ok
  | p, [], h, x, hx => by cases hx
  | p, y :: r, h, x, hx => by
    obtain ⟨h1, h2, h3, h4⟩ := h
    rcases List.mem_cons.1 hx with rfl | hx
    · have := live_small hok (h3 0 (by decide))
      rw [h1]
      exact ⟨this.1, by show p < _; omega, wAt_lt hW _ _, wAt_lt hW _ _, wAt_lt hW _ _⟩
    · exact chain_facts hok hW _ r h4 x hx
theorem nodesP_nodes {M : Mem} {head : Nat} (hW : ∀ x ∈ M.W, x < 18446744073709551616) (h : (nodesP M head).2 = 0) : ∀ x ∈ (nodesP M head).1, x.1 < 4096 ∧ x.Ok := by
  obtain ⟨h1, h2⟩ := nodesP_ok h
  obtain ⟨h3, -⟩ := nodesR_some h2
  exact chain_facts h1 hW _ _ (nodesW_chain h3).2
end Go.Proofs.YtahicokokfcieaaDoor
namespace Go.Proofs.YtahicokokfcieaaDoor
open Go.RowKit
open Go.Proofs
set_option linter.unusedVariables false

theorem editE_store {M : Mem} {s : Ede} (k q new : Nat) (hph : s.ph = k) (hk : k < 6) (h4 : k ≠ 4) (hq : (needE s k).2.1 = q) (hn : (needE s k).2.2 = new) (hl : liveN M q = true) :
    editE M s = (⟨M.W.set q new, M.L, M.F⟩, { s with ph := nextE k }, true) := by
  have e : s.ph.toNat = k := by omega
  have e1 : (s.ph != 4) = true := by simp; omega
  unfold editE
  rw [if_neg (by omega), e, hq, hn, e1, store_live hl, if_pos rfl, if_neg (by omega)]
theorem editE_load {M : Mem} {s : Ede} (q : Nat) (hph : s.ph = 4) (hq : posL s.at_ 2 = q) (hl : liveN M q = true) :
    editE M s = (M, { s with ph := 5, next := M.W.getD q 0 }, true) := by
  have e : s.ph.toNat = 4 := by omega
  have e1 : (s.ph != 4) = false := by simp; omega
  unfold editE
  rw [if_neg (by omega), e, e1]
  show ((stepM M false ((posL s.at_ 2 : Nat) : Int) 0).1, (if (stepM M false ((posL s.at_ 2 : Nat) : Int) 0).2.2 = true then ({ s with ph := 5, next := if s.ph = 4 then (stepM M false ((posL s.at_ 2 : Nat) : Int) 0).2.1 else s.next } : Ede) else { s with ph := 7 }), true) = _
  rw [hq, load_live hl, if_pos rfl, if_pos hph]
theorem liveN_set (M : Mem) (W : List Nat) (F : Bool) (q : Nat) : liveN ⟨W, M.L, F⟩ q = liveN M q := rfl
/-- All steps of who puts a node whose words are live. -/
theorem put_run {M : Mem} {link next : Nat} {t : Nd} (n : Nat) (ht : ∀ k, k < 4 → liveN M (posL t.1 k) = true) (hl : liveN M (posL link 0) = true) :
    editRun 8 M (putK link t next) n = (⟨((((M.W.set (posL t.1 0) t.2.1).set (posL t.1 1) t.2.2.1).set (posL t.1 3) t.2.2.2).set (posL t.1 2) next).set (posL link 0) t.1, M.L, M.F⟩, ⟨6, false, link, t.1, t.2.1, t.2.2.1, t.2.2.2, next⟩, n + 5) := by
  obtain ⟨a, k, v, h⟩ := t
  unfold putK
  dsimp only at ht ⊢
  have n0 : ¬ 6 ≤ (⟨0, false, link, a, k, v, h, next⟩ : Ede).ph := by show ¬ (6 : Int) ≤ 0; decide
  have n1 : ¬ 6 ≤ (⟨1, false, link, a, k, v, h, next⟩ : Ede).ph := by show ¬ (6 : Int) ≤ 1; decide
  have n2 : ¬ 6 ≤ (⟨2, false, link, a, k, v, h, next⟩ : Ede).ph := by show ¬ (6 : Int) ≤ 2; decide
  have n3 : ¬ 6 ≤ (⟨3, false, link, a, k, v, h, next⟩ : Ede).ph := by show ¬ (6 : Int) ≤ 3; decide
  have n5 : ¬ 6 ≤ (⟨5, false, link, a, k, v, h, next⟩ : Ede).ph := by show ¬ (6 : Int) ≤ 5; decide
  rw [editRun_step n0 (editE_store 0 (posL a 0) k rfl (by decide) (by decide) rfl rfl (ht 0 (by decide)))]
  show editRun 7 _ (⟨1, false, link, a, k, v, h, next⟩ : Ede) _ = _
  rw [editRun_step n1 (editE_store (M := ⟨M.W.set (posL a 0) k, M.L, M.F⟩) 1 (posL a 1) v rfl (by decide) (by decide) rfl rfl (ht 1 (by decide)))]
  show editRun 6 _ (⟨2, false, link, a, k, v, h, next⟩ : Ede) _ = _
  rw [editRun_step n2 (editE_store (M := ⟨(M.W.set (posL a 0) k).set (posL a 1) v, M.L, M.F⟩) 2 (posL a 3) h rfl (by decide) (by decide) rfl rfl (ht 3 (by decide)))]
  show editRun 5 _ (⟨3, false, link, a, k, v, h, next⟩ : Ede) _ = _
  rw [editRun_step n3 (editE_store (M := ⟨((M.W.set (posL a 0) k).set (posL a 1) v).set (posL a 3) h, M.L, M.F⟩) 3 (posL a 2) next rfl (by decide) (by decide) rfl rfl (ht 2 (by decide)))]
  show editRun 4 _ (⟨5, false, link, a, k, v, h, next⟩ : Ede) _ = _
  rw [editRun_step n5 (editE_store (M := ⟨(((M.W.set (posL a 0) k).set (posL a 1) v).set (posL a 3) h).set (posL a 2) next, M.L, M.F⟩) 5 (posL link 0) a rfl (by decide) (by decide) rfl rfl hl)]
  show editRun 3 _ (⟨6, false, link, a, k, v, h, next⟩ : Ede) _ = _
  rw [editRun_end (by show (6 : Int) ≤ 6; decide)]
/-- All steps of who cuts a node. -/
theorem cut_run {M : Mem} {link node : Nat} (n : Nat) (ht : liveN M (posL node 2) = true) (hl : liveN M (posL link 0) = true) :
    editRun 8 M (cutK link node) n = (⟨M.W.set (posL link 0) (wAt M node 2), M.L, M.F⟩, ⟨6, true, link, node, 0, 0, 0, wAt M node 2⟩, n + 2) := by
  unfold cutK
  have n4 : ¬ 6 ≤ (⟨4, true, link, node, 0, 0, 0, 0⟩ : Ede).ph := by show ¬ (6 : Int) ≤ 4; decide
  have n5 : ¬ 6 ≤ (⟨5, true, link, node, 0, 0, 0, M.W.getD (posL node 2) 0⟩ : Ede).ph := by show ¬ (6 : Int) ≤ 5; decide
  rw [editRun_step n4 (editE_load (posL node 2) rfl rfl ht)]
  show editRun 7 _ (⟨5, true, link, node, 0, 0, 0, M.W.getD (posL node 2) 0⟩ : Ede) _ = _
  rw [editRun_step n5 (editE_store 5 (posL link 0) (M.W.getD (posL node 2) 0) rfl (by decide) (by decide) rfl rfl hl)]
  show editRun 6 _ (⟨6, true, link, node, 0, 0, 0, M.W.getD (posL node 2) 0⟩ : Ede) _ = _
  rw [editRun_end (by show (6 : Int) ≤ 6; decide)]
  rfl
/-- Where who seeks ends: its link is the head's, or a node's. -/
theorem findS_link {hash key : Nat} : ∀ (link : Nat) (xs : List Nd), (findS hash key link xs).1.link = link ∨ ∃ x ∈ xs, (findS hash key link xs).1.link = x.1 + 2
  | link, [] => .inl rfl
  | link, x :: r => by
    have hr := findS_link (hash := hash) (key := key) (x.1 + 2) r
    have hx : (findS hash key (x.1 + 2) r).1.link = link ∨ ∃ y ∈ x :: r, (findS hash key (x.1 + 2) r).1.link = y.1 + 2 := by
      rcases hr with h | ⟨y, hy, h⟩
      · exact .inr ⟨x, List.mem_cons_self .., h⟩
      · exact .inr ⟨y, List.mem_cons_of_mem _ hy, h⟩
    unfold findS
    split
    · exact hx
    · split
      · exact .inl rfl
      · split
        · exact hx
        · split <;> exact .inl rfl
theorem chain_live {M : Mem} (hok : okM M = true) : ∀ (p : Nat) (xs : List Nd), ChainP M p xs → ∀ x ∈ xs, x.1 < 4096 ∧ (∀ k, k < 4 → liveN M (posL x.1 k) = true) ∧ posL (x.1 + 2) 0 = posL x.1 2
  | p, [], h, x, hx => by cases hx
  | p, y :: r, h, x, hx => by
    obtain ⟨h1, h2, h3, h4⟩ := h
    rcases List.mem_cons.1 hx with rfl | hx
    · obtain ⟨q1, q2, q3⟩ := live_small hok (h3 2 (by decide))
      have e : x.1 = p := by rw [h1]; rfl
      rw [e]
      obtain ⟨o1, o2, -⟩ := okM_spec hok
      exact ⟨q1, h3, by rw [q2]; unfold posL; omega⟩
    · exact chain_live hok _ r h4 x hx
theorem link_live {M : Mem} {head hash key : Nat} {xs : List Nd} (hok : okM M = true) (h : nodesR M head = some xs) : liveN M (posL (findS hash key head xs).1.link 0) = true := by
  obtain ⟨hw, -⟩ := nodesR_some h
  obtain ⟨h1, h2⟩ := nodesW_chain hw
  rcases findS_link (hash := hash) (key := key) head xs with e | ⟨x, hx, e⟩
  · rw [e]; exact h1
  · obtain ⟨-, q2, q3⟩ := chain_live hok _ _ h2 x hx
    rw [e, q3]; exact q2 2 (by decide)
theorem findS_found {hash key : Nat} : ∀ (link : Nat) (xs : List Nd), (findS hash key link xs).1.found = true → ∃ x ∈ xs, (findS hash key link xs).1.node = x.1 ∧ (findS hash key link xs).1.val = x.2.2.1 ∧ x.2.1 = key ∧ x.2.2.2 = hash
  | link, [], h => by cases h
  | link, x :: r, h => by
    unfold findS at h ⊢
    split at h
    · rename_i c
      rw [if_pos c]
      obtain ⟨y, hy, h'⟩ := findS_found _ r h
      exact ⟨y, List.mem_cons_of_mem _ hy, h'⟩
    · rename_i c
      rw [if_neg c]
      split at h
      · cases h
      · rename_i c2
        rw [if_neg c2]
        split at h
        · rename_i c3
          rw [if_pos c3]
          obtain ⟨y, hy, h'⟩ := findS_found _ r h
          exact ⟨y, List.mem_cons_of_mem _ hy, h'⟩
        · rename_i c3
          rw [if_neg c3]
          split at h
          · cases h
          · rename_i c4
            rw [if_neg c4]
            exact ⟨x, List.mem_cons_self .., rfl, rfl, by omega, by omega⟩
theorem fitsP_spec {M : Mem} {head : Nat} {xs : List Nd} {t : Nd} (h : fitsP M head xs t = true) : t.1 ≠ 0 ∧ ∀ k, k < 4 → liveN M (posL t.1 k) = true ∧ posL t.1 k ∉ wordsL head xs := by
  unfold fitsP at h
  rw [Bool.and_eq_true, decide_eq_true_eq, List.all_eq_true] at h
  refine ⟨h.1, fun k hk => ?_⟩
  have := h.2 k (by simp [List.mem_range']; omega)
  rw [Bool.and_eq_true, Bool.not_eq_true', decide_eq_false_iff_not] at this
  exact this
/-- What the document's Insert, and Remove, come to. -/
def rinsP (M : Mem) (head : Nat) (xs : List Nd) (t : Nd) : Mem × Nat × Nat := if fitsP M head xs t = false then (zeroM, 0, 2) else
  if (findS t.2.2.2 t.2.1 head xs).1.found = true then (zeroM, 0, 5) else
  ((editRun 8 M (putK (findS t.2.2.2 t.2.1 head xs).1.link t (findS t.2.2.2 t.2.1 head xs).1.node) 0).1, (findS t.2.2.2 t.2.1 head xs).2 + 5, 0)
def rremP (M : Mem) (head : Nat) (xs : List Nd) (hash key : Nat) : Mem × Nat × Nat := if (findS hash key head xs).1.found = false then (zeroM, 0, 4) else
  ((editRun 8 M (cutK (findS hash key head xs).1.link (findS hash key head xs).1.node) 0).1, (findS hash key head xs).1.node, 0)
theorem nodesP_some {M : Mem} {head : Nat} {xs : List Nd} (hok : okM M = true) (h : nodesR M head = some xs) : nodesP M head = (xs, 0) := by
  unfold nodesP
  rw [hok, if_neg (by decide), h]
theorem nodesP_none {M : Mem} {head : Nat} (hok : okM M = true) (h : nodesR M head = none) : nodesP M head = ([], 250) := by
  unfold nodesP
  rw [hok, if_neg (by decide), h]
theorem nodesP_bad {M : Mem} {head : Nat} (hok : okM M = false) : nodesP M head = ([], 120) := by
  unfold nodesP
  rw [hok, if_pos rfl]
theorem ins_same {M : Mem} {head : Nat} {xs : List Nd} {t : Nd} (hok : okM M = true) (h : nodesR M head = some xs) : insP M head t = rinsP M head xs t := by
  unfold insP rinsP
  rw [nodesP_some hok h]
  rw [if_neg (by simp)]
  dsimp only
  cases hf : fitsP M head xs t with
  | false => rw [if_pos rfl, if_pos rfl]
  | true =>
    rw [if_neg (show ¬ (true = false) by decide), if_neg (show ¬ (true = false) by decide)]
    split
    · rfl
    · obtain ⟨f1, f2⟩ := fitsP_spec hf
      have hl := link_live (hash := t.2.2.2) (key := t.2.1) hok h
      rw [put_run _ (fun k hk => (f2 k hk).1) hl, put_run _ (fun k hk => (f2 k hk).1) hl]
theorem rem_same {M : Mem} {head hash key : Nat} {xs : List Nd} (hok : okM M = true) (h : nodesR M head = some xs) : remP M head hash key = rremP M head xs hash key := by
  unfold remP rremP
  rw [nodesP_some hok h]
  rw [if_neg (by simp)]
  dsimp only
  cases hf : (findS hash key head xs).1.found with
  | false => rw [if_pos rfl, if_pos rfl]
  | true =>
    rw [if_neg (show ¬ (true = false) by decide), if_neg (show ¬ (true = false) by decide)]
    obtain ⟨x, hx, e1, -, -, -⟩ := findS_found head xs hf
    obtain ⟨hw, -⟩ := nodesR_some h
    obtain ⟨-, q2, -⟩ := chain_live hok _ _ (nodesW_chain hw).2 x hx
    have hl := link_live (hash := hash) (key := key) hok h
    have hn : liveN M (posL (findS hash key head xs).1.node 2) = true := by rw [e1]; exact q2 2 (by decide)
    rw [cut_run _ hn hl, cut_run _ hn hl]
end Go.Proofs.YtahicokokfcieaaDoor
