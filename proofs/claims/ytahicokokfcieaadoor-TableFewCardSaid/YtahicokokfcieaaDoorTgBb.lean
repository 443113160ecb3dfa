/- Several texts in one. -/
import Derived.Test.YtahicokokfcieaaDoorTgAv
import Derived.Test.YtahicokokfcieaaDoorTgBa
import Derived.Test.YtahicokokfcieaaDoorTbW1
namespace Go.Proofs.YtahicokokfcieaaDoor
open Go.RowKit
open Go.Proofs
set_option linter.unusedVariables false
theorem rowsB_append : ∀ (p q : List (List Nd)) (b : Nat), rowsB b (p ++ q) = rowsB b p ++ rowsB (b + p.length) q
  | [], q, b => by simp [rowsB]
  | ns :: p, q, b => by
    show ns.map (rwOf b) ++ rowsB (b + 1) (p ++ q) = _
    rw [rowsB_append p q (b + 1)]
    simp only [rowsB, List.length_cons, List.append_assoc]
    rw [show b + 1 + p.length = b + (p.length + 1) by omega]
theorem bok_append {M : Mem} {a d : Nat} : ∀ (p q : List (List Nd)) (b : Nat), BOk M a d b (p ++ q) ↔ BOk M a d b p ∧ BOk M a d (b + p.length) q
  | [], q, b => by simp [BOk]
  | ns :: p, q, b => by
    show _ ∧ _ ∧ BOk M a d (b + 1) (p ++ q) ↔ (_ ∧ _ ∧ BOk M a d (b + 1) p) ∧ _
    rw [bok_append p q (b + 1), List.length_cons, show b + 1 + p.length = b + (p.length + 1) by omega]
    constructor
    · rintro ⟨h1, h2, h3, h4⟩; exact ⟨⟨h1, h2, h3⟩, h4⟩
    · rintro ⟨⟨h1, h2, h3⟩, h4⟩; exact ⟨h1, h2, h3, h4⟩
theorem wordsT_append (p q : List (List Nd)) : wordsT (p ++ q) = wordsT p ++ wordsT q := by simp [wordsT]
theorem wordsT_cons (ns : List Nd) (q : List (List Nd)) : wordsT (ns :: q) = w4R ns ++ wordsT q := by simp [wordsT]
theorem w4R_append (l1 l2 : List Nd) : w4R (l1 ++ l2) = w4R l1 ++ w4R l2 := by simp [w4R]
theorem w4R_cons (t : Nd) (l : List Nd) : w4R (t :: l) = List.range' t.1 4 ++ w4R l := by simp [w4R]
theorem posL_le {p k : Nat} (h : p ≤ 4096) : posL p k = p + k := by unfold posL; omega
theorem wl_w4 : ∀ (ns : List Nd), (∀ t ∈ ns, t.1 ≤ 4096) → wlL ns = w4R ns
  | [], _ => rfl
  | t :: ts, h => by
    have ht := h t (List.mem_cons_self ..)
    rw [wlL_cons, w4R_cons, wl_w4 ts (fun x hx => h x (List.mem_cons_of_mem _ hx))]
    congr 1
    show [posL t.1 0, posL t.1 1, posL t.1 2, posL t.1 3] = [t.1, t.1 + 1, t.1 + 2, t.1 + 3]
    rw [posL_le ht, posL_le ht, posL_le ht, posL_le ht]
    rfl
theorem nodes_le {M : Mem} {head : Nat} {ns : List Nd} (hok : okM M = true) (h : nodesR M head = some ns) : ∀ t ∈ ns, t.1 ≤ 4096 := fun t ht => by
  have := (chain_live hok _ _ (nodesW_chain (nodesR_some h).1).2 t ht).1
  omega
/-- Buckets whose words are as they were. -/
theorem bok_other {M : Mem} {W : List Nat} {a d : Nat} (hok : okM M = true) (hok' : okM ⟨W, M.L, M.F⟩ = true) : ∀ (nss : List (List Nd)) (b : Nat), BOk M a d b nss →
    (∀ i, i < nss.length → a + b + i ≤ 4096 ∧ rdL W (a + b + i) = rdL M.W (a + b + i)) → (∀ w ∈ wordsT nss, rdL W w = rdL M.W w) → BOk ⟨W, M.L, M.F⟩ a d b nss
  | [], b, h, _, _ => trivial
  | ns :: r, b, ⟨h1, h2, h3⟩, hh, hw => by
    rw [wordsT_cons] at hw
    have q0 := hh 0 (by simp)
    rw [Nat.add_zero] at q0
    refine ⟨of_chain hok' (chain_other (chain_of h1) fun w hm => ?_), h2, bok_other hok hok' r (b + 1) h3 (fun i hi => ?_) (fun w hm => hw w (List.mem_append_right _ hm))⟩
    · rw [wordsL_eq, posL_le q0.1, wl_w4 ns (nodes_le hok h1)] at hm
      rcases List.mem_cons.1 hm with rfl | hm
      · exact q0.2
      · exact hw w (List.mem_append_left _ hm)
    · have := hh (i + 1) (by simp; omega)
      rw [show a + (b + 1) + i = a + b + (i + 1) by omega]
      exact this
theorem link_word {M : Mem} {head hash key : Nat} {ns : List Nd} (hok : okM M = true) (h : nodesR M head = some ns) : posL (findS hash key head ns).1.link 0 ∈ wordsL head ns := by
  obtain ⟨h1, h2⟩ := nodesW_chain (nodesR_some h).1
  rcases findS_link (hash := hash) (key := key) head ns with e | ⟨x, hx, e⟩
  · rw [e]; exact List.mem_cons_self ..
  · obtain ⟨-, q2, q3⟩ := chain_live hok _ _ h2 x hx
    rw [e, q3]
    exact List.mem_cons_of_mem _ (mem_wlL hx 2 (by decide))
theorem okM_set {M : Mem} {q v : Nat} (hok : okM M = true) (hW : ∀ x ∈ M.W, x < 18446744073709551616) (hl : liveN M q = true) (hv : v < 18446744073709551616) : okM ⟨M.W.set q v, M.L, M.F⟩ = true ∧ ∀ x ∈ M.W.set q v, x < 18446744073709551616 := by
  have := stepM_ok hok hW true q v hv
  rw [store_live hl] at this
  exact ⟨this.1, this.2.1⟩
theorem putM_ok {M : Mem} {link next : Nat} {t : Nd} (hok : okM M = true) (hW : ∀ x ∈ M.W, x < 18446744073709551616) (ht : ∀ k, k < 4 → liveN M (posL t.1 k) = true) (hl : liveN M (posL link 0) = true) (hb : t.Ok) (hn : next < 18446744073709551616) :
    okM (putM' M link t next) = true ∧ ∀ x ∈ (putM' M link t next).W, x < 18446744073709551616 := by
  obtain ⟨a1, b1⟩ := okM_set (v := t.2.1) hok hW (ht 0 (by decide)) hb.2.1
  obtain ⟨a2, b2⟩ := okM_set (M := ⟨M.W.set (posL t.1 0) t.2.1, M.L, M.F⟩) (v := t.2.2.1) a1 b1 (ht 1 (by decide)) hb.2.2.1
  obtain ⟨a3, b3⟩ := okM_set (M := ⟨(M.W.set (posL t.1 0) t.2.1).set (posL t.1 1) t.2.2.1, M.L, M.F⟩) (v := t.2.2.2) a2 b2 (ht 3 (by decide)) hb.2.2.2
  obtain ⟨a4, b4⟩ := okM_set (M := ⟨((M.W.set (posL t.1 0) t.2.1).set (posL t.1 1) t.2.2.1).set (posL t.1 3) t.2.2.2, M.L, M.F⟩) (v := next) a3 b3 (ht 2 (by decide)) hn
  exact okM_set (M := ⟨(((M.W.set (posL t.1 0) t.2.1).set (posL t.1 1) t.2.2.1).set (posL t.1 3) t.2.2.2).set (posL t.1 2) next, M.L, M.F⟩) (v := t.1) a4 b4 hl hb.1
theorem metT_split (root a d : Nat) (p q : List (List Nd)) (ns : List Nd) : metT root a d (p ++ ns :: q) = root :: (List.range' a (2 ^ d) ++ (wordsT p ++ (w4R ns ++ wordsT q))) := by
  unfold metT
  rw [wordsT_append, wordsT_cons, List.cons_append]
/-- What lies apart in a table. -/
structure Apart (root a d : Nat) (p q : List (List Nd)) (ns : List Nd) : Prop where
  r : ∀ w ∈ List.range' a (2 ^ d) ++ (wordsT p ++ (w4R ns ++ wordsT q)), w ≠ root
  arr : ∀ w ∈ wordsT p ++ (w4R ns ++ wordsT q), w ∉ List.range' a (2 ^ d)
  p : ∀ w ∈ wordsT p, w ∉ w4R ns
  q : ∀ w ∈ wordsT q, w ∉ w4R ns
theorem apart_of {root a d : Nat} {p q : List (List Nd)} {ns : List Nd} (h : (metT root a d (p ++ ns :: q)).Nodup) : Apart root a d p q ns := by
  rw [metT_split] at h
  obtain ⟨h1, h2⟩ := List.nodup_cons.1 h
  obtain ⟨-, h3, h4⟩ := List.nodup_append.1 h2
  obtain ⟨-, h5, h6⟩ := List.nodup_append.1 h3
  obtain ⟨-, -, h7⟩ := List.nodup_append.1 h5
  refine ⟨fun w hw e => h1 (e ▸ hw), fun w hw hm => h4 w hm w hw rfl, fun w hw hm => h6 w hw w (List.mem_append_left _ hm) rfl, fun w hw hm => h7 w hm w hw rfl⟩
theorem split_at {nss : List (List Nd)} {b : Nat} (h : b < nss.length) : ∃ p ns q, nss = p ++ ns :: q ∧ p.length = b := by
  refine ⟨nss.take b, nss[b], nss.drop (b + 1), ?_, by rw [List.length_take]; omega⟩
  rw [← List.drop_eq_getElem_cons h, List.take_append_drop]
/-- A table, where a key would be. -/
theorem tab_split {M : Mem} {root a d key : Nat} {nss : List (List Nd)} (h : TabP M root a d nss) : ∃ p ns q, nss = p ++ ns :: q ∧ p.length = ofN key d ∧ 2 ≤ d ∧ d ≤ 4 ∧ ofN key d < 2 ^ d ∧ nodesR M (a + ofN key d) = some ns ∧ (∀ t ∈ ns, ofN t.2.1 d = ofN key d ∧ hashN t.2.1 = t.2.2.2) ∧ BOk M a d 0 p ∧ BOk M a d (ofN key d + 1) q ∧ Apart root a d p q ns ∧
    lookT M root key = (⟨2, root, key, a, ((2 ^ d : Nat) : Int), (findS (hashN key) key (a + ofN key d) ns).1⟩, (findS (hashN key) key (a + ofN key d) ns).2 + 1) := by
  obtain ⟨hd2, hd4, -⟩ := saysW_some (show saysW (rdL M.W root) = some (a, d) from h.says)
  have ho := ofN_lt (key := key) (show d ≤ 64 by omega)
  obtain ⟨p, ns, q, rfl, hp⟩ := split_at (nss := nss) (b := ofN key d) (by rw [h.len]; exact ho)
  obtain ⟨b1, b2⟩ := (bok_append p (ns :: q) 0).1 h.bok
  rw [Nat.zero_add, hp] at b2
  obtain ⟨b2, b3, b4⟩ := b2
  exact ⟨p, ns, q, rfl, hp, hd2, hd4, ho, b2, b3, b1, b4, apart_of h.nd, lookT_some h.says b2⟩
theorem tab_arr {M : Mem} {root a d : Nat} {nss : List (List Nd)} (hok : okM M = true) (h : TabP M root a d nss) {i : Nat} (hi : i < 2 ^ d) : a + i ∈ List.range' a (2 ^ d) ∧ a + i ≤ 4096 := by
  have hm : a + i ∈ List.range' a (2 ^ d) := by rw [List.mem_range'_1]; omega
  refine ⟨hm, ?_⟩
  obtain ⟨o1, o2, o3, -⟩ := okM_spec hok
  have := live_lt (h.live (a + i) (List.mem_cons_of_mem _ (List.mem_append_left _ hm)))
  omega
/-- A change of words of one bucket, and of words that the table has not. -/
theorem tab_change {M : Mem} {W : List Nat} {root a d b : Nat} {p q : List (List Nd)} {ns ns' : List Nd} (hok : okM M = true) (hok' : okM ⟨W, M.L, M.F⟩ = true) (h : TabP M root a d (p ++ ns :: q)) (hp : p.length = b) (hb : b < 2 ^ d)
    (b1 : BOk M a d 0 p) (b4 : BOk M a d (b + 1) q)
    (hw : ∀ w ∈ metT root a d (p ++ ns :: q), w ≠ a + b → w ∉ w4R ns → rdL W w = rdL M.W w)
    (hn : nodesR ⟨W, M.L, M.F⟩ (a + b) = some ns') (hk : ∀ t ∈ ns', ofN t.2.1 d = b ∧ hashN t.2.1 = t.2.2.2)
    (hnd : (metT root a d (p ++ ns' :: q)).Nodup) (hl : ∀ w ∈ metT root a d (p ++ ns' :: q), liveN M w = true) : TabP ⟨W, M.L, M.F⟩ root a d (p ++ ns' :: q) := by
  have hA := apart_of h.nd
  have hroot : rdL W root = rdL M.W root := by
    refine hw root (by rw [metT_split]; exact List.mem_cons_self ..) (fun e => ?_) (fun hm => ?_)
    · exact hA.r (a + b) (List.mem_append_left _ (tab_arr hok h hb).1) e.symm
    · exact hA.r root (List.mem_append_right _ (List.mem_append_right _ (List.mem_append_left _ hm))) rfl
  have hlen : (p ++ ns :: q).length = 2 ^ d := h.len
  have hlen2 : p.length + (q.length + 1) = 2 ^ d := by rw [← hlen]; simp
  have harr : ∀ i, i < 2 ^ d → i ≠ b → a + i ≤ 4096 ∧ rdL W (a + i) = rdL M.W (a + i) := by
    intro i hi hne
    obtain ⟨hm, hle⟩ := tab_arr hok h hi
    refine ⟨hle, hw _ (by rw [metT_split]; exact List.mem_cons_of_mem _ (List.mem_append_left _ hm)) (by omega) (fun hm' => ?_)⟩
    exact hA.arr _ (List.mem_append_right _ (List.mem_append_left _ hm')) hm
  have hwp : ∀ w ∈ wordsT p, rdL W w = rdL M.W w := fun w hm => hw w (by rw [metT_split]; exact List.mem_cons_of_mem _ (List.mem_append_right _ (List.mem_append_left _ hm))) (fun e => hA.arr w (List.mem_append_left _ hm) (by rw [e]; exact (tab_arr hok h hb).1)) (hA.p w hm)
  have hwq : ∀ w ∈ wordsT q, rdL W w = rdL M.W w := fun w hm => hw w (by rw [metT_split]; exact List.mem_cons_of_mem _ (List.mem_append_right _ (List.mem_append_right _ (List.mem_append_right _ hm)))) (fun e => hA.arr w (List.mem_append_right _ (List.mem_append_right _ hm)) (by rw [e]; exact (tab_arr hok h hb).1)) (hA.q w hm)
  refine ⟨by show saysW (rdL W root) = _; rw [hroot]; exact h.says, by rw [← hlen]; simp, ?_, hnd, hl⟩
  refine (bok_append p (ns' :: q) 0).2 ⟨bok_other hok hok' p 0 b1 (fun i hi => ?_) hwp, ?_⟩
  · rw [Nat.add_zero]; exact harr i (by omega) (by omega)
  · rw [Nat.zero_add, hp]
    exact ⟨hn, hk, bok_other hok hok' q (b + 1) b4 (fun i hi => by rw [show a + (b + 1) + i = a + (b + 1 + i) by omega]; exact harr _ (by omega) (by omega)) hwq⟩
theorem tab_put {M : Mem} {root a d : Nat} {nss : List (List Nd)} {t : Nd} (hok : okM M = true) (hW : ∀ x ∈ M.W, x < 18446744073709551616) (hr : root < 18446744073709551616) (h : TabP M root a d nss) (ht0 : t.1 ≠ 0) (hf : FreshW M (metT root a d nss) (List.range' t.1 4)) (ht : t.Ok) (hh : hashN t.2.1 = t.2.2.2)
    (hn : (lookT M root t.2.1).1.s.found = false) :
    ∃ p ns q l1 l2, nss = p ++ ns :: q ∧ p.length = ofN t.2.1 d ∧ ns = l1 ++ l2 ∧ okM (putT M root t) = true ∧ (∀ x ∈ (putT M root t).W, x < 18446744073709551616) ∧ TabP (putT M root t) root a d (p ++ (l1 ++ t :: l2) :: q) := by
  have hrows := of_tab hok h
  have hLok := (look_run hok hW hr ht.2.1 hrows).1.last.1
  obtain ⟨p, ns, q, rfl, hp, hd2, hd4, ho, hns, hkeys, b1, b4, hA, hlk⟩ := tab_split (key := t.2.1) h
  have hput : putT M root t = putM' M (findS t.2.2.2 t.2.1 (a + ofN t.2.1 d) ns).1.link t (findS t.2.2.2 t.2.1 (a + ofN t.2.1 d) ns).1.node := by
    unfold putT; rw [hlk, hh]
  rw [hlk, hh] at hn hLok
  dsimp only at hn
  have hnext : (findS t.2.2.2 t.2.1 (a + ofN t.2.1 d) ns).1.node < 18446744073709551616 := hLok.s.node
  have hhead := tab_arr hok h ho
  have hlive4 : ∀ k, k < 4 → liveN M (t.1 + k) = true ∧ t.1 + k ∉ metT root a d (p ++ ns :: q) := fun k hk => hf.1 _ (by rw [List.mem_range'_1]; omega)
  obtain ⟨o1, o2, o3, -⟩ := okM_spec hok
  have ht4 : t.1 ≤ 4096 := by have := live_lt (hlive4 0 (by decide)).1; omega
  have hwl : wordsL (a + ofN t.2.1 d) ns = (a + ofN t.2.1 d) :: w4R ns := by rw [wordsL_eq, posL_le hhead.2, wl_w4 ns (nodes_le hok hns), Nat.add_zero]
  have hsub : ∀ w ∈ wordsL (a + ofN t.2.1 d) ns, w ∈ metT root a d (p ++ ns :: q) := by
    intro w hw
    rw [hwl] at hw
    rw [metT_split]
    rcases List.mem_cons.1 hw with rfl | hw
    · exact List.mem_cons_of_mem _ (List.mem_append_left _ hhead.1)
    · exact List.mem_cons_of_mem _ (List.mem_append_right _ (List.mem_append_right _ (List.mem_append_left _ hw)))
  have hfit : fitsP M (a + ofN t.2.1 d) ns t = true := by
    unfold fitsP
    rw [Bool.and_eq_true, decide_eq_true_eq, List.all_eq_true]
    refine ⟨ht0, fun k hk => ?_⟩
    rw [List.mem_range'_1] at hk
    obtain ⟨k1, k2⟩ := hlive4 k (by omega)
    rw [posL_le ht4, k1, decide_eq_false (fun hm => k2 (hsub _ hm))]
    rfl
  obtain ⟨l1, l2, rfl, hC, -⟩ := put_law hok (chain_of hns) hfit hn
  have hlw := link_word (hash := t.2.2.2) (key := t.2.1) hok hns
  have hpl : ∀ k, k < 4 → liveN M (posL t.1 k) = true := fun k hk => by rw [posL_le ht4]; exact (hlive4 k hk).1
  obtain ⟨w1, w2⟩ := putM_ok (link := (findS t.2.2.2 t.2.1 (a + ofN t.2.1 d) (l1 ++ l2)).1.link) (next := (findS t.2.2.2 t.2.1 (a + ofN t.2.1 d) (l1 ++ l2)).1.node) hok hW hpl (tlink_live hok hns) ht hnext
  rw [hput]
  refine ⟨p, l1 ++ l2, q, l1, l2, rfl, hp, rfl, w1, w2, ?_⟩
  have hnew : List.Perm (metT root a d (p ++ (l1 ++ t :: l2) :: q)) (List.range' t.1 4 ++ metT root a d (p ++ (l1 ++ l2) :: q)) := by
    rw [metT_split, metT_split, w4R_append, w4R_append, w4R_cons]
    have e1 : root :: (List.range' a (2 ^ d) ++ (wordsT p ++ (w4R l1 ++ (List.range' t.1 4 ++ w4R l2) ++ wordsT q))) = (root :: (List.range' a (2 ^ d) ++ (wordsT p ++ w4R l1))) ++ (List.range' t.1 4 ++ (w4R l2 ++ wordsT q)) := by simp
    have e2 : root :: (List.range' a (2 ^ d) ++ (wordsT p ++ (w4R l1 ++ w4R l2 ++ wordsT q))) = (root :: (List.range' a (2 ^ d) ++ (wordsT p ++ w4R l1))) ++ (w4R l2 ++ wordsT q) := by simp
    rw [e1, e2]
    generalize (root :: (List.range' a (2 ^ d) ++ (wordsT p ++ w4R l1))) = A
    generalize (w4R l2 ++ wordsT q) = C
    generalize List.range' t.1 4 = B
    rw [← List.append_assoc, ← List.append_assoc]
    exact List.Perm.append_right C List.perm_append_comm
  refine tab_change hok w1 h hp ho b1 b4 (fun w hm h1 h2 => ?_) (of_chain w1 hC) ?_ ?_ ?_
  · have hne : ∀ j, j < 4 → w ≠ posL t.1 j := fun j hj e => by rw [posL_le ht4] at e; exact (hlive4 j hj).2 (e ▸ hm)
    have hnl : w ≠ posL (findS t.2.2.2 t.2.1 (a + ofN t.2.1 d) (l1 ++ l2)).1.link 0 := fun e => by
      rw [hwl] at hlw
      rw [← e] at hlw
      rcases List.mem_cons.1 hlw with e' | hm'
      · exact h1 e'
      · exact h2 hm'
    have hpl2 : ∀ k, k < 4 → posL t.1 k < M.W.length := fun k hk => by have := live_lt (hpl k hk); omega
    have hll := live_lt (tlink_live (hash := t.2.2.2) (key := t.2.1) hok hns)
    rw [rdL_other (by rw [putW_len]; omega) hnl, putW_other hpl2 4 w hne]
  · intro x hx
    rcases List.mem_append.1 hx with hx | hx
    · exact hkeys x (List.mem_append_left _ hx)
    · rcases List.mem_cons.1 hx with rfl | hx
      · exact ⟨rfl, hh⟩
      · exact hkeys x (List.mem_append_right _ hx)
  · rw [hnew.nodup_iff]
    exact List.nodup_append.2 ⟨hf.2, h.nd, fun x hx y hy e => (hf.1 x hx).2 (e ▸ hy)⟩
  · intro w hw
    rcases List.mem_append.1 (hnew.mem_iff.1 hw) with hw | hw
    · exact (hf.1 w hw).1
    · exact h.live w hw
end Go.Proofs.YtahicokokfcieaaDoor
namespace Go.Proofs.YtahicokokfcieaaDoor
open Go.RowKit
open Go.Proofs
set_option linter.unusedVariables false
theorem tab_cut {M : Mem} {root a d key : Nat} {nss : List (List Nd)} (hok : okM M = true) (hW : ∀ x ∈ M.W, x < 18446744073709551616) (h : TabP M root a d nss) (hf : (lookT M root key).1.s.found = true) :
    ∃ p q l1 t l2, nss = p ++ (l1 ++ t :: l2) :: q ∧ p.length = ofN key d ∧ t.2.1 = key ∧ (lookT M root key).1.s.node = t.1 ∧ (lookT M root key).1.s.val = t.2.2.1 ∧ (∀ x ∈ l1 ++ l2, x.2.1 ≠ key) ∧
      okM (cutM M (lookT M root key).1.s.link (lookT M root key).1.s.node) = true ∧ (∀ x ∈ (cutM M (lookT M root key).1.s.link (lookT M root key).1.s.node).W, x < 18446744073709551616) ∧ TabP (cutM M (lookT M root key).1.s.link (lookT M root key).1.s.node) root a d (p ++ (l1 ++ l2) :: q) := by
  obtain ⟨p, ns, q, rfl, hp, hd2, hd4, ho, hns, hkeys, b1, b4, hA, hlk⟩ := tab_split (key := key) h
  rw [hlk] at hf ⊢
  dsimp only at hf ⊢
  have hhead := tab_arr hok h ho
  have hL := chain_of hns
  obtain ⟨l1, t, l2, rfl, q1, q2, q3, q4, hC, hnx, -, -, hlv⟩ := cut_law hok hL hf
  have hwl : wordsL (a + ofN key d) (l1 ++ t :: l2) = (a + ofN key d) :: w4R (l1 ++ t :: l2) := by rw [wordsL_eq, posL_le hhead.2, wl_w4 _ (nodes_le hok hns), Nat.add_zero]
  have hlw := link_word (hash := hashN key) (key := key) hok hns
  have hll := tlink_live (hash := hashN key) (key := key) hok hns
  rw [q3]
  have hv : wAt M t.1 2 < 18446744073709551616 := by
    unfold wAt
    rw [List.getD_eq_getElem?_getD]
    cases hx : M.W[posL t.1 2]? with
    | none => show (0 : Nat) < _; decide
    | some x => exact hW x (List.mem_of_getElem? hx)
  obtain ⟨w1, w2⟩ := okM_set hok hW hll hv
  obtain ⟨-, hno⟩ := incr_rem hL.inc
  refine ⟨p, q, l1, t, l2, rfl, hp, q1, rfl, q4, fun x hx e => ?_, w1, w2, ?_⟩
  · have hx' : x ∈ l1 ++ t :: l2 := by
      rcases List.mem_append.1 hx with hx | hx
      · exact List.mem_append_left _ hx
      · exact List.mem_append_right _ (List.mem_cons_of_mem _ hx)
    refine hno x hx ⟨by rw [e, q1], ?_⟩
    rw [← (hkeys x hx').2, e, q2]
  · have hsub : (metT root a d (p ++ (l1 ++ l2) :: q)).Sublist (metT root a d (p ++ (l1 ++ t :: l2) :: q)) := by
      rw [metT_split, metT_split, w4R_append, w4R_append, w4R_cons]
      exact List.Sublist.cons_cons _ (List.Sublist.append_left (List.Sublist.append_left (List.Sublist.append_right (List.Sublist.append_left (List.sublist_append_right _ _) _) _) _) _)
    refine tab_change hok w1 h hp ho b1 b4 (fun w hm h1 h2 => ?_) (of_chain w1 hC) (fun x hx => ?_) (hsub.nodup h.nd) (fun w hw => h.live w (hsub.subset hw))
    · have hnl : w ≠ posL (findS (hashN key) key (a + ofN key d) (l1 ++ t :: l2)).1.link 0 := fun e => by
        rw [hwl] at hlw
        rw [← e] at hlw
        rcases List.mem_cons.1 hlw with e' | hm'
        · exact h1 e'
        · exact h2 hm'
      obtain ⟨o1, o2, o3, -⟩ := okM_spec hok
      have := live_lt hll
      exact rdL_other (by omega) hnl
    · refine hkeys x ?_
      rcases List.mem_append.1 hx with hx | hx
      · exact List.mem_append_left _ hx
      · exact List.mem_append_right _ (List.mem_cons_of_mem _ hx)
theorem rowsB_mem : ∀ (nss : List (List Nd)) (b : Nat) (r : Rw), r ∈ rowsB b nss ↔ ∃ i ns t, nss[i]? = some ns ∧ t ∈ ns ∧ r = rwOf (b + i) t
  | [], b, r => by simp [rowsB]
  | ns :: q, b, r => by
    simp only [rowsB, List.mem_append, List.mem_map, rowsB_mem q (b + 1) r]
    constructor
    · rintro (⟨t, ht, rfl⟩ | ⟨i, ms, t, h1, h2, rfl⟩)
      · exact ⟨0, ns, t, rfl, ht, by simp⟩
      · exact ⟨i + 1, ms, t, by simpa using h1, h2, by rw [show b + 1 + i = b + (i + 1) by omega]⟩
    · rintro ⟨i, ms, t, h1, h2, rfl⟩
      cases i with
      | zero =>
        have h1 : some ns = some ms := h1
        cases h1
        exact .inl ⟨t, h2, by simp⟩
      | succ i => exact .inr ⟨i, ms, t, by simpa using h1, h2, by rw [show b + 1 + i = b + (i + 1) by omega]⟩
theorem bok_at {M : Mem} {a d : Nat} : ∀ (nss : List (List Nd)) (b i : Nat) (ns : List Nd), BOk M a d b nss → nss[i]? = some ns → nodesR M (a + (b + i)) = some ns ∧ ∀ t ∈ ns, ofN t.2.1 d = b + i ∧ hashN t.2.1 = t.2.2.2
  | [], b, i, ns, _, h => by simp at h
  | ms :: q, b, 0, ns, ⟨h1, h2, _⟩, h => by
    have h : some ms = some ns := h
    cases h
    exact ⟨h1, h2⟩
  | ms :: q, b, i + 1, ns, ⟨_, _, h3⟩, h => by
    have := bok_at q (b + 1) i ns h3 (by simpa using h)
    rw [show b + (i + 1) = b + 1 + i by omega]
    exact this
/-- A row's key is found, and it alone. -/
theorem found_iff {M : Mem} {root a d key : Nat} {nss : List (List Nd)} (h : TabP M root a d nss) (hk : key < 18446744073709551616) : (lookT M root key).1.s.found = true ↔ ∃ r ∈ rowsB 0 nss, r.2.2.1 = key := by
  obtain ⟨p, ns, q, rfl, hp, hd2, hd4, ho, hns, hkeys, b1, b4, hA, hlk⟩ := tab_split (key := key) h
  rw [hlk]
  dsimp only
  constructor
  · intro hf
    obtain ⟨x, hx, -, -, e1, e2⟩ := findS_found _ _ hf
    refine ⟨rwOf (0 + p.length) x, (rowsB_mem _ _ _).2 ⟨p.length, ns, x, by simp, hx, rfl⟩, e1⟩
  · rintro ⟨r, hr, he⟩
    obtain ⟨i, ms, t, h1, h2, rfl⟩ := (rowsB_mem _ _ _).1 hr
    have he : t.2.1 = key := he
    obtain ⟨n1, n2⟩ := bok_at _ _ _ _ h.bok h1
    obtain ⟨k1, k2⟩ := n2 t h2
    rw [he, Nat.zero_add] at k1
    have hms : ms = ns := by
      rw [← k1, ← hp] at h1
      simpa using h1.symm
    subst hms
    exact (findS_in (chain_of hns).inc h2 he (by rw [← k2, he])).1
theorem found_val {M : Mem} {root a d key : Nat} {nss : List (List Nd)} (h : TabP M root a d nss) {r : Rw} (hr : r ∈ rowsB 0 nss) (he : r.2.2.1 = key) : (lookT M root key).1.s.found = true ∧ (lookT M root key).1.s.val = r.2.2.2 ∧ (lookT M root key).1.s.node = r.2.1 ∧ r.1 = ofN key d := by
  obtain ⟨p, ns, q, rfl, hp, hd2, hd4, ho, hns, hkeys, b1, b4, hA, hlk⟩ := tab_split (key := key) h
  rw [hlk]
  dsimp only
  obtain ⟨i, ms, t, h1, h2, rfl⟩ := (rowsB_mem _ _ _).1 hr
  have he : t.2.1 = key := he
  obtain ⟨n1, n2⟩ := bok_at _ _ _ _ h.bok h1
  obtain ⟨k1, k2⟩ := n2 t h2
  rw [he, Nat.zero_add] at k1
  have hms : ms = ns := by
    rw [← k1, ← hp] at h1
    simpa using h1.symm
  subst hms
  obtain ⟨f1, f2, f3⟩ := findS_in (link := a + ofN key d) (chain_of hns).inc h2 he (by rw [← k2, he])
  exact ⟨f1, f3, f2, by show 0 + i = _; omega⟩
/-- What is inserted is found; the others are as they were. -/
theorem law_ins {M M' : Mem} {root at_ key val k : Nat} {xs : List Rw} {met : List Nat} (hok : okM M = true) (hW : ∀ x ∈ M.W, x < 18446744073709551616) (hr : root < 18446744073709551616) (ha : at_ < 18446744073709551616) (hk : key < 18446744073709551616) (hv : val < 18446744073709551616)
    (h : rowsW M root = some (xs, met)) (hi : insT M root at_ key val = (M', k, 0)) :
    okM M' = true ∧ (∀ x ∈ M'.W, x < 18446744073709551616) ∧ (∀ r ∈ xs, r.2.2.1 ≠ key) ∧ (∃ ys1 ys2 b met', b < 16 ∧ xs = ys1 ++ ys2 ∧ rowsW M' root = some (ys1 ++ (b, at_, key, val) :: ys2, met')) ∧ ∃ n, findT M' root key = (val, n, 0) := by
  obtain ⟨a, d, nss, hT, rfl, rfl⟩ := tab_of hok h
  unfold insT at hi
  rw [if_neg (by rw [hok]; decide), h] at hi
  dsimp only at hi
  split at hi
  · cases hi
  · rename_i h1
    split at hi
    · cases hi
    · rename_i h2
      simp only [Prod.mk.injEq] at hi
      obtain ⟨rfl, -⟩ := hi
      have hat : at_ ≠ 0 := fun e => h1 (.inl e)
      cases hm : tmeet M at_ 4 (metT root a d nss) with
      | none => exact absurd (.inr (by rw [hm]; rfl)) h1
      | some met' =>
        obtain ⟨-, hf, -⟩ := meet_fresh.1 hm
        have hnf : (lookT M root key).1.s.found = false := by simpa using h2
        obtain ⟨p, ns, q, l1, l2, rfl, hp, rfl, w1, w2, hT'⟩ := tab_put (t := (at_, key, val, hashN key)) hok hW hr hT hat hf ⟨ha, hk, hv, hashN_lt key⟩ rfl hnf
        have hrow := of_tab w1 hT'
        obtain ⟨hd2, hd4, -⟩ := saysW_some (show saysW (rdL M.W root) = some (a, d) from hT.says)
        have ho := ofN_lt (key := key) (show d ≤ 64 by omega)
        have hp16 := (pow_dep hd2 hd4).2.2
        have hp' : p.length = ofN key d := hp
        have e1 : rowsB 0 (p ++ (l1 ++ (at_, key, val, hashN key) :: l2) :: q) = (rowsB 0 p ++ l1.map (rwOf p.length)) ++ (p.length, at_, key, val) :: (l2.map (rwOf p.length) ++ rowsB (p.length + 1) q) := by
          rw [rowsB_append, Nat.zero_add]
          simp only [rowsB, List.map_append, List.map_cons, List.append_assoc, List.cons_append]
          rfl
        have e2 : rowsB 0 (p ++ (l1 ++ l2) :: q) = (rowsB 0 p ++ l1.map (rwOf p.length)) ++ (l2.map (rwOf p.length) ++ rowsB (p.length + 1) q) := by
          rw [rowsB_append, Nat.zero_add]
          simp only [rowsB, List.map_append, List.append_assoc]
        have hfv := found_val (key := key) hT' (r := (p.length, at_, key, val)) (by rw [e1]; simp) rfl
        refine ⟨w1, w2, fun r hr e => ?_, ⟨_, _, p.length, _, by omega, e2, by rw [hrow, e1]⟩, (lookT (putT M root (at_, key, val, hashN key)) root key).2, ?_⟩
        · have := (found_iff hT hk).2 ⟨r, hr, e⟩
          rw [hnf] at this; cases this
        · unfold findT
          rw [if_neg (by rw [w1]; decide), hrow, if_neg (by simp), if_pos hfv.1, hfv.2.1]
/-- What is removed is found no more; the others are as they were. -/
theorem law_rem {M M' : Mem} {root key at_ : Nat} {xs : List Rw} {met : List Nat} (hok : okM M = true) (hW : ∀ x ∈ M.W, x < 18446744073709551616) (hr : root < 18446744073709551616) (hk : key < 18446744073709551616)
    (h : rowsW M root = some (xs, met)) (hi : remT M root key = (M', at_, 0)) :
    okM M' = true ∧ (∀ x ∈ M'.W, x < 18446744073709551616) ∧ (∃ ys1 r ys2 met', xs = ys1 ++ r :: ys2 ∧ r.2.2.1 = key ∧ r.2.1 = at_ ∧ (∀ x ∈ ys1, x.2.2.1 ≠ key) ∧ rowsW M' root = some (ys1 ++ ys2, met')) ∧ findT M' root key = (0, 0, 4) := by
  obtain ⟨a, d, nss, hT, rfl, rfl⟩ := tab_of hok h
  unfold remT at hi
  rw [if_neg (by rw [hok]; decide), h, if_neg (by simp)] at hi
  split at hi
  · rename_i hf
    simp only [Prod.mk.injEq] at hi
    obtain ⟨rfl, e, -⟩ := hi
    obtain ⟨p, q, l1, t, l2, rfl, hp, q1, q3, q4, hno, w1, w2, hT'⟩ := tab_cut hok hW hT hf
    have hrow := of_tab w1 hT'
    have e1 : rowsB 0 (p ++ (l1 ++ t :: l2) :: q) = (rowsB 0 p ++ l1.map (rwOf p.length)) ++ rwOf p.length t :: (l2.map (rwOf p.length) ++ rowsB (p.length + 1) q) := by
      rw [rowsB_append, Nat.zero_add]
      simp only [rowsB, List.map_append, List.map_cons, List.append_assoc, List.cons_append]
    have e2 : rowsB 0 (p ++ (l1 ++ l2) :: q) = (rowsB 0 p ++ l1.map (rwOf p.length)) ++ (l2.map (rwOf p.length) ++ rowsB (p.length + 1) q) := by
      rw [rowsB_append, Nat.zero_add]
      simp only [rowsB, List.map_append, List.append_assoc]
    -- a row of that key lies in its bucket
    have hbk : ∀ r ∈ rowsB 0 (p ++ (l1 ++ l2) :: q), r.2.2.1 ≠ key := by
      intro r hr he
      obtain ⟨i, ms, x, h1, h2, rfl⟩ := (rowsB_mem _ _ _).1 hr
      have he : x.2.1 = key := he
      have hi := (found_val (key := key) hT' hr he).2.2.2
      have hi : 0 + i = ofN key d := hi
      have hms : ms = l1 ++ l2 := by
        rw [Nat.zero_add, ← hp] at hi
        subst hi
        simpa using h1.symm
      subst hms
      exact hno x h2 he
    refine ⟨w1, w2, ⟨_, rwOf p.length t, _, _, e1, q1, by rw [← e, q3]; rfl, fun x hx => hbk x (by rw [e2]; exact List.mem_append_left _ hx), by rw [hrow, e2]⟩, ?_⟩
    have hnf : ¬ (lookT (cutM M (lookT M root key).1.s.link (lookT M root key).1.s.node) root key).1.s.found = true := fun hf' => by
      obtain ⟨r, hr, he⟩ := (found_iff hT' hk).1 hf'
      exact hbk r hr he
    unfold findT
    rw [if_neg (by rw [w1]; decide), hrow, if_neg (by simp), if_neg hnf]
  · cases hi
/-- Who is not found is not there. -/
theorem law_none {M : Mem} {root key : Nat} {xs : List Rw} {met : List Nat} (hok : okM M = true) (hk : key < 18446744073709551616) (h : rowsW M root = some (xs, met)) (hi : (remT M root key).2.2 ≠ 0) : ∀ r ∈ xs, r.2.2.1 ≠ key := by
  obtain ⟨a, d, nss, hT, rfl, rfl⟩ := tab_of hok h
  intro r hr he
  have hf := (found_iff hT hk).2 ⟨r, hr, he⟩
  apply hi
  unfold remT
  rw [if_neg (by rw [hok]; decide), h, if_neg (by simp), if_pos hf]
end Go.Proofs.YtahicokokfcieaaDoor
namespace Go.Proofs.YtahicokokfcieaaDoor
open Go.RowKit
open Go.Proofs
set_option linter.unusedVariables false
/-- A node of a row. -/
theorem Leads.nd {w : World} {a : Option Addr} {n cap k : Nat} {xs : List Nd} {x : Nd} (h : Leads w a n cap (ndcells xs)) (hk : k < n) (hx : xs[k]? = some x) : ∃ b off, a = some ⟨b, off, none⟩ ∧ b < w.heap.size ∧ ∀ w', Below w.heap.size w w' → w'.cell? ⟨b, off + k * 4, none⟩ = some (.int .u64 ((x.1 : Nat) : Int)) ∧ w'.cell? ⟨b, off + k * 4 + 1, none⟩ = some (.int .u64 ((x.2.1 : Nat) : Int)) ∧ w'.cell? ⟨b, off + k * 4 + 2, none⟩ = some (.int .u64 ((x.2.2.1 : Nat) : Int)) ∧ w'.cell? ⟨b, off + k * 4 + 3, none⟩ = some (.int .u64 ((x.2.2.2 : Nat) : Int)) := by
  obtain ⟨_, _, ⟨q, _⟩ | ⟨b, off, rfl, hb, hc⟩⟩ := h
  · omega
  · have hat : ∀ i, i < 4 → (ndcells xs)[k * 4 + i]? = (nd4 x)[i]? := fun i hi => flat_at nd4 4 (fun _ => rfl) xs k i _ hx hi
    refine ⟨b, off, rfl, hb, fun w' hw => ⟨?_, ?_, ?_, ?_⟩⟩
    · exact (hw.cell (p := ⟨b, off + k * 4, none⟩) hb).trans (hc (k * 4 + 0) _ (hat 0 (by decide)))
    · exact (hw.cell (p := ⟨b, off + k * 4 + 1, none⟩) hb).trans (hc (k * 4 + 1) _ (hat 1 (by decide)))
    · exact (hw.cell (p := ⟨b, off + k * 4 + 2, none⟩) hb).trans (hc (k * 4 + 2) _ (hat 2 (by decide)))
    · exact (hw.cell (p := ⟨b, off + k * 4 + 3, none⟩) hb).trans (hc (k * 4 + 3) _ (hat 3 (by decide)))
theorem chain_nd {M : Mem} : ∀ (p : Nat) (xs : List Nd), ChainP M p xs → ∀ x ∈ xs, x = ndAt M x.1
  | p, [], h, x, hx => by cases hx
  | p, y :: r, ⟨h1, h2, h3, h4⟩, x, hx => by
    rcases List.mem_cons.1 hx with rfl | hx
    · have e : x.1 = p := by rw [h1]; rfl
      rw [e]; exact h1
    · exact chain_nd _ r h4 x hx
theorem twAt_lt {M : Mem} (hW : ∀ x ∈ M.W, x < 18446744073709551616) (p k : Nat) : wAt M p k < 18446744073709551616 := by
  unfold wAt
  rw [List.getD_eq_getElem?_getD]
  cases hx : M.W[posL p k]? with
  | none => show (0 : Nat) < _; decide
  | some x => exact hW x (List.mem_of_getElem? hx)
theorem rows_ok {M : Mem} {root : Nat} {xs : List Rw} {met : List Nat} (hok : okM M = true) (hW : ∀ x ∈ M.W, x < 18446744073709551616) (h : rowsW M root = some (xs, met)) : RwsOk xs ∧ xs.length ≤ 4096 := by
  obtain ⟨a, d, nss, hT, rfl, rfl⟩ := tab_of hok h
  obtain ⟨hd2, hd4, -⟩ := saysW_some (show saysW (rdL M.W root) = some (a, d) from hT.says)
  have hp16 := (pow_dep hd2 hd4).2.2
  constructor
  · intro r hr
    obtain ⟨i, ns, t, h1, h2, rfl⟩ := (rowsB_mem _ _ _).1 hr
    have hi := (List.getElem?_eq_some_iff.1 h1).1
    rw [hT.len] at hi
    obtain ⟨n1, -⟩ := bok_at _ _ _ _ hT.bok h1
    have hnd := chain_nd _ _ (nodesW_chain (nodesR_some n1).1).2 t h2
    have hle := nodes_le hok n1 t h2
    refine ⟨by show 0 + i < 1000; omega, by show t.1 < _; omega, ?_, ?_⟩
    · show t.2.1 < _
      rw [hnd]; exact twAt_lt hW _ _
    · show t.2.2.1 < _
      rw [hnd]; exact twAt_lt hW _ _
  · have hlen : ∀ (nss : List (List Nd)) (b : Nat), (rowsB b nss).length * 4 = (wordsT nss).length := by
      intro nss
      induction nss with
      | nil => intro b; rfl
      | cons ns q ih =>
        intro b
        have hw : ∀ l : List Nd, (w4R l).length = l.length * 4 := by
          intro l
          induction l with
          | nil => rfl
          | cons x l ih => rw [w4R_cons, List.length_append, ih, List.length_range', List.length_cons]; omega
        rw [wordsT_cons, List.length_append, hw, ← ih (b + 1)]
        simp only [rowsB, List.length_append, List.length_map]
        omega
    have hnd := nodup_lt (n := M.L.length) hT.nd (fun x hx => live_lt (hT.live x hx))
    obtain ⟨o1, o2, o3, -⟩ := okM_spec hok
    have := hlen nss 0
    unfold metT at hnd
    rw [List.length_append] at hnd
    omega
theorem own_blk {W : World} {base size n : Nat} {e : TypeId} {v : Value} {xs : List Value} (h : W.ownsRow base e size v n xs) (hn : 0 < n) : ∃ g cap, v = .slice (some ⟨g, 0, none⟩) n cap ∧ base ≤ g ∧ g < W.heap.size := by
  obtain ⟨-, ⟨-, q, -⟩ | ⟨g, cap, cur, q, hb, hh, -⟩⟩ := h
  · omega
  · exact ⟨g, cap, q, hb, lt_any hh⟩
/-- Between two rounds of a law: the memory that it holds. -/
structure KInv (V : World) (Y : Nat) (M : Mem) (wa : Option Addr) (wc : Nat) (la : Option Addr) (lc : Nat) (W : World) : Prop where
  by_ : W.heap[Y]? = some (.cells #[.slice wa M.W.length wc, .slice la M.L.length lc, .bool M.F] 38 (0, 0))
  mem : MemO V.heap.size wa wc la lc M W
  wok : ∀ x ∈ M.W, x < 18446744073709551616
  bel : Below V.heap.size V W
theorem take96_wok {M : Mem} (h : ∀ x ∈ M.W, x < 18446744073709551616) : ∀ x ∈ (take96 M).W, x < 18446744073709551616 := fun x hx => h x (List.mem_of_mem_take hx)
end Go.Proofs.YtahicokokfcieaaDoor
