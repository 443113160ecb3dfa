/- Lists: step by step, up to the last one. Plain laws. -/
import Derived.Test.YtdkkjcflcegeoaaLsPlain4
namespace Go.Proofs.Ytdkkjcflcegeoaa
open Go.RowKit
open Go.Proofs
set_option linter.unusedVariables false

/-- So many steps are to come; up to the last one the list is xs, behind it ys, and Q holds. -/
inductive Lst (head : Nat) (xs ys : List Nd) (Q : Mem → Prop) : Nat → Mem → Ede → Prop
  | last {M : Mem} {s : Ede} (ok : okM M = true) (wok : ∀ x ∈ M.W, x < 18446744073709551616) (sok : s.Ok) (ph : s.ph = 5) (was : nodesR M head = some xs) (ph' : (editE M s).2.1.ph = 6) (now : nodesR (editE M s).1 head = some ys) (q : Q (editE M s).1) : Lst head xs ys Q 1 M s
  | more {n : Nat} {M : Mem} {s : Ede} (ok : okM M = true) (wok : ∀ x ∈ M.W, x < 18446744073709551616) (sok : s.Ok) (ph0 : 0 ≤ s.ph) (ph : s.ph < 5) (was : nodesR M head = some xs) (ph' : (editE M s).2.1.ph ≤ 5) (next : Lst head xs ys Q n (editE M s).1 (editE M s).2.1) : Lst head xs ys Q (n + 1) M s
theorem Lst.facts {head : Nat} {xs ys : List Nd} {Q : Mem → Prop} {n : Nat} {M : Mem} {s : Ede} (h : Lst head xs ys Q n M s) : okM M = true ∧ (∀ x ∈ M.W, x < 18446744073709551616) ∧ s.Ok ∧ 0 ≤ s.ph ∧ s.ph ≤ 5 ∧ nodesR M head = some xs ∧ 1 ≤ n := by
  cases h with
  | last ok wok sok ph was ph' now q => exact ⟨ok, wok, sok, by omega, by omega, was, by omega⟩
  | more ok wok sok ph0 ph was ph' next => exact ⟨ok, wok, sok, ph0, by omega, was, by omega⟩
theorem edit_ok_set {M : Mem} {s : Ede} (hok : okM M = true) (hW : ∀ x ∈ M.W, x < 18446744073709551616) (hs : s.Ok) (h0 : 0 ≤ s.ph) (h7 : s.ph ≤ 7) {M' : Mem} {s' : Ede} {b : Bool} (e : editE M s = (M', s', b)) : okM M' = true ∧ (∀ x ∈ M'.W, x < 18446744073709551616) ∧ s'.Ok := by
  obtain ⟨q1, q2, q3, -⟩ := editE_ok hok hW hs h0 h7
  rw [e] at q1 q2 q3
  exact ⟨q1, q2, q3⟩
/-- Who puts. -/
theorem put_lst {M : Mem} {head : Nat} {xs : List Nd} {t : Nd} (hok : okM M = true) (hW : ∀ x ∈ M.W, x < 18446744073709551616) (hh : head < 18446744073709551616) (ht : t.Ok) (hx : nodesR M head = some xs) (hf : fitsP M head xs t = true) (hn : (findS t.2.2.2 t.2.1 head xs).1.found = false) :
    ∃ ys, Lst head xs ys (fun M' => okM M' = true ∧ (∀ x ∈ M'.W, x < 18446744073709551616)) 5 M (putK (findS t.2.2.2 t.2.1 head xs).1.link t (findS t.2.2.2 t.2.1 head xs).1.node) ∧ ys ≠ xs := by
  have hL := chain_of hx
  obtain ⟨l1, l2, e1, hC, hst⟩ := put_law hok hL hf hn
  have hsk : (findS t.2.2.2 t.2.1 head xs).1.Ok := findS_ok ht.2.2.2 ht.2.1 head xs hh (fun x hm => by
    have := nodesP_nodes hW (show (nodesP M head).2 = 0 by rw [nodesP_some hok hx]) x (by rw [nodesP_some hok hx]; exact hm)
    exact ⟨by omega, this.2.2.2.1⟩)
  have hlk := link_live (hash := t.2.2.2) (key := t.2.1) hok hx
  obtain ⟨f1, f2⟩ := fitsP_spec hf
  obtain ⟨link, hli⟩ : ∃ x, (findS t.2.2.2 t.2.1 head xs).1.link = x := ⟨_, rfl⟩
  obtain ⟨next, hnx⟩ : ∃ x, (findS t.2.2.2 t.2.1 head xs).1.node = x := ⟨_, rfl⟩
  have k1 := hsk.link
  have k2 := hsk.node
  rw [hli] at hC hlk k1 ⊢
  rw [hnx] at hC hst k2 ⊢
  clear hsk hli hnx
  obtain ⟨a, k, v, h⟩ := t
  dsimp only at f2
  have s0 : (⟨0, false, link, a, k, v, h, next⟩ : Ede).Ok := ⟨by dsimp only; decide, k1, ht.1, ht.2.1, ht.2.2.1, ht.2.2.2, k2⟩
  have e0 := editE_store (M := ⟨putW M (a, k, v, h) next 0, M.L, M.F⟩) (s := ⟨0, false, link, a, k, v, h, next⟩) 0 (posL a 0) k rfl (by decide) (by decide) rfl rfl (f2 0 (by decide)).1
  have e1' := editE_store (M := ⟨putW M (a, k, v, h) next 1, M.L, M.F⟩) (s := ⟨1, false, link, a, k, v, h, next⟩) 1 (posL a 1) v rfl (by decide) (by decide) rfl rfl (f2 1 (by decide)).1
  have e2 := editE_store (M := ⟨putW M (a, k, v, h) next 2, M.L, M.F⟩) (s := ⟨2, false, link, a, k, v, h, next⟩) 2 (posL a 3) h rfl (by decide) (by decide) rfl rfl (f2 3 (by decide)).1
  have e3 := editE_store (M := ⟨putW M (a, k, v, h) next 3, M.L, M.F⟩) (s := ⟨3, false, link, a, k, v, h, next⟩) 3 (posL a 2) next rfl (by decide) (by decide) rfl rfl (f2 2 (by decide)).1
  have e5 := editE_store (M := ⟨putW M (a, k, v, h) next 4, M.L, M.F⟩) (s := ⟨5, false, link, a, k, v, h, next⟩) 5 (posL link 0) a rfl (by decide) (by decide) rfl rfl hlk
  have o0 : okM ⟨putW M (a, k, v, h) next 0, M.L, M.F⟩ = true := hok
  obtain ⟨o1, w1, s1⟩ := edit_ok_set o0 hW s0 (by dsimp only; decide) (by dsimp only; decide) e0
  obtain ⟨o2, w2, s2⟩ := edit_ok_set (M := ⟨putW M (a, k, v, h) next 1, M.L, M.F⟩) (s := ⟨1, false, link, a, k, v, h, next⟩) o1 w1 s1 (by dsimp only; decide) (by dsimp only; decide) e1'
  obtain ⟨o3, w3, s3⟩ := edit_ok_set (M := ⟨putW M (a, k, v, h) next 2, M.L, M.F⟩) (s := ⟨2, false, link, a, k, v, h, next⟩) o2 w2 s2 (by dsimp only; decide) (by dsimp only; decide) e2
  obtain ⟨o4, w4, s4⟩ := edit_ok_set (M := ⟨putW M (a, k, v, h) next 3, M.L, M.F⟩) (s := ⟨3, false, link, a, k, v, h, next⟩) o3 w3 s3 (by dsimp only; decide) (by dsimp only; decide) e3
  obtain ⟨o5, w5, s5⟩ := edit_ok_set (M := ⟨putW M (a, k, v, h) next 4, M.L, M.F⟩) (s := ⟨5, false, link, a, k, v, h, next⟩) o4 w4 s4 (by dsimp only; decide) (by dsimp only; decide) e5
  refine ⟨l1 ++ (a, k, v, h) :: l2, ?_, fun e => by have := congrArg List.length e; rw [e1] at this; simp at this⟩
  have L5 : Lst head xs (l1 ++ (a, k, v, h) :: l2) (fun M' => okM M' = true ∧ (∀ x ∈ M'.W, x < 18446744073709551616)) 1 ⟨putW M (a, k, v, h) next 4, M.L, M.F⟩ ⟨5, false, link, a, k, v, h, next⟩ :=
    .last o4 w4 s4 rfl (of_chain o4 (hst 4 (by decide))) (by rw [e5]; rfl) (by rw [e5]; exact of_chain o5 hC) (by rw [e5]; exact ⟨o5, w5⟩)
  have L3 : Lst head xs (l1 ++ (a, k, v, h) :: l2) (fun M' => okM M' = true ∧ (∀ x ∈ M'.W, x < 18446744073709551616)) 2 ⟨putW M (a, k, v, h) next 3, M.L, M.F⟩ ⟨3, false, link, a, k, v, h, next⟩ :=
    .more o3 w3 s3 (by dsimp only; decide) (by dsimp only; decide) (of_chain o3 (hst 3 (by decide))) (by rw [e3]; show (5 : Int) ≤ 5; decide) (by rw [e3]; exact L5)
  have L2 : Lst head xs (l1 ++ (a, k, v, h) :: l2) (fun M' => okM M' = true ∧ (∀ x ∈ M'.W, x < 18446744073709551616)) 3 ⟨putW M (a, k, v, h) next 2, M.L, M.F⟩ ⟨2, false, link, a, k, v, h, next⟩ :=
    .more o2 w2 s2 (by dsimp only; decide) (by dsimp only; decide) (of_chain o2 (hst 2 (by decide))) (by rw [e2]; show (3 : Int) ≤ 5; decide) (by rw [e2]; exact L3)
  have L1 : Lst head xs (l1 ++ (a, k, v, h) :: l2) (fun M' => okM M' = true ∧ (∀ x ∈ M'.W, x < 18446744073709551616)) 4 ⟨putW M (a, k, v, h) next 1, M.L, M.F⟩ ⟨1, false, link, a, k, v, h, next⟩ :=
    .more o1 w1 s1 (by dsimp only; decide) (by dsimp only; decide) (of_chain o1 (hst 1 (by decide))) (by rw [e1']; show (2 : Int) ≤ 5; decide) (by rw [e1']; exact L2)
  exact .more o0 hW s0 (by show (0 : Int) ≤ 0; decide) (by show (0 : Int) < 5; decide) hx (by have := e0; show (editE ⟨putW M (a, k, v, h) next 0, M.L, M.F⟩ ⟨0, false, link, a, k, v, h, next⟩).2.1.ph ≤ 5; rw [e0]; show (1 : Int) ≤ 5; decide) (by show Lst _ _ _ _ _ (editE ⟨putW M (a, k, v, h) next 0, M.L, M.F⟩ ⟨0, false, link, a, k, v, h, next⟩).1 (editE ⟨putW M (a, k, v, h) next 0, M.L, M.F⟩ ⟨0, false, link, a, k, v, h, next⟩).2.1; rw [e0]; exact L1)
/-- Who cuts. -/
theorem cut_lst {M : Mem} {head hash key : Nat} {xs : List Nd} (hok : okM M = true) (hW : ∀ x ∈ M.W, x < 18446744073709551616) (hh : head < 18446744073709551616) (hha : hash < 18446744073709551616) (hke : key < 18446744073709551616) (hx : nodesR M head = some xs) (hf : (findS hash key head xs).1.found = true) :
    ∃ l1 t l2, xs = l1 ++ t :: l2 ∧ (findS hash key head xs).1.node = t.1 ∧ (∀ x ∈ l1, x.1 ≠ t.1) ∧ t.1 < 4096 ∧
      Lst head xs (l1 ++ l2) (fun M' => okM M' = true ∧ (∀ x ∈ M'.W, x < 18446744073709551616) ∧ posL t.1 2 = t.1 + 2 ∧ liveN M' (t.1 + 2) = true ∧ M'.W.getD (t.1 + 2) 0 = fstL l2) 2 M (cutK (findS hash key head xs).1.link (findS hash key head xs).1.node) := by
  have hL := chain_of hx
  obtain ⟨l1, t, l2, e1, q1, q2, e3, q3, hC, hnx, hnx', hd, hlv⟩ := cut_law hok hL hf
  have hsk : (findS hash key head xs).1.Ok := findS_ok hha hke head xs hh (fun x hm => by
    have := nodesP_nodes hW (show (nodesP M head).2 = 0 by rw [nodesP_some hok hx]) x (by rw [nodesP_some hok hx]; exact hm)
    exact ⟨by omega, this.2.2.2.1⟩)
  have hlk := link_live (hash := hash) (key := key) hok hx
  obtain ⟨r1, r2, r3⟩ := live_small hok hlv
  refine ⟨l1, t, l2, e1, e3, hd, r1, ?_⟩
  rw [e3]
  have k1 := hsk.link
  have k2 := hsk.node
  rw [e3] at k2
  obtain ⟨link, hli⟩ : ∃ x, (findS hash key head xs).1.link = x := ⟨_, rfl⟩
  rw [hli] at hC hlk k1 hnx' ⊢
  have e4 := editE_load (M := M) (s := ⟨4, true, link, t.1, 0, 0, 0, 0⟩) (posL t.1 2) rfl rfl hlv
  have e5 := editE_store (M := M) (s := ⟨5, true, link, t.1, 0, 0, 0, M.W.getD (posL t.1 2) 0⟩) 5 (posL link 0) (M.W.getD (posL t.1 2) 0) rfl (by decide) (by decide) rfl rfl hlk
  have s4 : (⟨4, true, link, t.1, 0, 0, 0, 0⟩ : Ede).Ok := ⟨by dsimp only; decide, k1, k2, by dsimp only; decide, by dsimp only; decide, by dsimp only; decide, by dsimp only; decide⟩
  obtain ⟨-, -, s5⟩ := edit_ok_set hok hW s4 (by dsimp only; decide) (by dsimp only; decide) e4
  obtain ⟨o6, w6, -⟩ := edit_ok_set hok hW s5 (by dsimp only; decide) (by dsimp only; decide) e5
  have L5 : Lst head xs (l1 ++ l2) (fun M' => okM M' = true ∧ (∀ x ∈ M'.W, x < 18446744073709551616) ∧ posL t.1 2 = t.1 + 2 ∧ liveN M' (t.1 + 2) = true ∧ M'.W.getD (t.1 + 2) 0 = fstL l2) 1 M ⟨5, true, link, t.1, 0, 0, 0, M.W.getD (posL t.1 2) 0⟩ :=
    .last hok hW s5 rfl hx (by rw [e5]; rfl) (by rw [e5]; exact of_chain o6 hC) (by
      rw [e5]
      refine ⟨o6, w6, r2, ?_, ?_⟩
      · rw [← r2]; exact hlv
      · rw [← r2]; exact hnx')
  unfold cutK
  exact .more hok hW s4 (by show (0 : Int) ≤ 4; decide) (by show (4 : Int) < 5; decide) hx (by rw [e4]; show (5 : Int) ≤ 5; decide) (by rw [e4]; exact L5)
/-- The place of what is cut. -/
theorem find_at {xs l1 l2 : List Nd} {t : Nd} (e : xs = l1 ++ t :: l2) (hd : ∀ x ∈ l1, x.1 ≠ t.1) : xs[l1.length]? = some t ∧ (∀ j x, j < l1.length → xs[j]? = some x → x.1 ≠ t.1) ∧ (fstL l2 = match xs[l1.length + 1]? with | none => 0 | some x => x.1) ∧ l1.length < xs.length := by
  subst e
  refine ⟨by simp, fun j x hj h => ?_, ?_, by simp⟩
  · rw [List.getElem?_append_left hj] at h
    exact hd x (List.mem_of_getElem? h)
  · rw [List.getElem?_append_right (by omega)]
    rw [show l1.length + 1 - l1.length = 1 by omega]
    cases l2 with
    | nil => rfl
    | cons y r => rfl
end Go.Proofs.Ytdkkjcflcegeoaa
