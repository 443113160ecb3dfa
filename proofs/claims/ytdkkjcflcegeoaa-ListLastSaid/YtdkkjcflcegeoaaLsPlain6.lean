/- Lists: what is put is found, what is cut is not. Plain laws. -/
import Derived.Test.YtdkkjcflcegeoaaLsPlain5
namespace Go.Proofs.Ytdkkjcflcegeoaa
open Go.RowKit
open Go.Proofs
set_option linter.unusedVariables false

theorem sk_ok_of {M : Mem} {head hash key : Nat} {xs : List Nd} (hok : okM M = true) (hW : ∀ x ∈ M.W, x < 18446744073709551616) (hh : head < 18446744073709551616) (hha : hash < 18446744073709551616) (hke : key < 18446744073709551616) (hx : nodesR M head = some xs) : (findS hash key head xs).1.Ok :=
  findS_ok hha hke head xs hh (fun x hm => by
    have := nodesP_nodes hW (show (nodesP M head).2 = 0 by rw [nodesP_some hok hx]) x (by rw [nodesP_some hok hx]; exact hm)
    exact ⟨by omega, this.2.2.2.1⟩)
/-- A node that was put. -/
theorem ins_keep {M : Mem} {head : Nat} {xs : List Nd} {t : Nd} (hok : okM M = true) (hW : ∀ x ∈ M.W, x < 18446744073709551616) (hh : head < 18446744073709551616) (ht : t.Ok) (hx : nodesR M head = some xs) (hc : (insP M head t).2.2 = 0) :
    ∃ l1 l2, xs = l1 ++ l2 ∧ okM (insP M head t).1 = true ∧ (∀ x ∈ (insP M head t).1.W, x < 18446744073709551616) ∧ nodesR (insP M head t).1 head = some (l1 ++ t :: l2) ∧ t ∉ l1 ∧
      (findS t.2.2.2 t.2.1 head (l1 ++ t :: l2)).1.found = true ∧ (findS t.2.2.2 t.2.1 head (l1 ++ t :: l2)).1.node = t.1 ∧ (findS t.2.2.2 t.2.1 head (l1 ++ t :: l2)).1.val = t.2.2.1 := by
  rw [ins_same hok hx] at hc ⊢
  unfold rinsP at hc ⊢
  cases hf : fitsP M head xs t with
  | false => rw [hf, if_pos rfl] at hc; cases hc
  | true =>
    rw [hf, if_neg (by decide)] at hc
    rw [if_neg (by decide)]
    cases hn : (findS t.2.2.2 t.2.1 head xs).1.found with
    | true => rw [hn, if_pos rfl] at hc; cases hc
    | false =>
      rw [if_neg (by decide)]
      have hL := chain_of hx
      obtain ⟨l1, l2, e1, hC, -⟩ := put_law hok hL hf hn
      obtain ⟨f1, f2⟩ := fitsP_spec hf
      have hlk := link_live (hash := t.2.2.2) (key := t.2.1) hok hx
      have hs := sk_ok_of (hash := t.2.2.2) (key := t.2.1) hok hW hh ht.2.2.2 ht.2.1 hx
      obtain ⟨r1, r2, -, -⟩ := editRun_keep 8 M (putK (findS t.2.2.2 t.2.1 head xs).1.link t (findS t.2.2.2 t.2.1 head xs).1.node) 0 hok hW ⟨by unfold putK; dsimp only; decide, hs.link, ht.1, ht.2.1, ht.2.2.1, ht.2.2.2, hs.node⟩ (by show (0 : Int) ≤ 0; decide) (by show (0 : Int) ≤ 7; decide)
      have e : (editRun 8 M (putK (findS t.2.2.2 t.2.1 head xs).1.link t (findS t.2.2.2 t.2.1 head xs).1.node) 0).1 = putM' M (findS t.2.2.2 t.2.1 head xs).1.link t (findS t.2.2.2 t.2.1 head xs).1.node := by
        rw [put_run 0 (fun k hk => (f2 k hk).1) hlk]; rfl
      dsimp only
      rw [e] at r1 r2 ⊢
      exact ⟨l1, l2, e1, r1, r2, of_chain r1 hC, incr_mid hC.inc, findS_in hC.inc (x := t) (by simp) rfl rfl⟩
/-- A node that was cut. -/
theorem rem_keep {M : Mem} {head hash key : Nat} {xs : List Nd} (hok : okM M = true) (hW : ∀ x ∈ M.W, x < 18446744073709551616) (hh : head < 18446744073709551616) (hha : hash < 18446744073709551616) (hke : key < 18446744073709551616) (hx : nodesR M head = some xs) (hc : (remP M head hash key).2.2 = 0) :
    ∃ l1 t l2, xs = l1 ++ t :: l2 ∧ t.2.1 = key ∧ t.2.2.2 = hash ∧ (remP M head hash key).2.1 = t.1 ∧ (∀ x ∈ l1, x.1 ≠ t.1) ∧ okM (remP M head hash key).1 = true ∧ (∀ x ∈ (remP M head hash key).1.W, x < 18446744073709551616) ∧ nodesR (remP M head hash key).1 head = some (l1 ++ l2) ∧ (findS hash key head (l1 ++ l2)).1.found = false := by
  rw [rem_same hok hx] at hc ⊢
  unfold rremP at hc ⊢
  cases hf : (findS hash key head xs).1.found with
  | false => rw [hf, if_pos rfl] at hc; cases hc
  | true =>
    rw [if_neg (by decide)]
    have hL := chain_of hx
    obtain ⟨l1, t, l2, e1, q1, q2, e3, -, hC, -, -, hd, hlv⟩ := cut_law hok hL hf
    have hlk := link_live (hash := hash) (key := key) hok hx
    have hs := sk_ok_of (hash := hash) (key := key) hok hW hh hha hke hx
    obtain ⟨r1, r2, -, -⟩ := editRun_keep 8 M (cutK (findS hash key head xs).1.link (findS hash key head xs).1.node) 0 hok hW ⟨by unfold cutK; dsimp only; decide, hs.link, hs.node, by unfold cutK; dsimp only; decide, by unfold cutK; dsimp only; decide, by unfold cutK; dsimp only; decide, by unfold cutK; dsimp only; decide⟩ (by show (0 : Int) ≤ 4; decide) (by show (4 : Int) ≤ 7; decide)
    have e : (editRun 8 M (cutK (findS hash key head xs).1.link (findS hash key head xs).1.node) 0).1 = cutM M (findS hash key head xs).1.link t.1 := by
      rw [e3, cut_run 0 hlv hlk]; rfl
    dsimp only
    rw [e] at r1 r2 ⊢
    have hi := hL.inc
    rw [e1] at hi
    refine ⟨l1, t, l2, e1, q1, q2, e3, hd, r1, r2, of_chain r1 hC, ?_⟩
    cases hff : (findS hash key head (l1 ++ l2)).1.found with
    | false => rfl
    | true =>
      obtain ⟨x, hxm, -, -, k1, k2⟩ := findS_found head _ hff
      exact absurd ⟨k1.trans q1.symm, k2.trans q2.symm⟩ ((incr_rem hi).2 x hxm)
/-- A row without the one that stands there. -/
theorem erase_mid (l1 l2 : List Nd) (t : Nd) : (l1 ++ t :: l2).eraseIdx l1.length = l1 ++ l2 := by
  rw [List.eraseIdx_append_of_length_le (Nat.le_refl _), Nat.sub_self]; rfl
theorem findP_some {M : Mem} {head hash key : Nat} {xs : List Nd} (hok : okM M = true) (hx : nodesR M head = some xs) : findP M head hash key = ((findS hash key head xs).1, (findS hash key head xs).2, 0) := by
  unfold findP
  rw [nodesP_some hok hx]
  rfl
end Go.Proofs.Ytdkkjcflcegeoaa
