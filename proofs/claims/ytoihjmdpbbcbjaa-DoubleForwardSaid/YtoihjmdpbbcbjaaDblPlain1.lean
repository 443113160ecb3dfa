/- Lists linked both ways: what a step leaves. No walk here. -/
import Derived.Test.YtoihjmdpbbcbjaaDbl11
namespace Go.Proofs.Ytoihjmdpbbcbjaa
open Go.RowKit
open Go.Proofs
set_option linter.unusedVariables false

def Wok (M : Mem) : Prop := ∀ x ∈ M.W, x < 18446744073709551616
theorem zip_all_set : ∀ (W : List Nat) (L : List Bool) (i new : Nat), (W.zip L).all wordOk = true → L[i]? = some true → ((W.set i new).zip L).all wordOk = true
  | [], L, i, new, h, hl => by simp
  | w :: W, [], i, new, h, hl => by simp at hl
  | w :: W, b :: L, 0, new, h, hl => by
    simp only [List.getElem?_cons_zero, Option.some.injEq] at hl
    subst hl
    simp only [List.set_cons_zero, List.zip_cons_cons, List.all_cons, Bool.and_eq_true] at h ⊢
    exact ⟨by simp [wordOk], h.2⟩
  | w :: W, b :: L, i + 1, new, h, hl => by
    simp only [List.getElem?_cons_succ] at hl
    simp only [List.set_cons_succ, List.zip_cons_cons, List.all_cons, Bool.and_eq_true] at h ⊢
    exact ⟨h.1, zip_all_set W L i new h.2 hl⟩
theorem liveAt_spec {M : Mem} {a : Int} (h : liveAt M a = true) : M.L[a.toNat]? = some true := by
  unfold liveAt at h
  simp only [Bool.and_eq_true, decide_eq_true_eq] at h
  cases hq : M.L[a.toNat]? with
  | none => rw [hq] at h; simp at h
  | some b => rw [hq] at h; simpa using h.2
theorem stepM_L (M : Mem) (st : Bool) (a : Int) (new : Nat) : (stepM M st a new).1.L = M.L := by
  unfold stepM; split
  · split <;> rfl
  · rfl
theorem stepM_len (M : Mem) (st : Bool) (a : Int) (new : Nat) : (stepM M st a new).1.W.length = M.W.length := by
  unfold stepM; split
  · split
    · simp
    · rfl
  · rfl
theorem stepM_ok {M : Mem} (st : Bool) (a : Int) (new : Nat) (h : okM M = true) : okM (stepM M st a new).1 = true := by
  obtain ⟨h1, h2, h3, h4⟩ := okM_spec h
  unfold okM
  rw [stepM_L, stepM_len, decide_eq_true h1, decide_eq_true h2, decide_eq_true h3]
  simp only [Bool.true_and]
  unfold stepM
  split
  · rename_i hl
    split
    · exact zip_all_set _ _ _ _ h4 (liveAt_spec hl)
    · exact h4
  · exact h4
theorem stepM_wok {M : Mem} (st : Bool) (a : Int) (new : Nat) (h : Wok M) (hn : new < 18446744073709551616) : Wok (stepM M st a new).1 := by
  unfold stepM
  split
  · split
    · intro x hx
      rcases List.mem_or_eq_of_mem_set hx with hx | rfl
      · exact h x hx
      · exact hn
    · exact h
  · exact h
theorem stepM_val {M : Mem} (st : Bool) (a : Int) (new : Nat) (h : Wok M) : (stepM M st a new).2.1 < 18446744073709551616 := by
  unfold stepM
  split
  · show M.W.getD _ 0 < _
    rw [List.getD_eq_getElem?_getD]
    cases hq : M.W[a.toNat]? with
    | none => simp
    | some x => exact h x (List.mem_of_getElem? hq)
  · show 0 < _; decide
theorem accW_lt {s : Ed} (h : s.Ok) (k : Nat) : accW s k < 18446744073709551616 := by
  unfold accW
  split
  · exact h.key
  · exact h.val
  · exact h.next
  · exact h.prev
  · split
    · exact h.next
    · exact h.pl
  · split
    · exact h.prev
    · exact h.pl
  · decide
theorem aftE_ok {s : Ed} (h : s.Ok) (k v : Nat) (d : Bool) (hv : v < 18446744073709551616) : (aftE s k v d).Ok := by
  unfold aftE
  split
  · exact ⟨h.ph, h.head, h.pl, h.key, h.val, h.prev, by dsimp only; split; exact hv; exact h.next⟩
  · exact ⟨h.ph, h.head, h.pl, h.key, h.val, h.prev, by dsimp only; split; exact hv; exact h.next⟩
  · exact ⟨h.ph, h.head, h.pl, h.key, h.val, by dsimp only; split; exact hv; exact h.prev, h.next⟩
  · exact h
theorem nextPh_le (k : Nat) (d : Bool) (hk : k < 9) : ((k : Nat) : Int) < nextPh k d ∧ nextPh k d ≤ 10 := by
  unfold nextPh
  split
  · omega
  · split <;> omega
theorem stepE_ok {M : Mem} {s : Ed} (hM : okM M = true) (hW : Wok M) (hs : s.Ok) (hp : 0 ≤ s.ph) : okM (stepE M s).1 = true ∧ Wok (stepE M s).1 ∧ (stepE M s).2.Ok ∧ (s.ph < 9 → s.ph < (stepE M s).2.ph ∧ (stepE M s).2.ph ≤ 10) ∧ 0 ≤ (stepE M s).2.ph := by
  unfold stepE
  split
  · exact ⟨hM, hW, hs, fun h => by omega, hp⟩
  · have hv : (accR M s s.ph.toNat).2.1 < 18446744073709551616 := stepM_val _ _ _ hW
    have ha := aftE_ok hs s.ph.toNat _ (accR M s s.ph.toNat).2.2 hv
    have hn := nextPh_le s.ph.toNat (accR M s s.ph.toNat).2.2 (by omega)
    refine ⟨stepM_ok _ _ _ hM, stepM_wok _ _ _ hW (accW_lt hs _), ⟨by dsimp only; omega, ha.head, ha.pl, ha.key, ha.val, ha.prev, ha.next⟩, fun _ => ?_, ?_⟩
    · dsimp only; omega
    · dsimp only; omega
/-- All steps; how many. -/
def runE : Nat → Mem → Ed → Nat → Mem × Nat
  | 0, M, _, n => (M, n)
  | f + 1, M, s, n => if s.ph < 9 then runE f (stepE M s).1 (stepE M s).2 (n + 1) else (M, n)
theorem runE_le : ∀ (f : Nat) (M : Mem) (s : Ed) (n : Nat), n ≤ (runE f M s n).2
  | 0, M, s, n => Nat.le_refl _
  | f + 1, M, s, n => by
    unfold runE
    split
    · exact Nat.le_trans (Nat.le_succ n) (runE_le f _ _ _)
    · exact Nat.le_refl _
theorem runE_pos {M : Mem} {s : Ed} (f : Nat) (h : s.ph < 9) : 1 ≤ (runE (f + 1) M s 0).2 := by
  unfold runE
  rw [if_pos h]
  exact runE_le f _ _ 1
theorem runE_end {M : Mem} {s : Ed} (f n : Nat) (h : ¬ s.ph < 9) : runE f M s n = (M, n) := by
  cases f with
  | zero => rfl
  | succ f => unfold runE; rw [if_neg h]
end Go.Proofs.Ytoihjmdpbbcbjaa
