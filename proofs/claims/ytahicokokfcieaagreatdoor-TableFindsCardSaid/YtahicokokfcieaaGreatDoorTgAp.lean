/- Several texts in one. -/
import Derived.Test.YtahicokokfcieaaGreatDoorTgAl
import Derived.Test.YtahicokokfcieaaGreatDoorLs13
import Derived.Test.YtahicokokfcieaaGreatDoorTgAm
namespace Go.Proofs.YtahicokokfcieaaGreatDoor
open Go.RowKit
open Go.Proofs
set_option linter.unusedVariables false
/-- The places lead on to these nodes. -/
def ChainP (M : Mem) : Nat → List Nd → Prop
  | place, [] => place = 0
  | place, x :: r => x = ndAt M place ∧ place ≠ 0 ∧ (∀ k, k < 4 → liveN M (posL place k) = true) ∧ ChainP M (wAt M place 2) r
theorem goW_chain {M : Mem} : ∀ (f place : Nat) (met : List Nat) (out xs : List Nd), goW M f place met out = some xs → ∃ r, xs = out ++ r ∧ ChainP M place r
  | 0, place, met, out, xs, h => by unfold goW at h; cases h
  | f + 1, place, met, out, xs, h => by
    by_cases h0 : place = 0
    · subst h0
      rw [goW_zero] at h
      cases h
      exact ⟨[], by simp, rfl⟩
    · cases ht : takeP M place (List.range 4) met with
      | none => rw [goW_none h0 ht] at h; cases h
      | some m2 =>
        rw [goW_some h0 ht] at h
        obtain ⟨r, e, hr⟩ := goW_chain f _ _ _ _ h
        refine ⟨ndAt M place :: r, by rw [e]; simp, rfl, h0, ?_, hr⟩
        intro k hk
        exact (takeP_spec M place _ _ _ ht).1 k (by simpa using hk)
theorem nodesW_chain {M : Mem} {head : Nat} {xs : List Nd} (h : nodesW M head = some xs) : liveN M (posL head 0) = true ∧ ChainP M (wAt M head 0) xs := by
  cases ht : takeP M head [0] [] with
  | none => rw [nodesW_none ht] at h; cases h
  | some m0 =>
    rw [nodesW_some ht] at h
    obtain ⟨r, e, hr⟩ := goW_chain _ _ _ _ _ h
    refine ⟨(takeP_spec M head _ _ _ ht).1 0 (by simp), ?_⟩
    rw [e]; exact hr
theorem nodesR_some {M : Mem} {head : Nat} {xs : List Nd} (h : nodesR M head = some xs) : nodesW M head = some xs ∧ incr xs = true := by
  unfold nodesR at h
  cases hw : nodesW M head with
  | none => rw [hw] at h; cases h
  | some ys =>
    rw [hw] at h
    dsimp only at h
    split at h
    · cases h; exact ⟨rfl, by assumption⟩
    · cases h
theorem live_small {M : Mem} {p k : Nat} (hok : okM M = true) (h : liveN M (posL p k) = true) : p < 4096 ∧ posL p k = p + k ∧ p + k < M.W.length := by
  obtain ⟨h1, h2, h3, -⟩ := okM_spec hok
  have := live_lt h
  rw [h3] at this
  unfold posL at this ⊢
  omega
theorem liveAt_eq (M : Mem) (q : Nat) : liveAt M ((q : Nat) : Int) = liveN M q := by
  unfold liveAt liveN
  rw [Int.toNat_natCast]
  have : decide ((0 : Int) ≤ ((q : Nat) : Int)) = true := decide_eq_true (by omega)
  rw [this, Bool.true_and]
theorem load_live {M : Mem} {q : Nat} (h : liveN M q = true) (new : Nat) : stepM M false ((q : Nat) : Int) new = (M, M.W.getD q 0, true) := by
  unfold stepM
  rw [liveAt_eq, h, if_pos rfl, Int.toNat_natCast]
  rfl
theorem store_live {M : Mem} {q : Nat} (h : liveN M q = true) (new : Nat) : stepM M true ((q : Nat) : Int) new = (⟨M.W.set q new, M.L, M.F⟩, M.W.getD q 0, true) := by
  unfold stepM
  rw [liveAt_eq, h, if_pos rfl, Int.toNat_natCast]
  rfl
/-- Who seeks, step by step. -/
def seekRun : Nat → Mem → Sk → Nat → Mem × Sk × Nat
  | 0, M, s, n => (M, s, n)
  | f + 1, M, s, n => if 4 ≤ s.ph then (M, s, n) else seekRun f (seekE M s).1 (seekE M s).2.1 (n + 1)
/-- The same, in a memory that stays as it is. -/
def seekFix : Nat → Mem → Sk → Nat → Sk × Nat
  | 0, M, s, n => (s, n)
  | f + 1, M, s, n => if 4 ≤ s.ph then (s, n) else seekFix f M (seekE M s).2.1 (n + 1)
theorem seekRun_end {f : Nat} {M : Mem} {s : Sk} {n : Nat} (h : 4 ≤ s.ph) : seekRun f M s n = (M, s, n) := by
  cases f with
  | zero => rfl
  | succ f => unfold seekRun; rw [if_pos h]
theorem seekFix_end {f : Nat} {M : Mem} {s : Sk} {n : Nat} (h : 4 ≤ s.ph) : seekFix f M s n = (s, n) := by
  cases f with
  | zero => rfl
  | succ f => unfold seekFix; rw [if_pos h]
theorem seekRun_step {f : Nat} {M M' : Mem} {s s' : Sk} {b : Bool} {n : Nat} (h : ¬ 4 ≤ s.ph) (e : seekE M s = (M', s', b)) : seekRun (f + 1) M s n = seekRun f M' s' (n + 1) := by
  conv => lhs; unfold seekRun
  rw [if_neg h, e]
theorem seekFix_step {f : Nat} {M M' : Mem} {s s' : Sk} {b : Bool} {n : Nat} (h : ¬ 4 ≤ s.ph) (e : seekE M s = (M', s', b)) : seekFix (f + 1) M s n = seekFix f M s' (n + 1) := by
  conv => lhs; unfold seekFix
  rw [if_neg h, e]
/-- What seeking comes to in a list of nodes. -/
def findS (hash key : Nat) : Nat → List Nd → Sk × Nat
  | link, [] => (⟨4, hash, key, link, 0, 0, false⟩, 1)
  | link, x :: r => if x.2.2.2 < hash then ((findS hash key (x.1 + 2) r).1, (findS hash key (x.1 + 2) r).2 + 2)
    else if hash < x.2.2.2 then (⟨4, hash, key, link, x.1, 0, false⟩, 2)
    else if x.2.1 < key then ((findS hash key (x.1 + 2) r).1, (findS hash key (x.1 + 2) r).2 + 3)
    else if key < x.2.1 then (⟨4, hash, key, link, x.1, 0, false⟩, 3)
    else (⟨4, hash, key, link, x.1, x.2.2.1, true⟩, 4)
theorem findS_ph (hash key : Nat) : ∀ (link : Nat) (xs : List Nd), (findS hash key link xs).1.ph = 4
  | link, [] => rfl
  | link, x :: r => by
    unfold findS
    split
    · exact findS_ph hash key _ r
    · split
      · rfl
      · split
        · exact findS_ph hash key _ r
        · split <;> rfl
theorem findS_len (hash key : Nat) : ∀ (link : Nat) (xs : List Nd), (findS hash key link xs).2 ≤ 4 * xs.length + 1
  | link, [] => by unfold findS; simp
  | link, x :: r => by
    have := findS_len hash key (x.1 + 2) r
    unfold findS
    simp only [List.length_cons]
    repeat' split
    all_goals simp only []
    all_goals omega
theorem seekE_eq {M : Mem} {s : Sk} {q x : Nat} (ph : Nat) (hph : s.ph = ph) (h4 : ph < 4) (hq : needS s ph = q) (hl : liveN M q = true) (hx : M.W.getD q 0 = x) : seekE M s = (M, thenS s x ph, true) := by
  unfold seekE
  have e : s.ph.toNat = ph := by omega
  rw [if_neg (by omega), e, hq, load_live hl, hx]
  rfl
/-- Seeking steps from node to node. -/
theorem seek_chain {M : Mem} (hok : okM M = true) (hash key : Nat) : ∀ (xs : List Nd) (link nd n F : Nat), liveN M (posL link 0) = true → ChainP M (wAt M link 0) xs → 4 * xs.length + 1 ≤ F →
    seekRun F M ⟨0, hash, key, link, nd, 0, false⟩ n = (M, (findS hash key link xs).1, n + (findS hash key link xs).2) ∧
    seekFix F M ⟨0, hash, key, link, nd, 0, false⟩ n = ((findS hash key link xs).1, n + (findS hash key link xs).2)
  | [], link, nd, n, F, hl, hc, hF => by
    obtain ⟨F, rfl⟩ : ∃ g, F = g + 1 := ⟨F - 1, by simp at hF; omega⟩
    have hc0 : wAt M link 0 = 0 := hc
    have e := seekE_eq (M := M) (s := ⟨0, hash, key, link, nd, 0, false⟩) (q := posL link 0) (x := 0) 0 rfl (by decide) rfl hl hc0
    have h4 : ¬ 4 ≤ (⟨0, hash, key, link, nd, 0, false⟩ : Sk).ph := by show ¬ (4 : Int) ≤ 0; decide
    rw [seekRun_step h4 e, seekFix_step h4 e, seekRun_end (by show (4 : Int) ≤ 4; decide), seekFix_end (by show (4 : Int) ≤ 4; decide)]
    exact ⟨rfl, rfl⟩
  | x :: r, link, nd, n, F, hl, hc, hF => by
    obtain ⟨hx, hp0, hlv, hr⟩ := hc
    obtain ⟨p, hp⟩ : ∃ p, wAt M link 0 = p := ⟨_, rfl⟩
    rw [hp] at hx hp0 hlv hr
    subst hx
    simp only [List.length_cons] at hF
    obtain ⟨F, rfl⟩ : ∃ g, F = g + 4 := ⟨F - 4, by omega⟩
    obtain ⟨hs1, hs2, hs3⟩ := live_small hok (hlv 2 (by decide))
    have hmod : (p + 2) % 18446744073709551616 = p + 2 := by omega
    have hpl : posL (p + 2) 0 = posL p 2 := by rw [hs2]; unfold posL; obtain ⟨a, b, -⟩ := okM_spec hok; omega
    have hwn : wAt M (p + 2) 0 = wAt M p 2 := by unfold wAt; rw [hpl]
    have hlive2 : liveN M (posL (p + 2) 0) = true := by rw [hpl]; exact hlv 2 (by decide)
    have e0 := seekE_eq (M := M) (s := ⟨0, hash, key, link, nd, 0, false⟩) (q := posL link 0) (x := p) 0 rfl (by decide) rfl hl hp
    have t0 : thenS ⟨0, hash, key, link, nd, 0, false⟩ p 0 = ⟨1, hash, key, link, p, 0, false⟩ := by
      show (⟨if p = 0 then 4 else 1, hash, key, link, p, 0, false⟩ : Sk) = _
      rw [if_neg hp0]
    rw [t0] at e0
    have e1 := seekE_eq (M := M) (s := ⟨1, hash, key, link, p, 0, false⟩) (q := posL p 3) (x := wAt M p 3) 1 rfl (by decide) rfl (hlv 3 (by decide)) rfl
    have n0 : ¬ 4 ≤ (⟨0, hash, key, link, nd, 0, false⟩ : Sk).ph := by show ¬ (4 : Int) ≤ 0; decide
    have n1 : ¬ 4 ≤ (⟨1, hash, key, link, p, 0, false⟩ : Sk).ph := by show ¬ (4 : Int) ≤ 1; decide
    rw [seekRun_step n0 e0, seekFix_step n0 e0, seekRun_step n1 e1, seekFix_step n1 e1]
    show seekRun (F + 1 + 1) M (cmpS ⟨1, hash, key, link, p, 0, false⟩ (wAt M p 3) hash 2) (n + 1 + 1) = _ ∧ seekFix (F + 1 + 1) M (cmpS ⟨1, hash, key, link, p, 0, false⟩ (wAt M p 3) hash 2) (n + 1 + 1) = _
    have hf : findS hash key link (ndAt M p :: r) = if wAt M p 3 < hash then ((findS hash key (p + 2) r).1, (findS hash key (p + 2) r).2 + 2)
      else if hash < wAt M p 3 then (⟨4, hash, key, link, p, 0, false⟩, 2)
      else if wAt M p 0 < key then ((findS hash key (p + 2) r).1, (findS hash key (p + 2) r).2 + 3)
      else if key < wAt M p 0 then (⟨4, hash, key, link, p, 0, false⟩, 3)
      else (⟨4, hash, key, link, p, wAt M p 1, true⟩, 4) := rfl
    rw [hf]
    unfold cmpS
    split
    · dsimp only
      rw [hmod]
      obtain ⟨i1, i2⟩ := seek_chain hok hash key r (p + 2) p (n + 1 + 1) (F + 1 + 1) hlive2 (by rw [hwn]; exact hr) (by omega)
      rw [i1, i2]
      exact ⟨by rw [show n + 1 + 1 + (findS hash key (p + 2) r).2 = n + ((findS hash key (p + 2) r).2 + 2) by omega], by rw [show n + 1 + 1 + (findS hash key (p + 2) r).2 = n + ((findS hash key (p + 2) r).2 + 2) by omega]⟩
    · split
      · rw [seekRun_end (by show (4 : Int) ≤ 4; decide), seekFix_end (by show (4 : Int) ≤ 4; decide)]
        exact ⟨rfl, rfl⟩
      · have e2 := seekE_eq (M := M) (s := ⟨2, hash, key, link, p, 0, false⟩) (q := posL p 0) (x := wAt M p 0) 2 rfl (by decide) rfl (hlv 0 (by decide)) rfl
        have n2 : ¬ 4 ≤ (⟨2, hash, key, link, p, 0, false⟩ : Sk).ph := by show ¬ (4 : Int) ≤ 2; decide
        rw [seekRun_step n2 e2, seekFix_step n2 e2]
        show seekRun (F + 1) M (cmpS ⟨2, hash, key, link, p, 0, false⟩ (wAt M p 0) key 3) (n + 1 + 1 + 1) = _ ∧ seekFix (F + 1) M (cmpS ⟨2, hash, key, link, p, 0, false⟩ (wAt M p 0) key 3) (n + 1 + 1 + 1) = _
        unfold cmpS
        split
        · dsimp only
          rw [hmod]
          obtain ⟨i1, i2⟩ := seek_chain hok hash key r (p + 2) p (n + 1 + 1 + 1) (F + 1) hlive2 (by rw [hwn]; exact hr) (by omega)
          rw [i1, i2]
          exact ⟨by rw [show n + 1 + 1 + 1 + (findS hash key (p + 2) r).2 = n + ((findS hash key (p + 2) r).2 + 3) by omega], by rw [show n + 1 + 1 + 1 + (findS hash key (p + 2) r).2 = n + ((findS hash key (p + 2) r).2 + 3) by omega]⟩
        · split
          · rw [seekRun_end (by show (4 : Int) ≤ 4; decide), seekFix_end (by show (4 : Int) ≤ 4; decide)]
            exact ⟨rfl, rfl⟩
          · have e3 := seekE_eq (M := M) (s := ⟨3, hash, key, link, p, 0, false⟩) (q := posL p 1) (x := wAt M p 1) 3 rfl (by decide) rfl (hlv 1 (by decide)) rfl
            have n3 : ¬ 4 ≤ (⟨3, hash, key, link, p, 0, false⟩ : Sk).ph := by show ¬ (4 : Int) ≤ 3; decide
            rw [seekRun_step n3 e3, seekFix_step n3 e3, seekRun_end (by show (4 : Int) ≤ 4; decide), seekFix_end (by show (4 : Int) ≤ 4; decide)]
            exact ⟨rfl, rfl⟩
/-- The words of a list. -/
def wordsL (head : Nat) (xs : List Nd) : List Nat := posL head 0 :: xs.flatMap fun x => [posL x.1 0, posL x.1 1, posL x.1 2, posL x.1 3]
theorem goW_words {M : Mem} : ∀ (f place : Nat) (met : List Nat) (out xs : List Nd), goW M f place met out = some xs → (∀ x ∈ met, x < M.L.length) → met.Nodup → ∃ r, xs = out ++ r ∧ (met ++ r.flatMap fun x => [posL x.1 0, posL x.1 1, posL x.1 2, posL x.1 3]).Nodup ∧ (∀ x ∈ r.flatMap fun x => [posL x.1 0, posL x.1 1, posL x.1 2, posL x.1 3], liveN M x = true)
  | 0, place, met, out, xs, h, _, _ => by unfold goW at h; cases h
  | f + 1, place, met, out, xs, h, hm, hn => by
    by_cases h0 : place = 0
    · subst h0
      rw [goW_zero] at h
      cases h
      exact ⟨[], by simp, by simpa using hn, by simp⟩
    · cases ht : takeP M place (List.range 4) met with
      | none => rw [goW_none h0 ht] at h; cases h
      | some m2 =>
        rw [goW_some h0 ht] at h
        obtain ⟨s1, s2, s3, s4⟩ := takeP_spec M place _ _ _ ht
        have hm2 : m2 = met ++ [posL place 0, posL place 1, posL place 2, posL place 3] := by
          have e := ht
          rw [show List.range 4 = [0, 1, 2, 3] from rfl] at e
          unfold takeP at e
          split at e
          · unfold takeP at e
            split at e
            · unfold takeP at e
              split at e
              · unfold takeP at e
                split at e
                · unfold takeP at e
                  cases e
                  simp
                · cases e
              · cases e
            · cases e
          · cases e
        obtain ⟨r, e, hr1, hr2⟩ := goW_words f _ _ _ _ h (fun x hx => (s4 x hx).elim (hm x) live_lt) (s2 hn)
        refine ⟨ndAt M place :: r, by rw [e]; simp, ?_, ?_⟩
        · rw [hm2] at hr1
          rw [List.flatMap_cons, ← List.append_assoc]
          exact hr1
        · intro x hx
          rw [List.flatMap_cons] at hx
          rcases List.mem_append.1 hx with hx | hx
          · simp only [List.mem_cons, List.not_mem_nil, or_false] at hx
            rcases hx with rfl | rfl | rfl | rfl
            · exact s1 0 (by simp)
            · exact s1 1 (by simp)
            · exact s1 2 (by simp)
            · exact s1 3 (by simp)
          · exact hr2 x hx
theorem nodesW_words {M : Mem} {head : Nat} {xs : List Nd} (h : nodesW M head = some xs) : (wordsL head xs).Nodup ∧ ∀ x ∈ wordsL head xs, liveN M x = true := by
  cases ht : takeP M head [0] [] with
  | none => rw [nodesW_none ht] at h; cases h
  | some m0 =>
    have hl := (takeP_spec M head _ _ _ ht).1 0 (by simp)
    have hm0 : m0 = [posL head 0] := by
      have e := ht
      unfold takeP at e
      split at e
      · unfold takeP at e; cases e; rfl
      · cases e
    rw [nodesW_some ht, hm0] at h
    obtain ⟨r, e, h1, h2⟩ := goW_words _ _ _ _ _ h (by intro x hx; simp at hx; subst hx; exact live_lt hl) (by simp)
    have e' : xs = r := by simpa using e
    subst e'
    refine ⟨h1, ?_⟩
    intro x hx
    rcases List.mem_cons.1 hx with rfl | hx
    · exact hl
    · exact h2 x hx
theorem flat4_len (xs : List Nd) : (xs.flatMap fun x => [posL x.1 0, posL x.1 1, posL x.1 2, posL x.1 3]).length = 4 * xs.length := by
  induction xs with
  | nil => rfl
  | cons x xs ih => simp only [List.flatMap_cons, List.length_append, ih, List.length_cons, List.length_nil]; omega
theorem nodesW_len {M : Mem} {head : Nat} {xs : List Nd} (hok : okM M = true) (h : nodesW M head = some xs) : 4 * xs.length + 1 ≤ 4096 := by
  obtain ⟨h1, h2⟩ := nodesW_words h
  obtain ⟨q1, q2, q3, -⟩ := okM_spec hok
  have := nodup_lt (n := M.L.length) h1 (fun x hx => live_lt (h2 x hx))
  have e : (wordsL head xs).length = 4 * xs.length + 1 := by unfold wordsL; rw [List.length_cons, flat4_len]
  omega
theorem find_run {M : Mem} {head : Nat} {xs : List Nd} (hok : okM M = true) (h : nodesR M head = some xs) (hash key : Nat) :
    seekRun 4200 M ⟨0, hash, key, head, 0, 0, false⟩ 0 = (M, findS hash key head xs) ∧ seekFix 4200 M ⟨0, hash, key, head, 0, 0, false⟩ 0 = findS hash key head xs := by
  obtain ⟨hw, -⟩ := nodesR_some h
  obtain ⟨h1, h2⟩ := nodesW_chain hw
  have hl := nodesW_len hok hw
  have := seek_chain hok hash key xs head 0 0 4200 h1 h2 (by omega)
  rw [Nat.zero_add] at this
  exact this
/-- Who edits, step by step. -/
def editRun : Nat → Mem → Ede → Nat → Mem × Ede × Nat
  | 0, M, s, n => (M, s, n)
  | f + 1, M, s, n => if 6 ≤ s.ph then (M, s, n) else editRun f (editE M s).1 (editE M s).2.1 (n + 1)
theorem editRun_end {f : Nat} {M : Mem} {s : Ede} {n : Nat} (h : 6 ≤ s.ph) : editRun f M s n = (M, s, n) := by
  cases f with
  | zero => rfl
  | succ f => unfold editRun; rw [if_pos h]
theorem editE_ok {M : Mem} {s : Ede} (hok : okM M = true) (hW : ∀ x ∈ M.W, x < 18446744073709551616) (hs : s.Ok) (h0 : 0 ≤ s.ph) (h7 : s.ph ≤ 7) : okM (editE M s).1 = true ∧ (∀ x ∈ (editE M s).1.W, x < 18446744073709551616) ∧ (editE M s).2.1.Ok ∧ (s.ph < 6 → s.ph < (editE M s).2.1.ph ∧ (editE M s).2.1.ph ≤ 7) ∧ (editE M s).1.W.length = M.W.length ∧ (editE M s).1.L = M.L ∧ (s.ph < 6 → (editE M s).2.2 = true) ∧ (6 ≤ s.ph → (editE M s) = (M, s, false)) := by
  have key : ∀ (st : Bool) (q new : Nat), new < 18446744073709551616 → okM (stepM M st ((q : Nat) : Int) new).1 = true ∧ (∀ x ∈ (stepM M st ((q : Nat) : Int) new).1.W, x < 18446744073709551616) ∧ (stepM M st ((q : Nat) : Int) new).2.1 < 18446744073709551616 ∧ (stepM M st ((q : Nat) : Int) new).1.W.length = M.W.length ∧ (stepM M st ((q : Nat) : Int) new).1.L = M.L := by
    intro st q new hnew
    obtain ⟨q1, q2, q3, q4⟩ := okM_spec hok
    unfold stepM
    rw [liveAt_eq]
    cases hl : liveN M q with
    | false =>
      rw [if_neg (by decide)]
      refine ⟨?_, hW, by show (0 : Nat) < _; decide, rfl, rfl⟩
      unfold okM at hok ⊢
      exact hok
    | true =>
      rw [if_pos rfl]
      have hd : M.W.getD q 0 < 18446744073709551616 := by
        rw [List.getD_eq_getElem?_getD]
        cases h : M.W[q]? with
        | none => simp
        | some x => exact hW x (List.mem_of_getElem? h)
      rw [Int.toNat_natCast]
      cases st with
      | false => exact ⟨hok, hW, hd, rfl, rfl⟩
      | true =>
        refine ⟨?_, ?_, hd, by simp, rfl⟩
        · rw [if_pos rfl]
          unfold okM
          simp only [List.length_set]
          rw [decide_eq_true q1, decide_eq_true q2, decide_eq_true q3]
          simp only [Bool.true_and]
          rw [List.all_eq_true]
          intro p hp
          obtain ⟨i, hi⟩ := List.mem_iff_getElem?.1 hp
          rw [List.getElem?_zip_eq_some] at hi
          obtain ⟨i1, i2⟩ := hi
          by_cases hiq : q = i
          · subst hiq
            unfold liveN at hl
            rw [i2] at hl
            have : p.2 = true := by simpa using hl
            unfold wordOk
            rw [this]; rfl
          · rw [List.getElem?_set_ne hiq] at i1
            have := List.all_eq_true.1 q4 p (List.mem_iff_getElem?.2 ⟨i, by rw [List.getElem?_zip_eq_some]; exact ⟨i1, i2⟩⟩)
            exact this
        · intro x hx
          rw [if_pos rfl] at hx
          rcases List.mem_or_eq_of_mem_set hx with h | h
          · exact hW x h
          · rw [h]; exact hnew
  by_cases h6 : 6 ≤ s.ph
  · have e : editE M s = (M, s, false) := by unfold editE; rw [if_pos h6]
    rw [e]
    exact ⟨hok, hW, hs, fun h => by omega, rfl, rfl, fun h => by omega, fun _ => rfl⟩
  · obtain ⟨ph, cuts, link, at_, k, v, hh, nx⟩ := s
    obtain ⟨hs0, hs1, hs2, hs3, hs4, hs5, hs6⟩ := hs
    dsimp only at *
    have hn : (needE ⟨ph, cuts, link, at_, k, v, hh, nx⟩ ph.toNat).2.2 < 18446744073709551616 := by
      unfold needE
      split <;> dsimp only <;> first | assumption | decide | (split <;> assumption)
    have hk := key (ph != 4) ((needE ⟨ph, cuts, link, at_, k, v, hh, nx⟩ ph.toNat).2.1) _ hn
    obtain ⟨k1, k2, k3, k4, k5⟩ := hk
    have hnx : ph < nextE ph.toNat ∧ nextE ph.toNat ≤ 6 := by
      rcases (show ph = 0 ∨ ph = 1 ∨ ph = 2 ∨ ph = 3 ∨ ph = 4 ∨ ph = 5 by omega) with e | e | e | e | e | e <;> subst e <;> decide
    have e : ∀ M' x d, stepM M (ph != 4) (((needE ⟨ph, cuts, link, at_, k, v, hh, nx⟩ ph.toNat).2.1 : Nat) : Int) (needE ⟨ph, cuts, link, at_, k, v, hh, nx⟩ ph.toNat).2.2 = (M', x, d) →
        editE M ⟨ph, cuts, link, at_, k, v, hh, nx⟩ = (M', if d = true then ⟨nextE ph.toNat, cuts, link, at_, k, v, hh, if ph = 4 then x else nx⟩ else ⟨7, cuts, link, at_, k, v, hh, nx⟩, true) := by
      intro M' x d he
      unfold editE
      rw [if_neg h6]
      dsimp only
      rw [he]
    obtain ⟨⟨M', x, d⟩, hX⟩ : ∃ X, stepM M (ph != 4) (((needE ⟨ph, cuts, link, at_, k, v, hh, nx⟩ ph.toNat).2.1 : Nat) : Int) (needE ⟨ph, cuts, link, at_, k, v, hh, nx⟩ ph.toNat).2.2 = X := ⟨_, rfl⟩
    rw [hX] at k1 k2 k3 k4 k5
    rw [e _ _ _ hX]
    dsimp only at k1 k2 k3 k4 k5 ⊢
    refine ⟨k1, k2, ?_, fun _ => ?_, k4, k5, fun _ => rfl, fun h => absurd h h6⟩
    · split
      · refine ⟨by dsimp only; omega, hs1, hs2, hs3, hs4, hs5, ?_⟩
        dsimp only
        split
        · exact k3
        · exact hs6
      · exact ⟨by dsimp only; decide, hs1, hs2, hs3, hs4, hs5, hs6⟩
    · split
      · dsimp only; omega
      · dsimp only; omega
end Go.Proofs.YtahicokokfcieaaGreatDoor
namespace Go.Proofs.YtahicokokfcieaaGreatDoor
open Go.RowKit
open Go.Proofs
set_option linter.unusedVariables false
attribute [local go_sem] Oper.semAt_some
theorem Tch.drop {R S : Nat} {V W : World} (h : Tch (fun k => k = R ∨ k = S) V W) (hS : V.heap.size ≤ S) : Tch (fun k => k = R) V W :=
  ⟨h.os, h.tape, h.output, h.size, fun k hk hn => h.block k hk (by rintro (e | e) <;> omega)⟩
theorem stepM_load_ok {M : Mem} {q : Nat} (hok : okM M = true) (hW : ∀ x ∈ M.W, x < 18446744073709551616) : okM (stepM M false ((q : Nat) : Int) 0).1 = true ∧ (∀ x ∈ (stepM M false ((q : Nat) : Int) 0).1.W, x < 18446744073709551616) ∧ (stepM M false ((q : Nat) : Int) 0).2.1 < 18446744073709551616 := by
  unfold stepM
  split
  · refine ⟨hok, hW, ?_⟩
    dsimp only
    rw [List.getD_eq_getElem?_getD]
    cases h : M.W[((q : Nat) : Int).toNat]? with
    | none => simp
    | some x => exact hW x (List.mem_of_getElem? h)
  · exact ⟨by unfold okM at hok ⊢; exact hok, hW, by show (0 : Nat) < _; decide⟩
theorem cmpS_ok {s : Sk} {n want : Nat} {ph : Int} (hs : s.Ok) (h0 : 0 ≤ ph) (h5 : ph ≤ 5) : (cmpS s n want ph).Ok ∧ 0 ≤ (cmpS s n want ph).ph ∧ (cmpS s n want ph).ph ≤ 5 := by
  unfold cmpS
  split
  · exact ⟨⟨by dsimp only; decide, hs.hash, hs.key, Nat.mod_lt _ (by decide), hs.node, hs.val⟩, by dsimp only; decide, by dsimp only; decide⟩
  · split
    · exact ⟨⟨by dsimp only; decide, hs.hash, hs.key, hs.link, hs.node, hs.val⟩, by dsimp only; decide, by dsimp only; decide⟩
    · exact ⟨⟨by dsimp only; omega, hs.hash, hs.key, hs.link, hs.node, hs.val⟩, h0, h5⟩
theorem seekE_ok {M : Mem} {s : Sk} (hok : okM M = true) (hW : ∀ x ∈ M.W, x < 18446744073709551616) (hs : s.Ok) (h0 : 0 ≤ s.ph) (h5 : s.ph ≤ 5) : okM (seekE M s).1 = true ∧ (∀ x ∈ (seekE M s).1.W, x < 18446744073709551616) ∧ (seekE M s).2.1.Ok ∧ 0 ≤ (seekE M s).2.1.ph ∧ (seekE M s).2.1.ph ≤ 5 := by
  by_cases h4 : 4 ≤ s.ph
  · have e : seekE M s = (M, s, false) := by unfold seekE; rw [if_pos h4]
    rw [e]
    exact ⟨hok, hW, hs, h0, h5⟩
  · obtain ⟨k1, k2, k3⟩ := stepM_load_ok (q := needS s s.ph.toNat) hok hW
    unfold seekE
    rw [if_neg h4]
    refine ⟨k1, k2, ?_⟩
    dsimp only
    split
    · rcases (show s.ph.toNat = 0 ∨ s.ph.toNat = 1 ∨ s.ph.toNat = 2 ∨ s.ph.toNat = 3 by omega) with e | e | e | e
      · rw [e]
        rw [e] at k3
        generalize (stepM M false ((needS s 0 : Nat) : Int) 0).2.1 = x at k3 ⊢
        have e0 : thenS s x 0 = ⟨if x = 0 then 4 else 1, s.hash, s.key, s.link, x, s.val, s.found⟩ := rfl
        rw [e0]
        by_cases hx : x = 0
        · rw [if_pos hx]; exact ⟨⟨by show -9223372036854775808 ≤ (4 : Int) ∧ (4 : Int) ≤ _; decide, hs.hash, hs.key, hs.link, k3, hs.val⟩, by show (0 : Int) ≤ 4; decide, by show (4 : Int) ≤ 5; decide⟩
        · rw [if_neg hx]; exact ⟨⟨by show -9223372036854775808 ≤ (1 : Int) ∧ (1 : Int) ≤ _; decide, hs.hash, hs.key, hs.link, k3, hs.val⟩, by show (0 : Int) ≤ 1; decide, by show (1 : Int) ≤ 5; decide⟩
      · rw [e]; exact cmpS_ok hs (by decide) (by decide)
      · rw [e]; exact cmpS_ok hs (by decide) (by decide)
      · rw [e]
        rw [e] at k3
        generalize (stepM M false ((needS s 3 : Nat) : Int) 0).2.1 = x at k3 ⊢
        have e0 : thenS s x 3 = ⟨4, s.hash, s.key, s.link, s.node, x, true⟩ := rfl
        rw [e0]
        exact ⟨⟨by show -9223372036854775808 ≤ (4 : Int) ∧ (4 : Int) ≤ _; decide, hs.hash, hs.key, hs.link, hs.node, k3⟩, by show (0 : Int) ≤ 4; decide, by show (4 : Int) ≤ 5; decide⟩
    · exact ⟨⟨by dsimp only; decide, hs.hash, hs.key, hs.link, hs.node, hs.val⟩, by dsimp only; decide, by dsimp only; decide⟩
end Go.Proofs.YtahicokokfcieaaGreatDoor
namespace Go.Proofs.YtahicokokfcieaaGreatDoor
open Go.RowKit
open Go.Proofs
set_option linter.unusedVariables false
attribute [local go_sem] Oper.semAt_some
theorem rat_any (p k : Nat) (V : World) (hp : p < 18446744073709551616) (hk : k ≤ 1000) : Calls Tryz.prog 65 #[.int .u64 ((p : Nat) : Int), .int .i64 ((k : Nat) : Int)] V (fun e W => e = .returned (.int .i64 ((posL p k : Nat) : Int)) ∧ W = V) := by
  by_cases h : 4096 < p
  · have t0 : decide (4096 < ((p : Nat) : Int)) = true := decide_eq_true (by omega)
    have HP : Hid (posL p k = 4096 + k) := hid (by unfold posL; omega)
    clear h
    go_enter Tryz.func65, Tryz.ntmps65
    go_wp2
    go_ret
    exact ⟨reti (by rw [HP.out]; go_num), rfl⟩
  · have t0 : decide (4096 < ((p : Nat) : Int)) = false := decide_eq_false (by omega)
    have HP : Hid (posL p k = p + k) := hid (by unfold posL; omega)
    have hp6 : ((p : Nat) : Int) ≤ 4096 := by omega
    clear h
    go_enter Tryz.func65, Tryz.ntmps65
    go_wp2
    go_ret
    exact ⟨reti (by rw [HP.out]; go_num), rfl⟩
theorem rlive_any (M : Mem) (wa la : Option Addr) (wc lc q : Nat) (V : World) (h : MemL V wa wc la lc M) (hlen : M.L.length = M.W.length) (hq : q ≤ 1000000) :
    Calls Tryz.prog 64 #[memV wa wc la lc M, .int .i64 ((q : Nat) : Int)] V (Ret (.bool (liveN M q)) V) := by
  obtain ⟨V1, hV1, hb1, hs1, hl1⟩ := laid V #[.slice wa M.W.length wc, .slice la M.L.length lc, .bool M.F] 25
  obtain ⟨x0, x1, x2⟩ := cells3 hl1
  have HB1 := hid hb1
  have hwl := h.w.len
  have hll := h.l.len
  have hL := h.l.grow hb1
  unfold memV
  rw [hlen] at x1 hV1 hll hL ⊢
  obtain ⟨n, hn⟩ : ∃ n, M.W.length = n := ⟨_, rfl⟩
  rw [hn] at x0 x1 hV1 hll hwl hL ⊢
  obtain ⟨F, hF⟩ : ∃ n, M.F = n := ⟨_, rfl⟩
  rw [hF] at hV1 ⊢
  have t0 : decide ((0 : Int) ≤ ((q : Nat) : Int)) = true := decide_eq_true (by omega)
  by_cases hlt : q < n
  · have t1 : decide (((q : Nat) : Int) < ((n : Nat) : Int)) = true := decide_eq_true (by omega)
    obtain ⟨b, hb⟩ : ∃ b, M.L[q]? = some b := ⟨_, List.getElem?_eq_getElem (by rw [hlen, hn]; exact hlt)⟩
    obtain ⟨bb, oo, rfl, -, hc⟩ := hL.at hlt (bcell_at hb)
    have f1 := hc _ (Below.refl _ _)
    have HE : Hid (liveN M q = b) := hid (by unfold liveN; rw [hb]; rfl)
    clear h hL hb hc hl1 hs1 hb1 hlen hn hF x2
    go_enter Tryz.func64, Tryz.ntmps64
    go_wp2
    go_ret
    exact ⟨retb HE.out.symm, HB1.out⟩
  · have t1 : decide (((q : Nat) : Int) < ((n : Nat) : Int)) = false := decide_eq_false (by omega)
    have HE : Hid (liveN M q = false) := hid (by unfold liveN; rw [List.getElem?_eq_none (by rw [hlen, hn]; omega)]; rfl)
    clear h hL hl1 hs1 hb1 hlen hn hF x2
    go_enter Tryz.func64, Tryz.ntmps64
    go_wp2
    go_ret
    exact ⟨retb HE.out.symm, HB1.out⟩
def ncells (l : List Nat) : List Value := l.map fun x => .int .i64 ((x : Nat) : Int)
theorem ncell_at {l : List Nat} {k x : Nat} (h : l[k]? = some x) : (ncells l)[k]? = some (.int .i64 ((x : Nat) : Int)) := by unfold ncells; rw [List.getElem?_map, h]; rfl
theorem ncells_app (l r : List Nat) : ncells (l ++ r) = ncells l ++ ncells r := by simp [ncells]
theorem has_any (l : List Nat) (a : Option Addr) (n cap q : Nat) (V : World) (h : Leads V a n cap (ncells l)) (hn : l.length = n) :
    Calls Tryz.prog 66 #[.slice a n cap, .int .i64 ((q : Nat) : Int)] V (fun e W => e = .returned (.bool (decide (q ∈ l))) ∧ W = V) := by
  have hl := h.len
  have H := hid h
  have HN := hid hn
  clear h hn
  go_enter Tryz.func66, Tryz.ntmps66
  go_wp2
  go_loopg [9] n (fun g i wr => ∃ k : Nat, g + k = n ∧ i = .int .i64 (k : Nat) ∧ Hid (∀ x ∈ l.take k, x ≠ q) ∧ wr = V)
  case atStart => exact ⟨0, rfl, rfl, hid (by simp), rfl⟩
  case round =>
    obtain ⟨k, hk, rfl, hs, hwr⟩ := hrel
    subst hwr
    have HK := hid hk
    clear hk
    by_cases hlt : k < n
    · obtain ⟨x, hxk⟩ : ∃ x, l[k]? = some x := ⟨_, List.getElem?_eq_getElem (by rw [HN.out]; exact hlt)⟩
      obtain ⟨b, off, rfl, -, hc⟩ := H.out.at hlt (ncell_at hxk)
      have f1 := hc _ (Below.refl _ _)
      have HX := hid hxk
      clear hc hxk
      by_cases he : x = q
      · subst he
        have HE : Hid (decide (x ∈ l) = true) := hid (decide_eq_true (List.mem_of_getElem? HX.out))
        go_wp2
        go_ret
        exact ⟨retb HE.out.symm, rfl⟩
      · have t0 : (((x : Nat) : Int) == ((q : Nat) : Int)) = false := by simp; omega
        have HTK : Hid (∀ y ∈ l.take (k + 1), y ≠ q) := hid (by
          rw [take_snoc HX.out]
          intro y hy
          rcases List.mem_append.1 hy with hy | hy
          · exact hs.out y hy
          · rw [List.mem_singleton] at hy; subst hy; exact he)
        clear he
        go_wp2
        go_roundg (gk - 1)
        case measure => have := HK.out; omega
        case rel => exact ⟨k + 1, by have := HK.out; omega, by go_num, HTK, rfl⟩
    · have e := HK.out
      obtain rfl : k = n := by omega
      have HE : Hid (decide (q ∈ l) = false) := hid (decide_eq_false fun hm => by
        have := hs.out
        rw [List.take_of_length_le (by rw [HN.out]; exact Nat.le_refl _)] at this
        exact this q hm rfl)
      clear hs e HK
      go_wp2
      go_ret
      exact ⟨retb HE.out.symm, rfl⟩
theorem Ahead_any (a b c d : Nat) (V : World) : Calls Tryz.prog 67 #[.int .u64 ((a : Nat) : Int), .int .u64 ((b : Nat) : Int), .int .u64 ((c : Nat) : Int), .int .u64 ((d : Nat) : Int)] V (fun e W => e = .returned (.bool (decide (a < c) || (decide (a = c) && decide (b < d)))) ∧ W = V) := by
  obtain ⟨R, hR⟩ : ∃ R, (decide (a < c) || (decide (a = c) && decide (b < d))) = R := ⟨_, rfl⟩
  rw [hR]
  have HR := hid hR
  clear hR
  go_enter Tryz.func67, Tryz.ntmps67
  by_cases c1 : a < c
  · have t1 : decide (((a : Nat) : Int) < ((c : Nat) : Int)) = true := decide_eq_true (by omega)
    have HE : Hid (R = true) := hid (by rw [← HR.out]; simp [c1])
    go_wp2
    go_ret
    exact ⟨retb HE.out.symm, rfl⟩
  · have t1 : decide (((a : Nat) : Int) < ((c : Nat) : Int)) = false := decide_eq_false (by omega)
    by_cases c2 : a = c
    · have t2 : (((a : Nat) : Int) == ((c : Nat) : Int)) = true := by simp; omega
      by_cases c3 : b < d
      · have t3 : decide (((b : Nat) : Int) < ((d : Nat) : Int)) = true := decide_eq_true (by omega)
        have HE : Hid (R = true) := hid (by rw [← HR.out]; simp [c2, c3])
        clear c2
        go_wp2
        go_ret
        exact ⟨retb HE.out.symm, rfl⟩
      · have t3 : decide (((b : Nat) : Int) < ((d : Nat) : Int)) = false := decide_eq_false (by omega)
        have HE : Hid (R = false) := hid (by rw [← HR.out]; simp [c2, c3])
        clear c2
        go_wp2
        go_ret
        exact ⟨retb HE.out.symm, rfl⟩
    · have t2 : (((a : Nat) : Int) == ((c : Nat) : Int)) = false := by simp; omega
      have HE : Hid (R = false) := hid (by rw [← HR.out]; simp [c1, c2])
      go_wp2
      go_ret
      exact ⟨retb HE.out.symm, rfl⟩
end Go.Proofs.YtahicokokfcieaaGreatDoor
