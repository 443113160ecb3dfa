/- Several texts in one. -/
import Derived.Test.YtahicokokfcieaaDoorTgAn
import Derived.Test.YtahicokokfcieaaDoorTb18
namespace Go.Proofs.YtahicokokfcieaaDoor
open Go.RowKit
open Go.Proofs
set_option linter.unusedVariables false

/-- The places lead on to these nodes. -/
def ChainP (M : Mem) : Nat → List Nd → Prop
  | place, [] => place = 0
  | place, x :: r => x = ndAt M place ∧ place ≠ 0 ∧ (∀ k, k < 4 → liveN M (posL place k) = true) ∧ ChainP M (wAt M place 2) r
theorem goW_chain {M : Mem} : ∀ (f place : Nat) (met : List Nat) (out xs : List Nd), goW M f place met out = some xs → ∃ r, xs = out ++ r ∧ ChainP M place r
  | 0, place, met, out, xs, h => by unfold goW at h; cases h
  | f + 1, place, met, out, xs, h => by
    by_cases h0 : place = 0
    · subst h0
      rw [goW_zero] at h
      cases h
      exact ⟨[], by simp, rfl⟩
    · cases ht : takeP M place (List.range 4) met with
      | none => rw [goW_none h0 ht] at h; cases h
      | some m2 =>
        rw [goW_some h0 ht] at h
        obtain ⟨r, e, hr⟩ := goW_chain f _ _ _ _ h
        refine ⟨ndAt M place :: r, by rw [e]; simp, rfl, h0, ?_, hr⟩
        intro k hk
        exact (takeP_spec M place _ _ _ ht).1 k (by simpa using hk)
theorem nodesW_chain {M : Mem} {head : Nat} {xs : List Nd} (h : nodesW M head = some xs) : liveN M (posL head 0) = true ∧ ChainP M (wAt M head 0) xs := by
  cases ht : takeP M head [0] [] with
  | none => rw [nodesW_none ht] at h; cases h
  | some m0 =>
    rw [nodesW_some ht] at h
    obtain ⟨r, e, hr⟩ := goW_chain _ _ _ _ _ h
    refine ⟨(takeP_spec M head _ _ _ ht).1 0 (by simp), ?_⟩
    rw [e]; exact hr
theorem nodesR_some {M : Mem} {head : Nat} {xs : List Nd} (h : nodesR M head = some xs) : nodesW M head = some xs ∧ incr xs = true := by
  unfold nodesR at h
  cases hw : nodesW M head with
  | none => rw [hw] at h; cases h
  | some ys =>
    rw [hw] at h
    dsimp only at h
    split at h
    · cases h; exact ⟨rfl, by assumption⟩
    · cases h
theorem live_small {M : Mem} {p k : Nat} (hok : okM M = true) (h : liveN M (posL p k) = true) : p < 4096 ∧ posL p k = p + k ∧ p + k < M.W.length := by
  obtain ⟨h1, h2, h3, -⟩ := okM_spec hok
  have := live_lt h
  rw [h3] at this
  unfold posL at this ⊢
  omega
theorem liveAt_eq (M : Mem) (q : Nat) : liveAt M ((q : Nat) : Int) = liveN M q := by
  unfold liveAt liveN
  rw [Int.toNat_natCast]
  have : decide ((0 : Int) ≤ ((q : Nat) : Int)) = true := decide_eq_true (by omega)
  rw [this, Bool.true_and]
theorem load_live {M : Mem} {q : Nat} (h : liveN M q = true) (new : Nat) : stepM M false ((q : Nat) : Int) new = (M, M.W.getD q 0, true) := by
  unfold stepM
  rw [liveAt_eq, h, if_pos rfl, Int.toNat_natCast]
  rfl
theorem store_live {M : Mem} {q : Nat} (h : liveN M q = true) (new : Nat) : stepM M true ((q : Nat) : Int) new = (⟨M.W.set q new, M.L, M.F⟩, M.W.getD q 0, true) := by
  unfold stepM
  rw [liveAt_eq, h, if_pos rfl, Int.toNat_natCast]
  rfl
/-- Who seeks, step by step. -/
def seekRun : Nat → Mem → Sk → Nat → Mem × Sk × Nat
  | 0, M, s, n => (M, s, n)
  | f + 1, M, s, n => if 4 ≤ s.ph then (M, s, n) else seekRun f (seekE M s).1 (seekE M s).2.1 (n + 1)
/-- The same, in a memory that stays as it is. -/
def seekFix : Nat → Mem → Sk → Nat → Sk × Nat
  | 0, M, s, n => (s, n)
  | f + 1, M, s, n => if 4 ≤ s.ph then (s, n) else seekFix f M (seekE M s).2.1 (n + 1)
theorem seekRun_end {f : Nat} {M : Mem} {s : Sk} {n : Nat} (h : 4 ≤ s.ph) : seekRun f M s n = (M, s, n) := by
  cases f with
  | zero => rfl
  | succ f => unfold seekRun; rw [if_pos h]
theorem seekFix_end {f : Nat} {M : Mem} {s : Sk} {n : Nat} (h : 4 ≤ s.ph) : seekFix f M s n = (s, n) := by
  cases f with
  | zero => rfl
  | succ f => unfold seekFix; rw [if_pos h]
theorem seekRun_step {f : Nat} {M M' : Mem} {s s' : Sk} {b : Bool} {n : Nat} (h : ¬ 4 ≤ s.ph) (e : seekE M s = (M', s', b)) : seekRun (f + 1) M s n = seekRun f M' s' (n + 1) := by
  conv => lhs; unfold seekRun
  rw [if_neg h, e]
theorem seekFix_step {f : Nat} {M M' : Mem} {s s' : Sk} {b : Bool} {n : Nat} (h : ¬ 4 ≤ s.ph) (e : seekE M s = (M', s', b)) : seekFix (f + 1) M s n = seekFix f M s' (n + 1) := by
  conv => lhs; unfold seekFix
  rw [if_neg h, e]
/-- What seeking comes to in a list of nodes. -/
def findS (hash key : Nat) : Nat → List Nd → Sk × Nat
  | link, [] => (⟨4, hash, key, link, 0, 0, false⟩, 1)
  | link, x :: r => if x.2.2.2 < hash then ((findS hash key (x.1 + 2) r).1, (findS hash key (x.1 + 2) r).2 + 2)
    else if hash < x.2.2.2 then (⟨4, hash, key, link, x.1, 0, false⟩, 2)
    else if x.2.1 < key then ((findS hash key (x.1 + 2) r).1, (findS hash key (x.1 + 2) r).2 + 3)
    else if key < x.2.1 then (⟨4, hash, key, link, x.1, 0, false⟩, 3)
    else (⟨4, hash, key, link, x.1, x.2.2.1, true⟩, 4)
theorem findS_ph (hash key : Nat) : ∀ (link : Nat) (xs : List Nd), (findS hash key link xs).1.ph = 4
  | link, [] => rfl
  | link, x :: r => by
    unfold findS
    split
    · exact findS_ph hash key _ r
    · split
      · rfl
      · split
        · exact findS_ph hash key _ r
        · split <;> rfl
theorem findS_len (hash key : Nat) : ∀ (link : Nat) (xs : List Nd), (findS hash key link xs).2 ≤ 4 * xs.length + 1
  | link, [] => by unfold findS; simp
  | link, x :: r => by
    have := findS_len hash key (x.1 + 2) r
    unfold findS
    simp only [List.length_cons]
    repeat' split
    all_goals simp only []
    all_goals omega
theorem seekE_eq {M : Mem} {s : Sk} {q x : Nat} (ph : Nat) (hph : s.ph = ph) (h4 : ph < 4) (hq : needS s ph = q) (hl : liveN M q = true) (hx : M.W.getD q 0 = x) : seekE M s = (M, thenS s x ph, true) := by
  unfold seekE
  have e : s.ph.toNat = ph := by omega
  rw [if_neg (by omega), e, hq, load_live hl, hx]
  rfl
/-- Seeking steps from node to node. -/
theorem seek_chain {M : Mem} (hok : okM M = true) (hash key : Nat) : ∀ (xs : List Nd) (link nd n F : Nat), liveN M (posL link 0) = true → ChainP M (wAt M link 0) xs → 4 * xs.length + 1 ≤ F →
    seekRun F M ⟨0, hash, key, link, nd, 0, false⟩ n = (M, (findS hash key link xs).1, n + (findS hash key link xs).2) ∧
    seekFix F M ⟨0, hash, key, link, nd, 0, false⟩ n = ((findS hash key link xs).1, n + (findS hash key link xs).2)
  | [], link, nd, n, F, hl, hc, hF => by
    obtain ⟨F, rfl⟩ : ∃ g, F = g + 1 := ⟨F - 1, by simp at hF; omega⟩
    have hc0 : wAt M link 0 = 0 := hc
    have e := seekE_eq (M := M) (s := ⟨0, hash, key, link, nd, 0, false⟩) (q := posL link 0) (x := 0) 0 rfl (by decide) rfl hl hc0
    have h4 : ¬ 4 ≤ (⟨0, hash, key, link, nd, 0, false⟩ : Sk).ph := by show ¬ (4 : Int) ≤ 0; decide
    rw [seekRun_step h4 e, seekFix_step h4 e, seekRun_end (by show (4 : Int) ≤ 4; decide), seekFix_end (by show (4 : Int) ≤ 4; decide)]
    exact ⟨rfl, rfl⟩
  | x :: r, link, nd, n, F, hl, hc, hF => by
    obtain ⟨hx, hp0, hlv, hr⟩ := hc
    obtain ⟨p, hp⟩ : ∃ p, wAt M link 0 = p := ⟨_, rfl⟩
    rw [hp] at hx hp0 hlv hr
    subst hx
    simp only [List.length_cons] at hF
    obtain ⟨F, rfl⟩ : ∃ g, F = g + 4 := ⟨F - 4, by omega⟩
    obtain ⟨hs1, hs2, hs3⟩ := live_small hok (hlv 2 (by decide))
    have hmod : (p + 2) % 18446744073709551616 = p + 2 := by omega
    have hpl : posL (p + 2) 0 = posL p 2 := by rw [hs2]; unfold posL; obtain ⟨a, b, -⟩ := okM_spec hok; omega
    have hwn : wAt M (p + 2) 0 = wAt M p 2 := by unfold wAt; rw [hpl]
    have hlive2 : liveN M (posL (p + 2) 0) = true := by rw [hpl]; exact hlv 2 (by decide)
    have e0 := seekE_eq (M := M) (s := ⟨0, hash, key, link, nd, 0, false⟩) (q := posL link 0) (x := p) 0 rfl (by decide) rfl hl hp
    have t0 : thenS ⟨0, hash, key, link, nd, 0, false⟩ p 0 = ⟨1, hash, key, link, p, 0, false⟩ := by
      show (⟨if p = 0 then 4 else 1, hash, key, link, p, 0, false⟩ : Sk) = _
      rw [if_neg hp0]
    rw [t0] at e0
    have e1 := seekE_eq (M := M) (s := ⟨1, hash, key, link, p, 0, false⟩) (q := posL p 3) (x := wAt M p 3) 1 rfl (by decide) rfl (hlv 3 (by decide)) rfl
    have n0 : ¬ 4 ≤ (⟨0, hash, key, link, nd, 0, false⟩ : Sk).ph := by show ¬ (4 : Int) ≤ 0; decide
    have n1 : ¬ 4 ≤ (⟨1, hash, key, link, p, 0, false⟩ : Sk).ph := by show ¬ (4 : Int) ≤ 1; decide
    rw [seekRun_step n0 e0, seekFix_step n0 e0, seekRun_step n1 e1, seekFix_step n1 e1]
    show seekRun (F + 1 + 1) M (cmpS ⟨1, hash, key, link, p, 0, false⟩ (wAt M p 3) hash 2) (n + 1 + 1) = _ ∧ seekFix (F + 1 + 1) M (cmpS ⟨1, hash, key, link, p, 0, false⟩ (wAt M p 3) hash 2) (n + 1 + 1) = _
    have hf : findS hash key link (ndAt M p :: r) = if wAt M p 3 < hash then ((findS hash key (p + 2) r).1, (findS hash key (p + 2) r).2 + 2)
      else if hash < wAt M p 3 then (⟨4, hash, key, link, p, 0, false⟩, 2)
      else if wAt M p 0 < key then ((findS hash key (p + 2) r).1, (findS hash key (p + 2) r).2 + 3)
      else if key < wAt M p 0 then (⟨4, hash, key, link, p, 0, false⟩, 3)
      else (⟨4, hash, key, link, p, wAt M p 1, true⟩, 4) := rfl
    rw [hf]
    unfold cmpS
    split
    · dsimp only
      rw [hmod]
      obtain ⟨i1, i2⟩ := seek_chain hok hash key r (p + 2) p (n + 1 + 1) (F + 1 + 1) hlive2 (by rw [hwn]; exact hr) (by omega)
      rw [i1, i2]
      exact ⟨by rw [show n + 1 + 1 + (findS hash key (p + 2) r).2 = n + ((findS hash key (p + 2) r).2 + 2) by omega], by rw [show n + 1 + 1 + (findS hash key (p + 2) r).2 = n + ((findS hash key (p + 2) r).2 + 2) by omega]⟩
    · split
      · rw [seekRun_end (by show (4 : Int) ≤ 4; decide), seekFix_end (by show (4 : Int) ≤ 4; decide)]
        exact ⟨rfl, rfl⟩
      · have e2 := seekE_eq (M := M) (s := ⟨2, hash, key, link, p, 0, false⟩) (q := posL p 0) (x := wAt M p 0) 2 rfl (by decide) rfl (hlv 0 (by decide)) rfl
        have n2 : ¬ 4 ≤ (⟨2, hash, key, link, p, 0, false⟩ : Sk).ph := by show ¬ (4 : Int) ≤ 2; decide
        rw [seekRun_step n2 e2, seekFix_step n2 e2]
        show seekRun (F + 1) M (cmpS ⟨2, hash, key, link, p, 0, false⟩ (wAt M p 0) key 3) (n + 1 + 1 + 1) = _ ∧ seekFix (F + 1) M (cmpS ⟨2, hash, key, link, p, 0, false⟩ (wAt M p 0) key 3) (n + 1 + 1 + 1) = _
        unfold cmpS
        split
        · dsimp only
          rw [hmod]
          obtain ⟨i1, i2⟩ := seek_chain hok hash key r (p + 2) p (n + 1 + 1 + 1) (F + 1) hlive2 (by rw [hwn]; exact hr) (by omega)
          rw [i1, i2]
          exact ⟨by rw [show n + 1 + 1 + 1 + (findS hash key (p + 2) r).2 = n + ((findS hash key (p + 2) r).2 + 3) by omega], by rw [show n + 1 + 1 + 1 + (findS hash key (p + 2) r).2 = n + ((findS hash key (p + 2) r).2 + 3) by omega]⟩
        · split
          · rw [seekRun_end (by show (4 : Int) ≤ 4; decide), seekFix_end (by show (4 : Int) ≤ 4; decide)]
            exact ⟨rfl, rfl⟩
          · have e3 := seekE_eq (M := M) (s := ⟨3, hash, key, link, p, 0, false⟩) (q := posL p 1) (x := wAt M p 1) 3 rfl (by decide) rfl (hlv 1 (by decide)) rfl
            have n3 : ¬ 4 ≤ (⟨3, hash, key, link, p, 0, false⟩ : Sk).ph := by show ¬ (4 : Int) ≤ 3; decide
            rw [seekRun_step n3 e3, seekFix_step n3 e3, seekRun_end (by show (4 : Int) ≤ 4; decide), seekFix_end (by show (4 : Int) ≤ 4; decide)]
            exact ⟨rfl, rfl⟩
/-- The words of a list. -/
def wordsL (head : Nat) (xs : List Nd) : List Nat := posL head 0 :: xs.flatMap fun x => [posL x.1 0, posL x.1 1, posL x.1 2, posL x.1 3]
theorem goW_words {M : Mem} : ∀ (f place : Nat) (met : List Nat) (out xs : List Nd), goW M f place met out = some xs → (∀ x ∈ met, x < M.L.length) → met.Nodup → ∃ r, xs = out ++ r ∧ (met ++ r.flatMap fun x => [posL x.1 0, posL x.1 1, posL x.1 2, posL x.1 3]).Nodup ∧ (∀ x ∈ r.flatMap fun x => [posL x.1 0, posL x.1 1, posL x.1 2, posL x.1 3], liveN M x = true)
  | 0, place, met, out, xs, h, _, _ => by unfold goW at h; cases h
  | f + 1, place, met, out, xs, h, hm, hn => by
    by_cases h0 : place = 0
    · subst h0
      rw [goW_zero] at h
      cases h
      exact ⟨[], by simp, by simpa using hn, by simp⟩
    · cases ht : takeP M place (List.range 4) met with
      | none => rw [goW_none h0 ht] at h; cases h
      | some m2 =>
        rw [goW_some h0 ht] at h
        obtain ⟨s1, s2, s3, s4⟩ := takeP_spec M place _ _ _ ht
        have hm2 : m2 = met ++ [posL place 0, posL place 1, posL place 2, posL place 3] := by
          have e := ht
          rw [show List.range 4 = [0, 1, 2, 3] from rfl] at e
          unfold takeP at e
          split at e
          · unfold takeP at e
            split at e
            · unfold takeP at e
              split at e
              · unfold takeP at e
                split at e
                · unfold takeP at e
                  cases e
                  simp
                · cases e
              · cases e
            · cases e
          · cases e
        obtain ⟨r, e, hr1, hr2⟩ := goW_words f _ _ _ _ h (fun x hx => (s4 x hx).elim (hm x) live_lt) (s2 hn)
        refine ⟨ndAt M place :: r, by rw [e]; simp, ?_, ?_⟩
        · rw [hm2] at hr1
          rw [List.flatMap_cons, ← List.append_assoc]
          exact hr1
        · intro x hx
          rw [List.flatMap_cons] at hx
          rcases List.mem_append.1 hx with hx | hx
          · simp only [List.mem_cons, List.not_mem_nil, or_false] at hx
            rcases hx with rfl | rfl | rfl | rfl
            · exact s1 0 (by simp)
            · exact s1 1 (by simp)
            · exact s1 2 (by simp)
            · exact s1 3 (by simp)
          · exact hr2 x hx
theorem nodesW_words {M : Mem} {head : Nat} {xs : List Nd} (h : nodesW M head = some xs) : (wordsL head xs).Nodup ∧ ∀ x ∈ wordsL head xs, liveN M x = true := by
  cases ht : takeP M head [0] [] with
  | none => rw [nodesW_none ht] at h; cases h
  | some m0 =>
    have hl := (takeP_spec M head _ _ _ ht).1 0 (by simp)
    have hm0 : m0 = [posL head 0] := by
      have e := ht
      unfold takeP at e
      split at e
      · unfold takeP at e; cases e; rfl
      · cases e
    rw [nodesW_some ht, hm0] at h
    obtain ⟨r, e, h1, h2⟩ := goW_words _ _ _ _ _ h (by intro x hx; simp at hx; subst hx; exact live_lt hl) (by simp)
    have e' : xs = r := by simpa using e
    subst e'
    refine ⟨h1, ?_⟩
    intro x hx
    rcases List.mem_cons.1 hx with rfl | hx
    · exact hl
    · exact h2 x hx
theorem flat4_len (xs : List Nd) : (xs.flatMap fun x => [posL x.1 0, posL x.1 1, posL x.1 2, posL x.1 3]).length = 4 * xs.length := by
  induction xs with
  | nil => rfl
  | cons x xs ih => simp only [List.flatMap_cons, List.length_append, ih, List.length_cons, List.length_nil]; omega
theorem nodesW_len {M : Mem} {head : Nat} {xs : List Nd} (hok : okM M = true) (h : nodesW M head = some xs) : 4 * xs.length + 1 ≤ 4096 := by
  obtain ⟨h1, h2⟩ := nodesW_words h
  obtain ⟨q1, q2, q3, -⟩ := okM_spec hok
  have := nodup_lt (n := M.L.length) h1 (fun x hx => live_lt (h2 x hx))
  have e : (wordsL head xs).length = 4 * xs.length + 1 := by unfold wordsL; rw [List.length_cons, flat4_len]
  omega
theorem find_run {M : Mem} {head : Nat} {xs : List Nd} (hok : okM M = true) (h : nodesR M head = some xs) (hash key : Nat) :
    seekRun 4200 M ⟨0, hash, key, head, 0, 0, false⟩ 0 = (M, findS hash key head xs) ∧ seekFix 4200 M ⟨0, hash, key, head, 0, 0, false⟩ 0 = findS hash key head xs := by
  obtain ⟨hw, -⟩ := nodesR_some h
  obtain ⟨h1, h2⟩ := nodesW_chain hw
  have hl := nodesW_len hok hw
  have := seek_chain hok hash key xs head 0 0 4200 h1 h2 (by omega)
  rw [Nat.zero_add] at this
  exact this
/-- Who edits, step by step. -/
def editRun : Nat → Mem → Ede → Nat → Mem × Ede × Nat
  | 0, M, s, n => (M, s, n)
  | f + 1, M, s, n => if 6 ≤ s.ph then (M, s, n) else editRun f (editE M s).1 (editE M s).2.1 (n + 1)
theorem editRun_end {f : Nat} {M : Mem} {s : Ede} {n : Nat} (h : 6 ≤ s.ph) : editRun f M s n = (M, s, n) := by
  cases f with
  | zero => rfl
  | succ f => unfold editRun; rw [if_pos h]
theorem editE_ok {M : Mem} {s : Ede} (hok : okM M = true) (hW : ∀ x ∈ M.W, x < 18446744073709551616) (hs : s.Ok) (h0 : 0 ≤ s.ph) (h7 : s.ph ≤ 7) : okM (editE M s).1 = true ∧ (∀ x ∈ (editE M s).1.W, x < 18446744073709551616) ∧ (editE M s).2.1.Ok ∧ (s.ph < 6 → s.ph < (editE M s).2.1.ph ∧ (editE M s).2.1.ph ≤ 7) ∧ (editE M s).1.W.length = M.W.length ∧ (editE M s).1.L = M.L ∧ (s.ph < 6 → (editE M s).2.2 = true) ∧ (6 ≤ s.ph → (editE M s) = (M, s, false)) := by
  have key : ∀ (st : Bool) (q new : Nat), new < 18446744073709551616 → okM (stepM M st ((q : Nat) : Int) new).1 = true ∧ (∀ x ∈ (stepM M st ((q : Nat) : Int) new).1.W, x < 18446744073709551616) ∧ (stepM M st ((q : Nat) : Int) new).2.1 < 18446744073709551616 ∧ (stepM M st ((q : Nat) : Int) new).1.W.length = M.W.length ∧ (stepM M st ((q : Nat) : Int) new).1.L = M.L := by
    intro st q new hnew
    obtain ⟨q1, q2, q3, q4⟩ := okM_spec hok
    unfold stepM
    rw [liveAt_eq]
    cases hl : liveN M q with
    | false =>
      rw [if_neg (by decide)]
      refine ⟨?_, hW, by show (0 : Nat) < _; decide, rfl, rfl⟩
      unfold okM at hok ⊢
      exact hok
    | true =>
      rw [if_pos rfl]
      have hd : M.W.getD q 0 < 18446744073709551616 := by
        rw [List.getD_eq_getElem?_getD]
        cases h : M.W[q]? with
        | none => simp
        | some x => exact hW x (List.mem_of_getElem? h)
      rw [Int.toNat_natCast]
      cases st with
      | false => exact ⟨hok, hW, hd, rfl, rfl⟩
      | true =>
        refine ⟨?_, ?_, hd, by simp, rfl⟩
        · rw [if_pos rfl]
          unfold okM
          simp only [List.length_set]
          rw [decide_eq_true q1, decide_eq_true q2, decide_eq_true q3]
          simp only [Bool.true_and]
          rw [List.all_eq_true]
          intro p hp
          obtain ⟨i, hi⟩ := List.mem_iff_getElem?.1 hp
          rw [List.getElem?_zip_eq_some] at hi
          obtain ⟨i1, i2⟩ := hi
          by_cases hiq : q = i
          · subst hiq
            unfold liveN at hl
            rw [i2] at hl
            have : p.2 = true := by simpa using hl
            unfold wordOk
            rw [this]; rfl
          · rw [List.getElem?_set_ne hiq] at i1
            have := List.all_eq_true.1 q4 p (List.mem_iff_getElem?.2 ⟨i, by rw [List.getElem?_zip_eq_some]; exact ⟨i1, i2⟩⟩)
            exact this
        · intro x hx
          rw [if_pos rfl] at hx
          rcases List.mem_or_eq_of_mem_set hx with h | h
          · exact hW x h
          · rw [h]; exact hnew
  by_cases h6 : 6 ≤ s.ph
  · have e : editE M s = (M, s, false) := by unfold editE; rw [if_pos h6]
    rw [e]
    exact ⟨hok, hW, hs, fun h => by omega, rfl, rfl, fun h => by omega, fun _ => rfl⟩
  · obtain ⟨ph, cuts, link, at_, k, v, hh, nx⟩ := s
    obtain ⟨hs0, hs1, hs2, hs3, hs4, hs5, hs6⟩ := hs
    dsimp only at *
    have hn : (needE ⟨ph, cuts, link, at_, k, v, hh, nx⟩ ph.toNat).2.2 < 18446744073709551616 := by
      unfold needE
      split <;> dsimp only <;> first | assumption | decide | (split <;> assumption)
    have hk := key (ph != 4) ((needE ⟨ph, cuts, link, at_, k, v, hh, nx⟩ ph.toNat).2.1) _ hn
    obtain ⟨k1, k2, k3, k4, k5⟩ := hk
    have hnx : ph < nextE ph.toNat ∧ nextE ph.toNat ≤ 6 := by
      rcases (show ph = 0 ∨ ph = 1 ∨ ph = 2 ∨ ph = 3 ∨ ph = 4 ∨ ph = 5 by omega) with e | e | e | e | e | e <;> subst e <;> decide
    have e : ∀ M' x d, stepM M (ph != 4) (((needE ⟨ph, cuts, link, at_, k, v, hh, nx⟩ ph.toNat).2.1 : Nat) : Int) (needE ⟨ph, cuts, link, at_, k, v, hh, nx⟩ ph.toNat).2.2 = (M', x, d) →
        editE M ⟨ph, cuts, link, at_, k, v, hh, nx⟩ = (M', if d = true then ⟨nextE ph.toNat, cuts, link, at_, k, v, hh, if ph = 4 then x else nx⟩ else ⟨7, cuts, link, at_, k, v, hh, nx⟩, true) := by
      intro M' x d he
      unfold editE
      rw [if_neg h6]
      dsimp only
      rw [he]
    obtain ⟨⟨M', x, d⟩, hX⟩ : ∃ X, stepM M (ph != 4) (((needE ⟨ph, cuts, link, at_, k, v, hh, nx⟩ ph.toNat).2.1 : Nat) : Int) (needE ⟨ph, cuts, link, at_, k, v, hh, nx⟩ ph.toNat).2.2 = X := ⟨_, rfl⟩
    rw [hX] at k1 k2 k3 k4 k5
    rw [e _ _ _ hX]
    dsimp only at k1 k2 k3 k4 k5 ⊢
    refine ⟨k1, k2, ?_, fun _ => ?_, k4, k5, fun _ => rfl, fun h => absurd h h6⟩
    · split
      · refine ⟨by dsimp only; omega, hs1, hs2, hs3, hs4, hs5, ?_⟩
        dsimp only
        split
        · exact k3
        · exact hs6
      · exact ⟨by dsimp only; decide, hs1, hs2, hs3, hs4, hs5, hs6⟩
    · split
      · dsimp only; omega
      · dsimp only; omega
/-- In a memory whose words are live no step is lost. -/
theorem editRun_keep : ∀ (f : Nat) (M : Mem) (s : Ede) (n : Nat), okM M = true → (∀ x ∈ M.W, x < 18446744073709551616) → s.Ok → 0 ≤ s.ph → s.ph ≤ 7 → okM (editRun f M s n).1 = true ∧ (∀ x ∈ (editRun f M s n).1.W, x < 18446744073709551616) ∧ (editRun f M s n).1.W.length = M.W.length ∧ (editRun f M s n).1.L = M.L
  | 0, M, s, n, h1, h2, h3, h4, h5 => ⟨h1, h2, rfl, rfl⟩
  | f + 1, M, s, n, h1, h2, h3, h4, h5 => by
    unfold editRun
    split
    · exact ⟨h1, h2, rfl, rfl⟩
    · obtain ⟨q1, q2, q3, q4, q5, q6, -, -⟩ := editE_ok h1 h2 h3 h4 h5
      have q4 := q4 (by omega)
      obtain ⟨r1, r2, r3, r4⟩ := editRun_keep f (editE M s).1 (editE M s).2.1 (n + 1) q1 q2 q3 (by omega) q4.2
      exact ⟨r1, r2, r3.trans q5, r4.trans q6⟩
theorem editRun_ph : ∀ (f : Nat) (M : Mem) (s : Ede) (n : Nat), okM M = true → (∀ x ∈ M.W, x < 18446744073709551616) → s.Ok → 0 ≤ s.ph → s.ph ≤ 7 → 6 ≤ f + s.ph → 6 ≤ (editRun f M s n).2.1.ph
  | 0, M, s, n, h1, h2, h3, h4, h5, h6 => by unfold editRun; dsimp only; omega
  | f + 1, M, s, n, h1, h2, h3, h4, h5, h6 => by
    unfold editRun
    split
    · assumption
    · obtain ⟨q1, q2, q3, q4, q5, q6, -, -⟩ := editE_ok h1 h2 h3 h4 h5
      have q4 := q4 (by omega)
      exact editRun_ph f (editE M s).1 (editE M s).2.1 (n + 1) q1 q2 q3 (by omega) q4.2 (by omega)
end Go.Proofs.YtahicokokfcieaaDoor
namespace Go.Proofs.YtahicokokfcieaaDoor
open Go.RowKit
open Go.Proofs
set_option linter.unusedVariables false
attribute [local go_sem] Oper.semAt_some
structure Lk.Ok (l : Lk) : Prop where
  ph : -9223372036854775808 ≤ l.ph ∧ l.ph ≤ 9223372036854775807
  root : l.root < 18446744073709551616
  key : l.key < 18446744073709551616
  array : l.array < 18446744073709551616
  many : -9223372036854775808 ≤ l.many ∧ l.many ≤ 9223372036854775807
  s : l.s.Ok
theorem look_any (B R S n : Nat) (M : Mem) (l : Lk) (V1 : World) (h : RunT B R M n V1) (hS : V1.heap[S]? = some (.cells (lk12 l) 46 (0, 0))) (hB : B ≤ V1.heap.size) (hok : okM M = true) (hg : Glob V1) (hW : ∀ x ∈ M.W, x < 18446744073709551616) (hl : l.Ok) (hR0 : R ≠ 0) (hn : n ≤ 1000000) :
    Calls Tryd.prog 41 #[.pointer (some ⟨R, 0, none⟩), .pointer (some ⟨S, 0, none⟩)] V1 (GivesLook B R S n (lookE M l) V1) := by
  by_cases h0 : l.ph = 0
  · exact look_root B R S n M l V1 h hS hB hok hl.root hg hW hl.key hR0 h0 hn
  · by_cases h1 : l.ph = 1
    · exact look_seek B R S n M l V1 h hS hB hl.s h1 hn
    · exact look_no B R S n M l V1 h hS h0 h1
def chkE (l : Lk) : Bool := if l.ph = 1 then decide (0 ≤ l.s.ph) && decide (l.s.ph < 4) else decide (0 ≤ l.ph) && decide (l.ph ≤ 3)
theorem tcheck_any (l : Lk) (V : World) : Calls Tryd.prog 39 #[lkV l] V (Ret (.bool (chkE l)) V) := by
  obtain ⟨lp, root, key, array, many, ⟨sp, shash, skey, slink, snode, sval, sfound⟩⟩ := l
  unfold lkV lk12
  dsimp only
  obtain ⟨V1, hV1, hb1, hs1, hl1⟩ := laid V #[.int .i64 lp, .int .u64 ((root : Nat) : Int), .int .u64 ((key : Nat) : Int), .int .u64 ((array : Nat) : Int), .int .i64 many, .int .i64 sp, .int .u64 ((shash : Nat) : Int), .int .u64 ((skey : Nat) : Int), .int .u64 ((slink : Nat) : Int), .int .u64 ((snode : Nat) : Int), .int .u64 ((sval : Nat) : Int), .bool sfound] 46
  have x0 := cell_laid (i := 0) hl1 rfl
  have x5 := cell_laid (i := 5) hl1 rfl
  have HB := hid hb1
  clear hb1 hs1 hl1
  by_cases h1 : lp = 1
  · have t1 : (lp == 1) = true := by simp [h1]
    by_cases a0 : 0 ≤ sp
    · have d0 : decide (0 ≤ sp) = true := decide_eq_true a0
      by_cases a4 : sp < 4
      · have d4 : decide (sp < 4) = true := decide_eq_true a4
        have e : chkE ⟨lp, root, key, array, many, ⟨sp, shash, skey, slink, snode, sval, sfound⟩⟩ = true := by unfold chkE; dsimp only; rw [if_pos h1, d0, d4]; rfl
        rw [e]
        clear h1 e
        go_enter Tryd.func39, Tryd.ntmps39
        go_wp2
        go_ret
        exact ⟨rfl, HB.out⟩
      · have d4 : decide (sp < 4) = false := decide_eq_false a4
        have e : chkE ⟨lp, root, key, array, many, ⟨sp, shash, skey, slink, snode, sval, sfound⟩⟩ = false := by unfold chkE; dsimp only; rw [if_pos h1, d0, d4]; rfl
        rw [e]
        clear h1 e
        go_enter Tryd.func39, Tryd.ntmps39
        go_wp2
        go_ret
        exact ⟨rfl, HB.out⟩
    · have d0 : decide (0 ≤ sp) = false := decide_eq_false a0
      have e : chkE ⟨lp, root, key, array, many, ⟨sp, shash, skey, slink, snode, sval, sfound⟩⟩ = false := by unfold chkE; dsimp only; rw [if_pos h1, d0]; rfl
      rw [e]
      clear h1 e
      go_enter Tryd.func39, Tryd.ntmps39
      go_wp2
      go_ret
      exact ⟨rfl, HB.out⟩
  · have t1 : (lp == 1) = false := by simp [h1]
    by_cases a0 : 0 ≤ lp
    · have d0 : decide (0 ≤ lp) = true := decide_eq_true a0
      by_cases a4 : lp ≤ 3
      · have d4 : decide (lp ≤ 3) = true := decide_eq_true a4
        have e : chkE ⟨lp, root, key, array, many, ⟨sp, shash, skey, slink, snode, sval, sfound⟩⟩ = true := by unfold chkE; dsimp only; rw [if_neg h1, d0, d4]; rfl
        rw [e]
        clear h1 e
        go_enter Tryd.func39, Tryd.ntmps39
        go_wp2
        go_ret
        exact ⟨rfl, HB.out⟩
      · have d4 : decide (lp ≤ 3) = false := decide_eq_false a4
        have e : chkE ⟨lp, root, key, array, many, ⟨sp, shash, skey, slink, snode, sval, sfound⟩⟩ = false := by unfold chkE; dsimp only; rw [if_neg h1, d0, d4]; rfl
        rw [e]
        clear h1 e
        go_enter Tryd.func39, Tryd.ntmps39
        go_wp2
        go_ret
        exact ⟨rfl, HB.out⟩
    · have d0 : decide (0 ≤ lp) = false := decide_eq_false a0
      have e : chkE ⟨lp, root, key, array, many, ⟨sp, shash, skey, slink, snode, sval, sfound⟩⟩ = false := by unfold chkE; dsimp only; rw [if_neg h1, d0]; rfl
      rw [e]
      clear h1 e
      go_enter Tryd.func39, Tryd.ntmps39
      go_wp2
      go_ret
      exact ⟨rfl, HB.out⟩
theorem RunT.base {B B' R : Nat} {M : Mem} {n : Nat} {V : World} (h : RunT B R M n V) (hb : B' ≤ B) : RunT B' R M n V := let ⟨wa, wc, la, lc, k, o⟩ := h; ⟨wa, wc, la, lc, k, o.base hb⟩
theorem tstep_result {W : World} {b4 b5 : Nat} {v4_0 v4_1 v4_2 v5_0 v5_1 v5_2 v5_3 v5_4 v5_5 v5_6 v5_7 v5_8 v5_9 v5_10 v5_11 u6 : Value} {tmps : Array Value} (h4 : W.heap[b4]? = some (.cells #[v4_0, v4_1, v4_2] 38 (0, 0))) (q4 : tmps[4]?.getD undef = .pointer (some ⟨b4, 0, none⟩)) (h5 : W.heap[b5]? = some (.cells #[v5_0, v5_1, v5_2, v5_3, v5_4, v5_5, v5_6, v5_7, v5_8, v5_9, v5_10, v5_11] 46 (0, 0))) (q5 : tmps[5]?.getD undef = .pointer (some ⟨b5, 0, none⟩)) (q6 : tmps[6]?.getD undef = u6) :
    (results Tryd.f15 tmps).run Tryd.prog W = .ok (.tuple #[.agg #[v4_0, v4_1, v4_2], .agg #[v5_0, v5_1, v5_2, v5_3, v5_4, v5_5, v5_6, v5_7, v5_8, v5_9, v5_10, v5_11], u6]) W := by
  have e4_0 := cell_laid (i := 0) (v := v4_0) h4 rfl
  have e4_1 := cell_laid (i := 1) (v := v4_1) h4 rfl
  have e4_2 := cell_laid (i := 2) (v := v4_2) h4 rfl
  have e5_0 := cell_laid (i := 0) (v := v5_0) h5 rfl
  have e5_1 := cell_laid (i := 1) (v := v5_1) h5 rfl
  have e5_2 := cell_laid (i := 2) (v := v5_2) h5 rfl
  have e5_3 := cell_laid (i := 3) (v := v5_3) h5 rfl
  have e5_4 := cell_laid (i := 4) (v := v5_4) h5 rfl
  have e5_5 := cell_laid (i := 5) (v := v5_5) h5 rfl
  have e5_6 := cell_laid (i := 6) (v := v5_6) h5 rfl
  have e5_7 := cell_laid (i := 7) (v := v5_7) h5 rfl
  have e5_8 := cell_laid (i := 8) (v := v5_8) h5 rfl
  have e5_9 := cell_laid (i := 9) (v := v5_9) h5 rfl
  have e5_10 := cell_laid (i := 10) (v := v5_10) h5 rfl
  have e5_11 := cell_laid (i := 11) (v := v5_11) h5 rfl
  simp [results, Tryd.results15, go_sem, e4_0, e4_1, e4_2, q4, e5_0, e5_1, e5_2, e5_3, e5_4, e5_5, e5_6, e5_7, e5_8, e5_9, e5_10, e5_11, q5, q6]
/-- What Step gives. -/
def tstepP (M : Mem) (l : Lk) : Mem × Lk × Nat := if okM M = false then (zeroM, zeroLk, 120) else if chkE l = false then (zeroM, zeroLk, 291) else ((lookE M l).1, (lookE M l).2.1, 0)
def GivesStepT (X : Mem × Lk × Nat) (V : World) (e : Ending) (W : World) : Prop := ∃ wa wc la lc, e = .returned (.tuple #[memV wa wc la lc X.1, lkV X.2.1, .int .i64 ((X.2.2 : Nat) : Int)]) ∧ MemO V.heap.size wa wc la lc X.1 W ∧ Below V.heap.size V W
theorem memO_zero (B : Nat) (W : World) : MemO B none 0 none 0 zeroM W := ⟨World.ownsRow_nil _ _ _ _, World.ownsRow_nil _ _ _ _⟩
structure RSt (R L : Nat) (cs cs' : Array Value) where
  w : World
  br : w.heap[R]? = some (.cells cs 96 (0, 0))
  bl : w.heap[L]? = some (.cells cs' 46 (0, 0))
set_option maxRecDepth 100000 in
set_option maxHeartbeats 8000000 in
theorem TStep_any (M : Mem) (l : Lk) (wa la : Option Addr) (wc lc : Nat) (V : World) (h : MemL V wa wc la lc M) (hg : Glob V) (hW : ∀ x ∈ M.W, x < 18446744073709551616) (hl : l.Ok) :
    Calls Tryd.prog 15 #[memV wa wc la lc M, lkV l] V (GivesStepT (tstepP M l) V) := by
  have HCH := hid (fun W => tcheck_any l W)
  obtain ⟨XX, hXX⟩ : ∃ X, tstepP M l = X := ⟨_, rfl⟩
  rw [hXX]
  unfold tstepP at hXX
  obtain ⟨⟨M', ⟨lp', root', key', array', many', s'⟩, d⟩, hXL⟩ : ∃ X, lookE M l = X := ⟨_, rfl⟩
  have HLK := hid (fun (B R S n : Nat) (V1 : World) h hS hB hok hg hR0 hn => look_any B R S n M l V1 h hS hB hok hg hW hl hR0 hn)
  obtain ⟨ck, hck⟩ : ∃ b, chkE l = b := ⟨_, rfl⟩
  rw [hck] at HCH hXX
  rw [hXL] at HLK hXX
  clear hXL hck hl hW
  obtain ⟨lp, root, key, array, many, s⟩ := l
  unfold lkV lk12 at HCH ⊢
  unfold lk12 at HLK
  dsimp only at HCH HLK ⊢
  have hwl := h.w.len
  have hll := h.l.len
  have HM0 := hid h
  have HG0 := hid hg
  clear h hg
  have hV0 : 0 < V.heap.size := HG0.out.one
  obtain ⟨V1, hV1, hbV1, hsV1, hlV1⟩ := laid V #[.slice wa M.W.length wc, .slice la M.L.length lc, .bool M.F] 38
  obtain ⟨V2, hV2, hbV2, hsV2, hlV2⟩ := laid V1 #[.int .i64 lp, .int .u64 ((root : Nat) : Int), .int .u64 ((key : Nat) : Int), .int .u64 ((array : Nat) : Int), .int .i64 many, .int .i64 s.ph, .int .u64 ((s.hash : Nat) : Int), .int .u64 ((s.key : Nat) : Int), .int .u64 ((s.link : Nat) : Int), .int .u64 ((s.node : Nat) : Int), .int .u64 ((s.val : Nat) : Int), .bool s.found] 46
  obtain ⟨V3, hV3, hbV3, hsV3, hlV3⟩ := laid V2 #[.slice none 0 0, .slice none 0 0, .bool false] 38
  obtain ⟨V4, hV4, hbV4, hsV4, hlV4⟩ := laid V3 #[.int .i64 0, .int .u64 0, .int .u64 0, .int .u64 0, .int .i64 0, .int .i64 0, .int .u64 0, .int .u64 0, .int .u64 0, .int .u64 0, .int .u64 0, .bool false] 46
  obtain ⟨X, hX⟩ : ∃ X, V.heap.size = X := ⟨_, rfl⟩
  rw [hX] at hlV1
  obtain ⟨L, hL⟩ : ∃ X, V1.heap.size = X := ⟨_, rfl⟩
  rw [hL] at hlV2
  obtain ⟨Z, hZ⟩ : ∃ X, V2.heap.size = X := ⟨_, rfl⟩
  rw [hZ] at hlV3
  obtain ⟨G, hG⟩ : ∃ X, V3.heap.size = X := ⟨_, rfl⟩
  rw [hG] at hlV4
  have KX := hid (keep_laid (keep_laid (keep_laid hlV1 hbV2) hbV3) hbV4)
  have KL := hid (keep_laid (keep_laid hlV2 hbV3) hbV4)
  have KZ := hid (keep_laid hlV3 hbV4)
  have KG := hid hlV4
  have HB := hid (step (step (step hbV1 hbV2) hbV3) hbV4)
  have hVX : V.heap.size ≤ X := by omega
  have hVL : V.heap.size ≤ L := by omega
  have nXL : X < L := by omega
  have hVZ : V.heap.size ≤ Z := by omega
  have nXZ : X < Z := by omega
  have nLZ : L < Z := by omega
  have hVG : V.heap.size ≤ G := by omega
  have nXG : X < G := by omega
  have nLG : L < G := by omega
  have nZG : Z < G := by omega
  clear hbV1 hsV1 hlV1 hbV2 hsV2 hlV2 hbV3 hsV3 hlV3 hbV4 hsV4 hlV4
  have HM := hid (HM0.out.grow HB.out)
  have HCK := hid (Check_any M wa la wc lc V4 HM.out)
  unfold memV at HCK ⊢
  have x0 := cell_laid (i := 0) KX.out rfl
  have x1 := cell_laid (i := 1) KX.out rfl
  have x2 := cell_laid (i := 2) KX.out rfl
  cases hok : okM M with
  | false =>
    rw [hok, if_neg (by decide)] at HCK
    rw [hok, if_pos rfl] at hXX
    subst hXX
    clear hok
    go_enter Tryd.func15, Tryd.ntmps15
    go_wp2_with fail
    refine HCK.out.mono ?_
    rintro e w3 ⟨rfl, hb3⟩
    have KZ3 := hid (keep_laid KZ.out hb3)
    have KG3 := hid (keep_laid KG.out hb3)
    have HB3 := hid (step HB.out hb3)
    clear hb3 HCK hX hL hZ hG
    go_wp2_with (first | (refine wp_storeP rfl 38 (.tmp 4) (.tmp 13) rfl Z 0 _ #[.slice none 0 0, .slice none 0 0, .bool false] _ rfl rfl _ KZ3.out (by kernel_rfl) (Nat.le_of_ble_eq_true rfl) (by kernel_rfl) rfl ?_; intro u1 a1 a2 a3 a4; have KZ9 := hid a1; have KG9 := hid (a2 G _ (by omega) KG3.out); have HB9 := hid (a3 V.heap.size V (by omega) HB3.out); clear a1 a2 a3 a4) | (refine wp_storeP rfl 46 (.tmp 5) (.tmp 14) rfl G 0 _ #[.int .i64 0, .int .u64 0, .int .u64 0, .int .u64 0, .int .i64 0, .int .i64 0, .int .u64 0, .int .u64 0, .int .u64 0, .int .u64 0, .int .u64 0, .bool false] _ rfl rfl _ KG9.out (by kernel_rfl) (Nat.le_of_ble_eq_true rfl) (by kernel_rfl) rfl ?_; intro u2 a1 a2 a3 a4; have KG10 := hid a1; have KZ10 := hid (a2 Z _ (by omega) KZ9.out); have HB10 := hid (a3 V.heap.size V (by omega) HB9.out); clear a1 a2 a3 a4))
    refine bodyPost_ret (tstep_result KZ10.out rfl KG10.out rfl rfl) rfl ?_
    exact ⟨none, 0, none, 0, rfl, memO_zero _ _, HB10.out⟩
  | true =>
    rw [hok, if_pos rfl] at HCK
    rw [hok, if_neg (by decide)] at hXX
    have HOK := hid hok
    clear hok
    have l0 := HLK
    go_enter Tryd.func15, Tryd.ntmps15
    go_wp2_with fail
    refine HCK.out.mono ?_
    rintro e w3 ⟨rfl, hb3⟩
    have KX3 := hid (keep_laid KX.out hb3)
    have KL3 := hid (keep_laid KL.out hb3)
    have KZ3 := hid (keep_laid KZ.out hb3)
    have KG3 := hid (keep_laid KG.out hb3)
    have HB3 := hid (step HB.out hb3)
    clear hb3 HCK x0 x1 x2 hX hL hZ hG
    have y0 := cell_laid (i := 0) KL3.out rfl
    have y1 := cell_laid (i := 1) KL3.out rfl
    have y2 := cell_laid (i := 2) KL3.out rfl
    have y3 := cell_laid (i := 3) KL3.out rfl
    have y4 := cell_laid (i := 4) KL3.out rfl
    have y5 := cell_laid (i := 5) KL3.out rfl
    have y6 := cell_laid (i := 6) KL3.out rfl
    have y7 := cell_laid (i := 7) KL3.out rfl
    have y8 := cell_laid (i := 8) KL3.out rfl
    have y9 := cell_laid (i := 9) KL3.out rfl
    have y10 := cell_laid (i := 10) KL3.out rfl
    have y11 := cell_laid (i := 11) KL3.out rfl
    go_wp2_with fail
    refine (HCH.out w3).mono ?_
    rintro e w4 ⟨rfl, hb4⟩
    have KX4 := hid (keep_laid KX3.out hb4)
    have KL4 := hid (keep_laid KL3.out hb4)
    have KZ4 := hid (keep_laid KZ3.out hb4)
    have KG4 := hid (keep_laid KG3.out hb4)
    have HB4 := hid (step HB3.out hb4)
    clear hb4 HCH y0 y1 y2 y3 y4 y5 y6 y7 y8 y9 y10 y11
    cases ck with
    | false =>
      rw [if_pos rfl] at hXX
      subst hXX
      go_wp2_with (first | (refine wp_storeP rfl 38 (.tmp 4) (.tmp 19) rfl Z 0 _ #[.slice none 0 0, .slice none 0 0, .bool false] _ rfl rfl _ KZ4.out (by kernel_rfl) (Nat.le_of_ble_eq_true rfl) (by kernel_rfl) rfl ?_; intro u1 a1 a2 a3 a4; have KZ9 := hid a1; have KG9 := hid (a2 G _ (by omega) KG4.out); have HB9 := hid (a3 V.heap.size V (by omega) HB4.out); clear a1 a2 a3 a4) | (refine wp_storeP rfl 46 (.tmp 5) (.tmp 20) rfl G 0 _ #[.int .i64 0, .int .u64 0, .int .u64 0, .int .u64 0, .int .i64 0, .int .i64 0, .int .u64 0, .int .u64 0, .int .u64 0, .int .u64 0, .int .u64 0, .bool false] _ rfl rfl _ KG9.out (by kernel_rfl) (Nat.le_of_ble_eq_true rfl) (by kernel_rfl) rfl ?_; intro u2 a1 a2 a3 a4; have KG10 := hid a1; have KZ10 := hid (a2 Z _ (by omega) KZ9.out); have HB10 := hid (a3 V.heap.size V (by omega) HB9.out); clear a1 a2 a3 a4))
      refine bodyPost_ret (tstep_result KZ10.out rfl KG10.out rfl rfl) rfl ?_
      exact ⟨none, 0, none, 0, rfl, memO_zero _ _, HB10.out⟩
    | true =>
      rw [if_neg (by decide)] at hXX
      subst hXX
      have x0 := cell_laid (i := 0) KX4.out rfl
      have x1 := cell_laid (i := 1) KX4.out rfl
      have x2 := cell_laid (i := 2) KX4.out rfl
      go_wp2_with fail
      refine (town_any M wa la wc lc w4 (HM0.out.grow HB4.out) HOK.out).mono ?_
      rintro e w5 ⟨R, rfl, hR, hRT, hb5⟩
      have hR0 : R ≠ 0 := by have := HB4.out.size; omega
      have hRV : V.heap.size ≤ R := by have := HB4.out.size; omega
      have HRT5 := hid (hRT.base HB4.out.size)
      have KL5 := hid (keep_laid KL4.out hb5)
      have KZ5 := hid (keep_laid KZ4.out hb5)
      have KG5 := hid (keep_laid KG4.out hb5)
      have HB5 := hid (step HB4.out hb5)
      have lR := HRT5.out.lt
      have hZR : Z ≠ R := by have := lt_laid KZ4.out; omega
      have hGR : G ≠ R := by have := lt_laid KG4.out; omega
      have hRZ : R ≠ Z := Ne.symm hZR
      have hRG : R ≠ G := Ne.symm hGR
      clear hb5 hRT hR x0 x1 x2
      have HL5 := hid (l0.out V.heap.size R L 0 w5 HRT5.out KL5.out HB5.out.size HOK.out (HG0.out.grow HB5.out) hR0 (by decide))
      go_wp2_with fail
      refine HL5.out.mono ?_
      rintro e w6 ⟨rfl, hrt, hkl, ht⟩
      dsimp only at hrt hkl
      obtain ⟨n', hn'⟩ : ∃ n', (if d = true then 0 + 1 else 0) = n' := ⟨_, rfl⟩
      rw [hn'] at hrt
      obtain ⟨wa', wc', la', lc', kR6, o6⟩ := hrt
      have KR6 := hid kR6
      have KL6 := hid hkl
      have HO6 := hid o6
      have KZ6 := hid (ht.keep KZ5.out (by rintro (e | e) <;> omega))
      have KG6 := hid (ht.keep KG5.out (by rintro (e | e) <;> omega))
      have HB6 : Hid (Below V.heap.size V w6) := hid (HB5.out.trans (ht.below (by rintro k (e | e) <;> omega) HB5.out.size))
      have hwl' := HO6.out.memL.w.len
      have hll' := HO6.out.memL.l.len
      clear hkl ht kR6 o6 hn' HL5 HLK l0
      go_upto_region 8 with (fail)
      obtain ⟨D, hD⟩ : ∃ DX, w6.drew = DX := ⟨_, rfl⟩
      have hbD : Below w6.heap.size w6 D := by rw [← hD]; exact (Below.refl _ _).drew
      have HD := hid hD
      have KR7 := hid (keep_laid KR6.out hbD)
      have KL7 := hid (keep_laid KL6.out hbD)
      have KZ7 := hid (keep_laid KZ6.out hbD)
      have KG7 := hid (keep_laid KG6.out hbD)
      have HB7 := hid (step HB6.out hbD)
      have HO7 := hid (HO6.out.grow hbD)
      clear hD hbD
      haveI : Nonempty (RSt R L #[.slice wa' M'.W.length wc', .slice la' M'.L.length lc', .bool M'.F, .int .i64 ((n' : Nat) : Int)] (lk12 ⟨lp', root', key', array', many', s'⟩)) := ⟨⟨D, KR7.out, KL7.out⟩⟩
      have r0 : ∀ z : RSt R L #[.slice wa' M'.W.length wc', .slice la' M'.L.length lc', .bool M'.F, .int .i64 ((n' : Nat) : Int)] (lk12 ⟨lp', root', key', array', many', s'⟩), z.w.cell? ⟨R, 0, none⟩ = some (.slice wa' M'.W.length wc') := fun z => cell_laid z.br rfl
      have r1 : ∀ z : RSt R L #[.slice wa' M'.W.length wc', .slice la' M'.L.length lc', .bool M'.F, .int .i64 ((n' : Nat) : Int)] (lk12 ⟨lp', root', key', array', many', s'⟩), z.w.cell? ⟨R, 1, none⟩ = some (.slice la' M'.L.length lc') := fun z => cell_laid z.br rfl
      have r2 : ∀ z : RSt R L #[.slice wa' M'.W.length wc', .slice la' M'.L.length lc', .bool M'.F, .int .i64 ((n' : Nat) : Int)] (lk12 ⟨lp', root', key', array', many', s'⟩), z.w.cell? ⟨R, 2, none⟩ = some (.bool M'.F) := fun z => cell_laid z.br rfl
      have q0 : ∀ z : RSt R L #[.slice wa' M'.W.length wc', .slice la' M'.L.length lc', .bool M'.F, .int .i64 ((n' : Nat) : Int)] (lk12 ⟨lp', root', key', array', many', s'⟩), z.w.cell? ⟨L, 0, none⟩ = some (.int .i64 lp') := fun z => cell_laid (i := 0) z.bl rfl
      have q1 : ∀ z : RSt R L #[.slice wa' M'.W.length wc', .slice la' M'.L.length lc', .bool M'.F, .int .i64 ((n' : Nat) : Int)] (lk12 ⟨lp', root', key', array', many', s'⟩), z.w.cell? ⟨L, 1, none⟩ = some (.int .u64 ((root' : Nat) : Int)) := fun z => cell_laid (i := 1) z.bl rfl
      have q2 : ∀ z : RSt R L #[.slice wa' M'.W.length wc', .slice la' M'.L.length lc', .bool M'.F, .int .i64 ((n' : Nat) : Int)] (lk12 ⟨lp', root', key', array', many', s'⟩), z.w.cell? ⟨L, 2, none⟩ = some (.int .u64 ((key' : Nat) : Int)) := fun z => cell_laid (i := 2) z.bl rfl
      have q3 : ∀ z : RSt R L #[.slice wa' M'.W.length wc', .slice la' M'.L.length lc', .bool M'.F, .int .i64 ((n' : Nat) : Int)] (lk12 ⟨lp', root', key', array', many', s'⟩), z.w.cell? ⟨L, 3, none⟩ = some (.int .u64 ((array' : Nat) : Int)) := fun z => cell_laid (i := 3) z.bl rfl
      have q4 : ∀ z : RSt R L #[.slice wa' M'.W.length wc', .slice la' M'.L.length lc', .bool M'.F, .int .i64 ((n' : Nat) : Int)] (lk12 ⟨lp', root', key', array', many', s'⟩), z.w.cell? ⟨L, 4, none⟩ = some (.int .i64 many') := fun z => cell_laid (i := 4) z.bl rfl
      have q5 : ∀ z : RSt R L #[.slice wa' M'.W.length wc', .slice la' M'.L.length lc', .bool M'.F, .int .i64 ((n' : Nat) : Int)] (lk12 ⟨lp', root', key', array', many', s'⟩), z.w.cell? ⟨L, 5, none⟩ = some (.int .i64 s'.ph) := fun z => cell_laid (i := 5) z.bl rfl
      have q6 : ∀ z : RSt R L #[.slice wa' M'.W.length wc', .slice la' M'.L.length lc', .bool M'.F, .int .i64 ((n' : Nat) : Int)] (lk12 ⟨lp', root', key', array', many', s'⟩), z.w.cell? ⟨L, 6, none⟩ = some (.int .u64 ((s'.hash : Nat) : Int)) := fun z => cell_laid (i := 6) z.bl rfl
      have q7 : ∀ z : RSt R L #[.slice wa' M'.W.length wc', .slice la' M'.L.length lc', .bool M'.F, .int .i64 ((n' : Nat) : Int)] (lk12 ⟨lp', root', key', array', many', s'⟩), z.w.cell? ⟨L, 7, none⟩ = some (.int .u64 ((s'.key : Nat) : Int)) := fun z => cell_laid (i := 7) z.bl rfl
      have q8 : ∀ z : RSt R L #[.slice wa' M'.W.length wc', .slice la' M'.L.length lc', .bool M'.F, .int .i64 ((n' : Nat) : Int)] (lk12 ⟨lp', root', key', array', many', s'⟩), z.w.cell? ⟨L, 8, none⟩ = some (.int .u64 ((s'.link : Nat) : Int)) := fun z => cell_laid (i := 8) z.bl rfl
      have q9 : ∀ z : RSt R L #[.slice wa' M'.W.length wc', .slice la' M'.L.length lc', .bool M'.F, .int .i64 ((n' : Nat) : Int)] (lk12 ⟨lp', root', key', array', many', s'⟩), z.w.cell? ⟨L, 9, none⟩ = some (.int .u64 ((s'.node : Nat) : Int)) := fun z => cell_laid (i := 9) z.bl rfl
      have q10 : ∀ z : RSt R L #[.slice wa' M'.W.length wc', .slice la' M'.L.length lc', .bool M'.F, .int .i64 ((n' : Nat) : Int)] (lk12 ⟨lp', root', key', array', many', s'⟩), z.w.cell? ⟨L, 10, none⟩ = some (.int .u64 ((s'.val : Nat) : Int)) := fun z => cell_laid (i := 10) z.bl rfl
      have q11 : ∀ z : RSt R L #[.slice wa' M'.W.length wc', .slice la' M'.L.length lc', .bool M'.F, .int .i64 ((n' : Nat) : Int)] (lk12 ⟨lp', root', key', array', many', s'⟩), z.w.cell? ⟨L, 11, none⟩ = some (.bool s'.found) := fun z => cell_laid (i := 11) z.bl rfl
      refine wp_region_mix2 (fun W => ∃ z : RSt R L #[.slice wa' M'.W.length wc', .slice la' M'.L.length lc', .bool M'.F, .int .i64 ((n' : Nat) : Int)] (lk12 ⟨lp', root', key', array', many', s'⟩), W = z.w) 8 (.q 0 (.q 1 (.q 2 (.q 3 (.q 4 (.h 5 (.h 6 (.q 7 .done)))))))) (by kernel_rfl) (by kernel_rfl) (by rw [HD.out]; exact ⟨⟨D, KR7.out, KL7.out⟩, rfl⟩) ?_
      rw [HD.out]
      iterate 5 (refine wpMix2_q rfl rfl ?_; go_big_quiet_step (fail); refine wpQuiet_nil ?_)
      refine wpMix2_h rfl fun R' hR' hO => ?_
      go_wp2_with (refine wp_storeP rfl 38 (.tmp 4) (.tmp 28) rfl Z 0 _ #[.slice wa' M'.W.length wc', .slice la' M'.L.length lc', .bool M'.F] _ rfl rfl _ KZ7.out (by kernel_rfl) (Nat.le_of_ble_eq_true rfl) (by kernel_rfl) rfl ?_; intro w8 a1 a2 a3 a4; have KZ8 := hid a1; have KR8 := hid (a2 R _ hRZ KR7.out); have KL8 := hid (a2 L _ (by omega) KL7.out); have KG8 := hid (a2 G _ (by omega) KG7.out); have HB8 := hid (a3 V.heap.size V (by omega) HB7.out); have HO8 : Hid (MemO V.heap.size wa' wc' la' lc' M' w8) := hid ⟨own_keep HO7.out.w fun j o hj ho => a2 j o (fun e => own_neP HO7.out.w KZ7.out (by decide) (by rw [← e]; exact hj)) ho, own_keep HO7.out.l fun j o hj ho => a2 j o (fun e => own_neP HO7.out.l KZ7.out (by decide) (by rw [← e]; exact hj)) ho⟩; clear a1 a2 a3 a4)
      refine hR' _ _ ⟨⟨w8, KR8.out, KL8.out⟩, rfl⟩ ?_
      clear hR' hO R'
      refine wpMix2_h rfl fun R' hR' hO => ?_
      go_wp2_with (refine wp_storeP rfl 46 (.tmp 5) (.tmp 29) rfl G 0 _ (lk12 ⟨lp', root', key', array', many', s'⟩) _ rfl rfl _ KG8.out (by kernel_rfl) (Nat.le_of_ble_eq_true rfl) (by kernel_rfl) rfl ?_; intro w9 a1 a2 a3 a4; have KG9 := hid a1; have KR9 := hid (a2 R _ hRG KR8.out); have KL9 := hid (a2 L _ (by omega) KL8.out); have KZ9 := hid (a2 Z _ (by omega) KZ8.out); have HB9 := hid (a3 V.heap.size V (by omega) HB8.out); have HO9 : Hid (MemO V.heap.size wa' wc' la' lc' M' w9) := hid ⟨own_keep HO8.out.w fun j o hj ho => a2 j o (fun e => own_neP HO8.out.w KG8.out (by decide) (by rw [← e]; exact hj)) ho, own_keep HO8.out.l fun j o hj ho => a2 j o (fun e => own_neP HO8.out.l KG8.out (by decide) (by rw [← e]; exact hj)) ho⟩; clear a1 a2 a3 a4)
      refine hR' _ _ ⟨⟨w9, KR9.out, KL9.out⟩, rfl⟩ ?_
      clear hR' hO R'
      refine wpMix2_q rfl rfl ?_
      go_big_quiet_step (fail)
      refine wpQuiet_nil ?_
      refine wpMix2_done ?_
      simp only [List.drop_succ_cons, List.drop_nil]
      clear r0 r1 r2 q0 q1 q2 q3 q4 q5 q6 q7 q8 q9 q10 q11
      go_wp2
      refine bodyPost_ret (tstep_result KZ9.out rfl KG9.out rfl rfl) rfl ?_
      exact ⟨wa', wc', la', lc', rfl, HO9.out, HB9.out⟩
end Go.Proofs.YtahicokokfcieaaDoor
