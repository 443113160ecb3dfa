/- Lists: what seeking, and editing, comes to. Plain laws. -/
import Derived.Test.YtipohagcppfgiaaGreatLs11
namespace Go.Proofs.YtipohagcppfgiaaGreat
open Go.RowKit
open Go.Proofs
set_option linter.unusedVariables false
/-- The places lead on to these nodes. -/
def ChainP (M : Mem) : Nat → List Nd → Prop
 | place, [] => place = 0
 | place, x :: r => x = ndAt M place ∧ place ≠ 0 ∧ (∀ k, k < 4 → liveN M (posL place k) = true) ∧ ChainP M (wAt M place 2) r
theorem goW_chain {M : Mem} : ∀ (f place : Nat) (met : List Nat) (out xs : List Nd), goW M f place met out = some xs → ∃ r, xs = out ++ r ∧ ChainP M place r
 | 0, place, met, out, xs, h => by unfold goW at h; cases h
 | f + 1, place, met, out, xs, h => by
  by_cases h0 : place = 0
  ·subst h0
   rw [goW_zero] at h
   cases h
   exact ⟨[], by simp, rfl⟩
  ·cases ht : takeP M place (List.range 4) met with
   | none => rw [goW_none h0 ht] at h; cases h
   | some m2 =>
    rw [goW_some h0 ht] at h
    obtain ⟨r, e, hr⟩ := goW_chain f _ _ _ _ h
    refine ⟨ndAt M place :: r, by rw [e]; simp, rfl, h0, ?_, hr⟩
    intro k hk
    exact (takeP_spec M place _ _ _ ht).1 k (by simpa using hk)
theorem nodesW_chain {M : Mem} {head : Nat} {xs : List Nd} (h : nodesW M head = some xs) : liveN M (posL head 0) = true ∧ ChainP M (wAt M head 0) xs := by
 cases ht : takeP M head [0] [] with
 | none => rw [nodesW_none ht] at h; cases h
 | some m0 =>
  rw [nodesW_some ht] at h
  obtain ⟨r, e, hr⟩ := goW_chain _ _ _ _ _ h
  refine ⟨(takeP_spec M head _ _ _ ht).1 0 (by simp), ?_⟩
  rw [e]; exact hr
theorem nodesR_some {M : Mem} {head : Nat} {xs : List Nd} (h : nodesR M head = some xs) : nodesW M head = some xs ∧ incr xs = true := by
 unfold nodesR at h
 cases hw : nodesW M head with
 | none => rw [hw] at h; cases h
 | some ys =>
  rw [hw] at h
  dsimp only at h
  split at h
  ·cases h; exact ⟨rfl, by assumption⟩
  ·cases h
theorem live_small {M : Mem} {p k : Nat} (hok : okM M = true) (h : liveN M (posL p k) = true) : p < 4096 ∧ posL p k = p + k ∧ p + k < M.W.length := by
 obtain ⟨h1, h2, h3, -⟩ := okM_spec hok
 have := live_lt h
 rw [h3] at this
 unfold posL at this ⊢
 omega
theorem liveAt_eq (M : Mem) (q : Nat) : liveAt M ((q : Nat) : Int) = liveN M q := by
 unfold liveAt liveN
 rw [Int.toNat_natCast]
 have : decide ((0 : Int) ≤ ((q : Nat) : Int)) = true := decide_eq_true (by omega)
 rw [this, Bool.true_and]
theorem load_live {M : Mem} {q : Nat} (h : liveN M q = true) (new : Nat) : stepM M false ((q : Nat) : Int) new = (M, M.W.getD q 0, true) := by
 unfold stepM
 rw [liveAt_eq, h, if_pos rfl, Int.toNat_natCast]
 rfl
theorem store_live {M : Mem} {q : Nat} (h : liveN M q = true) (new : Nat) : stepM M true ((q : Nat) : Int) new = (⟨M.W.set q new, M.L, M.F⟩, M.W.getD q 0, true) := by
 unfold stepM
 rw [liveAt_eq, h, if_pos rfl, Int.toNat_natCast]
 rfl
/-- Who seeks, step by step. -/
def seekRun : Nat → Mem → Sk → Nat → Mem × Sk × Nat
 | 0, M, s, n => (M, s, n)
 | f + 1, M, s, n => if 4 ≤ s.ph then (M, s, n) else seekRun f (seekE M s).1 (seekE M s).2.1 (n + 1)
/-- The same, in a memory that stays as it is. -/
def seekFix : Nat → Mem → Sk → Nat → Sk × Nat
 | 0, M, s, n => (s, n)
 | f + 1, M, s, n => if 4 ≤ s.ph then (s, n) else seekFix f M (seekE M s).2.1 (n + 1)
theorem seekRun_end {f : Nat} {M : Mem} {s : Sk} {n : Nat} (h : 4 ≤ s.ph) : seekRun f M s n = (M, s, n) := by
 cases f with
 | zero => rfl
 | succ f => unfold seekRun; rw [if_pos h]
theorem seekFix_end {f : Nat} {M : Mem} {s : Sk} {n : Nat} (h : 4 ≤ s.ph) : seekFix f M s n = (s, n) := by
 cases f with
 | zero => rfl
 | succ f => unfold seekFix; rw [if_pos h]
theorem seekRun_step {f : Nat} {M M' : Mem} {s s' : Sk} {b : Bool} {n : Nat} (h : ¬ 4 ≤ s.ph) (e : seekE M s = (M', s', b)) : seekRun (f + 1) M s n = seekRun f M' s' (n + 1) := by
 conv => lhs; unfold seekRun
 rw [if_neg h, e]
theorem seekFix_step {f : Nat} {M M' : Mem} {s s' : Sk} {b : Bool} {n : Nat} (h : ¬ 4 ≤ s.ph) (e : seekE M s = (M', s', b)) : seekFix (f + 1) M s n = seekFix f M s' (n + 1) := by
 conv => lhs; unfold seekFix
 rw [if_neg h, e]
/-- What seeking comes to in a list of nodes. -/
def findS (hash key : Nat) : Nat → List Nd → Sk × Nat
 | link, [] => (⟨4, hash, key, link, 0, 0, false⟩, 1)
 | link, x :: r => if x.2.2.2 < hash then ((findS hash key (x.1 + 2) r).1, (findS hash key (x.1 + 2) r).2 + 2)
  else if hash < x.2.2.2 then (⟨4, hash, key, link, x.1, 0, false⟩, 2)
  else if x.2.1 < key then ((findS hash key (x.1 + 2) r).1, (findS hash key (x.1 + 2) r).2 + 3)
  else if key < x.2.1 then (⟨4, hash, key, link, x.1, 0, false⟩, 3)
  else (⟨4, hash, key, link, x.1, x.2.2.1, true⟩, 4)
theorem findS_ph (hash key : Nat) : ∀ (link : Nat) (xs : List Nd), (findS hash key link xs).1.ph = 4
 | link, [] => rfl
 | link, x :: r => by
  unfold findS
  split
  ·exact findS_ph hash key _ r
  ·split
   ·rfl
   ·split
    ·exact findS_ph hash key _ r
    ·split <;> rfl
theorem seekE_eq {M : Mem} {s : Sk} {q x : Nat} (ph : Nat) (hph : s.ph = ph) (h4 : ph < 4) (hq : needS s ph = q) (hl : liveN M q = true) (hx : M.W.getD q 0 = x) : seekE M s = (M, thenS s x ph, true) := by
 unfold seekE
 have e : s.ph.toNat = ph := by omega
 rw [if_neg (by omega), e, hq, load_live hl, hx]
 rfl
/-- Seeking steps from node to node. -/
theorem seek_chain {M : Mem} (hok : okM M = true) (hash key : Nat) : ∀ (xs : List Nd) (link nd n F : Nat), liveN M (posL link 0) = true → ChainP M (wAt M link 0) xs → 4 * xs.length + 1 ≤ F →
  seekRun F M ⟨0, hash, key, link, nd, 0, false⟩ n = (M, (findS hash key link xs).1, n + (findS hash key link xs).2) ∧
  seekFix F M ⟨0, hash, key, link, nd, 0, false⟩ n = ((findS hash key link xs).1, n + (findS hash key link xs).2)
 | [], link, nd, n, F, hl, hc, hF => by
  obtain ⟨F, rfl⟩ : ∃ g, F = g + 1 := ⟨F - 1, by simp at hF; omega⟩
  have hc0 : wAt M link 0 = 0 := hc
  have e := seekE_eq (M := M) (s := ⟨0, hash, key, link, nd, 0, false⟩) (q := posL link 0) (x := 0) 0 rfl (by decide) rfl hl hc0
  have h4 : ¬ 4 ≤ (⟨0, hash, key, link, nd, 0, false⟩ : Sk).ph := by show ¬ (4 : Int) ≤ 0; decide
  rw [seekRun_step h4 e, seekFix_step h4 e, seekRun_end (by show (4 : Int) ≤ 4; decide), seekFix_end (by show (4 : Int) ≤ 4; decide)]
  exact ⟨rfl, rfl⟩
 | x :: r, link, nd, n, F, hl, hc, hF => by
  obtain ⟨hx, hp0, hlv, hr⟩ := hc
  obtain ⟨p, hp⟩ := nm (wAt M link 0)
  rw [hp] at hx hp0 hlv hr
  subst hx
  simp only [List.length_cons] at hF
  obtain ⟨F, rfl⟩ : ∃ g, F = g + 4 := ⟨F - 4, by omega⟩
  obtain ⟨hs1, hs2, hs3⟩ := live_small hok (hlv 2 (by decide))
  have hmod : (p + 2) % 18446744073709551616 = p + 2 := by omega
  have hpl : posL (p + 2) 0 = posL p 2 := by rw [hs2]; unfold posL; obtain ⟨a, b, -⟩ := okM_spec hok; omega
  have hwn : wAt M (p + 2) 0 = wAt M p 2 := by unfold wAt; rw [hpl]
  have hlive2 : liveN M (posL (p + 2) 0) = true := by rw [hpl]; exact hlv 2 (by decide)
  have e0 := seekE_eq (M := M) (s := ⟨0, hash, key, link, nd, 0, false⟩) (q := posL link 0) (x := p) 0 rfl (by decide) rfl hl hp
  have t0 : thenS ⟨0, hash, key, link, nd, 0, false⟩ p 0 = ⟨1, hash, key, link, p, 0, false⟩ := by
   show (⟨if p = 0 then 4 else 1, hash, key, link, p, 0, false⟩ : Sk) = _
   rw [if_neg hp0]
  rw [t0] at e0
  have e1 := seekE_eq (M := M) (s := ⟨1, hash, key, link, p, 0, false⟩) (q := posL p 3) (x := wAt M p 3) 1 rfl (by decide) rfl (hlv 3 (by decide)) rfl
  have n0 : ¬ 4 ≤ (⟨0, hash, key, link, nd, 0, false⟩ : Sk).ph := by show ¬ (4 : Int) ≤ 0; decide
  have n1 : ¬ 4 ≤ (⟨1, hash, key, link, p, 0, false⟩ : Sk).ph := by show ¬ (4 : Int) ≤ 1; decide
  rw [seekRun_step n0 e0, seekFix_step n0 e0, seekRun_step n1 e1, seekFix_step n1 e1]
  show seekRun (F + 1 + 1) M (cmpS ⟨1, hash, key, link, p, 0, false⟩ (wAt M p 3) hash 2) (n + 1 + 1) = _ ∧ seekFix (F + 1 + 1) M (cmpS ⟨1, hash, key, link, p, 0, false⟩ (wAt M p 3) hash 2) (n + 1 + 1) = _
  have hf : findS hash key link (ndAt M p :: r) = if wAt M p 3 < hash then ((findS hash key (p + 2) r).1, (findS hash key (p + 2) r).2 + 2)
   else if hash < wAt M p 3 then (⟨4, hash, key, link, p, 0, false⟩, 2)
   else if wAt M p 0 < key then ((findS hash key (p + 2) r).1, (findS hash key (p + 2) r).2 + 3)
   else if key < wAt M p 0 then (⟨4, hash, key, link, p, 0, false⟩, 3)
   else (⟨4, hash, key, link, p, wAt M p 1, true⟩, 4) := rfl
  rw [hf]
  unfold cmpS
  split
  ·dsimp only
   rw [hmod]
   obtain ⟨i1, i2⟩ := seek_chain hok hash key r (p + 2) p (n + 1 + 1) (F + 1 + 1) hlive2 (by rw [hwn]; exact hr) (by omega)
   rw [i1, i2]
   exact ⟨by rw [show n + 1 + 1 + (findS hash key (p + 2) r).2 = n + ((findS hash key (p + 2) r).2 + 2) by omega], by rw [show n + 1 + 1 + (findS hash key (p + 2) r).2 = n + ((findS hash key (p + 2) r).2 + 2) by omega]⟩
  ·split
   ·rw [seekRun_end (by show (4 : Int) ≤ 4; decide), seekFix_end (by show (4 : Int) ≤ 4; decide)]
    exact ⟨rfl, rfl⟩
   ·have e2 := seekE_eq (M := M) (s := ⟨2, hash, key, link, p, 0, false⟩) (q := posL p 0) (x := wAt M p 0) 2 rfl (by decide) rfl (hlv 0 (by decide)) rfl
    have n2 : ¬ 4 ≤ (⟨2, hash, key, link, p, 0, false⟩ : Sk).ph := by show ¬ (4 : Int) ≤ 2; decide
    rw [seekRun_step n2 e2, seekFix_step n2 e2]
    show seekRun (F + 1) M (cmpS ⟨2, hash, key, link, p, 0, false⟩ (wAt M p 0) key 3) (n + 1 + 1 + 1) = _ ∧ seekFix (F + 1) M (cmpS ⟨2, hash, key, link, p, 0, false⟩ (wAt M p 0) key 3) (n + 1 + 1 + 1) = _
    unfold cmpS
    split
    ·dsimp only
     rw [hmod]
     obtain ⟨i1, i2⟩ := seek_chain hok hash key r (p + 2) p (n + 1 + 1 + 1) (F + 1) hlive2 (by rw [hwn]; exact hr) (by omega)
     rw [i1, i2]
     exact ⟨by rw [show n + 1 + 1 + 1 + (findS hash key (p + 2) r).2 = n + ((findS hash key (p + 2) r).2 + 3) by omega], by rw [show n + 1 + 1 + 1 + (findS hash key (p + 2) r).2 = n + ((findS hash key (p + 2) r).2 + 3) by omega]⟩
    ·split
     ·rw [seekRun_end (by show (4 : Int) ≤ 4; decide), seekFix_end (by show (4 : Int) ≤ 4; decide)]
      exact ⟨rfl, rfl⟩
     ·have e3 := seekE_eq (M := M) (s := ⟨3, hash, key, link, p, 0, false⟩) (q := posL p 1) (x := wAt M p 1) 3 rfl (by decide) rfl (hlv 1 (by decide)) rfl
      have n3 : ¬ 4 ≤ (⟨3, hash, key, link, p, 0, false⟩ : Sk).ph := by show ¬ (4 : Int) ≤ 3; decide
      rw [seekRun_step n3 e3, seekFix_step n3 e3, seekRun_end (by show (4 : Int) ≤ 4; decide), seekFix_end (by show (4 : Int) ≤ 4; decide)]
      exact ⟨rfl, rfl⟩
/-- The words of a list. -/
def wordsL (head : Nat) (xs : List Nd) : List Nat := posL head 0 :: xs.flatMap fun x => [posL x.1 0, posL x.1 1, posL x.1 2, posL x.1 3]
theorem goW_words {M : Mem} : ∀ (f place : Nat) (met : List Nat) (out xs : List Nd), goW M f place met out = some xs → (∀ x ∈ met, x < M.L.length) → met.Nodup → ∃ r, xs = out ++ r ∧ (met ++ r.flatMap fun x => [posL x.1 0, posL x.1 1, posL x.1 2, posL x.1 3]).Nodup ∧ (∀ x ∈ r.flatMap fun x => [posL x.1 0, posL x.1 1, posL x.1 2, posL x.1 3], liveN M x = true)
 | 0, place, met, out, xs, h, _, _ => by unfold goW at h; cases h
 | f + 1, place, met, out, xs, h, hm, hn => by
  by_cases h0 : place = 0
  ·subst h0
   rw [goW_zero] at h
   cases h
   exact ⟨[], by simp, by simpa using hn, by simp⟩
  ·cases ht : takeP M place (List.range 4) met with
   | none => rw [goW_none h0 ht] at h; cases h
   | some m2 =>
    rw [goW_some h0 ht] at h
    obtain ⟨s1, s2, s3, s4⟩ := takeP_spec M place _ _ _ ht
    have hm2 : m2 = met ++ [posL place 0, posL place 1, posL place 2, posL place 3] := by
     have e := ht
     rw [show List.range 4 = [0, 1, 2, 3] from rfl] at e
     unfold takeP at e
     split at e
     ·unfold takeP at e
      split at e
      ·unfold takeP at e
       split at e
       ·unfold takeP at e
        split at e
        ·unfold takeP at e
         cases e
         simp
        ·cases e
       ·cases e
      ·cases e
     ·cases e
    obtain ⟨r, e, hr1, hr2⟩ := goW_words f _ _ _ _ h (fun x hx => (s4 x hx).elim (hm x) live_lt) (s2 hn)
    refine ⟨ndAt M place :: r, by rw [e]; simp, ?_, ?_⟩
    ·rw [hm2] at hr1
     rw [List.flatMap_cons, ← List.append_assoc]
     exact hr1
    ·intro x hx
     rw [List.flatMap_cons] at hx
     rcases List.mem_append.1 hx with hx | hx
     ·simp only [List.mem_cons, List.not_mem_nil, or_false] at hx
      rcases hx with rfl | rfl | rfl | rfl
      ·exact s1 0 (by simp)
      ·exact s1 1 (by simp)
      ·exact s1 2 (by simp)
      ·exact s1 3 (by simp)
     ·exact hr2 x hx
theorem nodesW_words {M : Mem} {head : Nat} {xs : List Nd} (h : nodesW M head = some xs) : (wordsL head xs).Nodup ∧ ∀ x ∈ wordsL head xs, liveN M x = true := by
 cases ht : takeP M head [0] [] with
 | none => rw [nodesW_none ht] at h; cases h
 | some m0 =>
  have hl := (takeP_spec M head _ _ _ ht).1 0 (by simp)
  have hm0 : m0 = [posL head 0] := by
   have e := ht
   unfold takeP at e
   split at e
   ·unfold takeP at e; cases e; rfl
   ·cases e
  rw [nodesW_some ht, hm0] at h
  obtain ⟨r, e, h1, h2⟩ := goW_words _ _ _ _ _ h (by intro x hx; simp at hx; subst hx; exact live_lt hl) (by simp)
  have e' : xs = r := by simpa using e
  subst e'
  refine ⟨h1, ?_⟩
  intro x hx
  rcases List.mem_cons.1 hx with rfl | hx
  ·exact hl
  ·exact h2 x hx
theorem flat4_len (xs : List Nd) : (xs.flatMap fun x => [posL x.1 0, posL x.1 1, posL x.1 2, posL x.1 3]).length = 4 * xs.length := by
 induction xs with
 | nil => rfl
 | cons x xs ih => simp only [List.flatMap_cons, List.length_append, ih, List.length_cons, List.length_nil]; omega
theorem nodesW_len {M : Mem} {head : Nat} {xs : List Nd} (hok : okM M = true) (h : nodesW M head = some xs) : 4 * xs.length + 1 ≤ 4096 := by
 obtain ⟨h1, h2⟩ := nodesW_words h
 obtain ⟨q1, q2, q3, -⟩ := okM_spec hok
 have := nodup_lt (n := M.L.length) h1 (fun x hx => live_lt (h2 x hx))
 have e : (wordsL head xs).length = 4 * xs.length + 1 := by unfold wordsL; rw [List.length_cons, flat4_len]
 omega
theorem find_run {M : Mem} {head : Nat} {xs : List Nd} (hok : okM M = true) (h : nodesR M head = some xs) (hash key : Nat) :
  seekRun 4200 M ⟨0, hash, key, head, 0, 0, false⟩ 0 = (M, findS hash key head xs) ∧ seekFix 4200 M ⟨0, hash, key, head, 0, 0, false⟩ 0 = findS hash key head xs := by
 obtain ⟨hw, -⟩ := nodesR_some h
 obtain ⟨h1, h2⟩ := nodesW_chain hw
 have hl := nodesW_len hok hw
 have := seek_chain hok hash key xs head 0 0 4200 h1 h2 (by omega)
 rw [Nat.zero_add] at this
 exact this
/-- Who edits, step by step. -/
def editRun : Nat → Mem → Ede → Nat → Mem × Ede × Nat
 | 0, M, s, n => (M, s, n)
 | f + 1, M, s, n => if 6 ≤ s.ph then (M, s, n) else editRun f (editE M s).1 (editE M s).2.1 (n + 1)
theorem editE_ok {M : Mem} {s : Ede} (hok : okM M = true) (hW : ∀ x ∈ M.W, x < 18446744073709551616) (hs : s.Ok) (h0 : 0 ≤ s.ph) (h7 : s.ph ≤ 7) : okM (editE M s).1 = true ∧ (∀ x ∈ (editE M s).1.W, x < 18446744073709551616) ∧ (editE M s).2.1.Ok ∧ (s.ph < 6 → s.ph < (editE M s).2.1.ph ∧ (editE M s).2.1.ph ≤ 7) ∧ (editE M s).1.W.length = M.W.length ∧ (editE M s).1.L = M.L ∧ (s.ph < 6 → (editE M s).2.2 = true) ∧ (6 ≤ s.ph → (editE M s) = (M, s, false)) := by
 have key : ∀ (st : Bool) (q new : Nat), new < 18446744073709551616 → okM (stepM M st ((q : Nat) : Int) new).1 = true ∧ (∀ x ∈ (stepM M st ((q : Nat) : Int) new).1.W, x < 18446744073709551616) ∧ (stepM M st ((q : Nat) : Int) new).2.1 < 18446744073709551616 ∧ (stepM M st ((q : Nat) : Int) new).1.W.length = M.W.length ∧ (stepM M st ((q : Nat) : Int) new).1.L = M.L := by
  intro st q new hnew
  obtain ⟨q1, q2, q3, q4⟩ := okM_spec hok
  unfold stepM
  rw [liveAt_eq]
  cases hl : liveN M q with
  | false =>
   rw [if_neg (by decide)]
   refine ⟨?_, hW, by show (0 : Nat) < _; decide, rfl, rfl⟩
   unfold okM at hok ⊢
   exact hok
  | true =>
   rw [if_pos rfl]
   have hd : M.W.getD q 0 < 18446744073709551616 := by
    rw [List.getD_eq_getElem?_getD]
    cases h : M.W[q]? with
    | none => simp
    | some x => exact hW x (List.mem_of_getElem? h)
   rw [Int.toNat_natCast]
   cases st with
   | false => exact ⟨hok, hW, hd, rfl, rfl⟩
   | true =>
    refine ⟨?_, ?_, hd, by simp, rfl⟩
    ·rw [if_pos rfl]
     unfold okM
     simp only [List.length_set]
     rw [decide_eq_true q1, decide_eq_true q2, decide_eq_true q3]
     simp only [Bool.true_and]
     rw [List.all_eq_true]
     intro p hp
     obtain ⟨i, hi⟩ := List.mem_iff_getElem?.1 hp
     rw [List.getElem?_zip_eq_some] at hi
     obtain ⟨i1, i2⟩ := hi
     by_cases hiq : q = i
     ·subst hiq
      unfold liveN at hl
      rw [i2] at hl
      have : p.2 = true := by simpa using hl
      unfold wordOk
      rw [this]; rfl
     ·rw [List.getElem?_set_ne hiq] at i1
      have := List.all_eq_true.1 q4 p (List.mem_iff_getElem?.2 ⟨i, by rw [List.getElem?_zip_eq_some]; exact ⟨i1, i2⟩⟩)
      exact this
    ·intro x hx
     rw [if_pos rfl] at hx
     rcases List.mem_or_eq_of_mem_set hx with h | h
     ·exact hW x h
     ·rw [h]; exact hnew
 by_cases h6 : 6 ≤ s.ph
 ·have e : editE M s = (M, s, false) := by unfold editE; rw [if_pos h6]
  rw [e]
  exact ⟨hok, hW, hs, fun h => by omega, rfl, rfl, fun h => by omega, fun _ => rfl⟩
 ·obtain ⟨ph, cuts, link, at_, k, v, hh, nx⟩ := s
  obtain ⟨hs0, hs1, hs2, hs3, hs4, hs5, hs6⟩ := hs
  dsimp only at *
  have hn : (needE ⟨ph, cuts, link, at_, k, v, hh, nx⟩ ph.toNat).2.2 < 18446744073709551616 := by
   unfold needE
   split <;> dsimp only <;> first | assumption | decide | (split <;> assumption)
  have hk := key (ph != 4) ((needE ⟨ph, cuts, link, at_, k, v, hh, nx⟩ ph.toNat).2.1) _ hn
  obtain ⟨k1, k2, k3, k4, k5⟩ := hk
  have hnx : ph < nextE ph.toNat ∧ nextE ph.toNat ≤ 6 := by
   rcases (show ph = 0 ∨ ph = 1 ∨ ph = 2 ∨ ph = 3 ∨ ph = 4 ∨ ph = 5 by omega) with e | e | e | e | e | e <;> subst e <;> decide
  have e : ∀ M' x d, stepM M (ph != 4) (((needE ⟨ph, cuts, link, at_, k, v, hh, nx⟩ ph.toNat).2.1 : Nat) : Int) (needE ⟨ph, cuts, link, at_, k, v, hh, nx⟩ ph.toNat).2.2 = (M', x, d) →
    editE M ⟨ph, cuts, link, at_, k, v, hh, nx⟩ = (M', if d = true then ⟨nextE ph.toNat, cuts, link, at_, k, v, hh, if ph = 4 then x else nx⟩ else ⟨7, cuts, link, at_, k, v, hh, nx⟩, true) := by
   intro M' x d he
   unfold editE
   rw [if_neg h6]
   dsimp only
   rw [he]
  obtain ⟨⟨M', x, d⟩, hX⟩ : ∃ X, stepM M (ph != 4) (((needE ⟨ph, cuts, link, at_, k, v, hh, nx⟩ ph.toNat).2.1 : Nat) : Int) (needE ⟨ph, cuts, link, at_, k, v, hh, nx⟩ ph.toNat).2.2 = X := ⟨_, rfl⟩
  rw [hX] at k1 k2 k3 k4 k5
  rw [e _ _ _ hX]
  dsimp only at k1 k2 k3 k4 k5 ⊢
  refine ⟨k1, k2, ?_, fun _ => ?_, k4, k5, fun _ => rfl, fun h => absurd h h6⟩
  ·split
   ·refine ⟨by dsimp only; omega, hs1, hs2, hs3, hs4, hs5, ?_⟩
    dsimp only
    split
    ·exact k3
    ·exact hs6
   ·exact ⟨by dsimp only; decide, hs1, hs2, hs3, hs4, hs5, hs6⟩
  ·split
   ·dsimp only; omega
   ·dsimp only; omega
end Go.Proofs.YtipohagcppfgiaaGreat
