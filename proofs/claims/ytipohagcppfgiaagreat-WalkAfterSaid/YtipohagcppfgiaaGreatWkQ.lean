/- Layer 17, several texts in one. -/
import Derived.Test.YtipohagcppfgiaaGreatWkP
namespace Go.Proofs.YtipohagcppfgiaaGreat
open Go.RowKit
open Go.Proofs
set_option linter.unusedVariables false
theorem takeN_ok {M : Mem} : ∀ {k p : Nat} {met : List Nat}, (∀ i, i < k → liveN M (p + i) = true) → (met ++ List.range' p k).Nodup → takeN M p k met = some (met ++ List.range' p k)
  | 0, p, met, _, _ => by simp [takeN]
  | k + 1, p, met, h, hn => by
    have h0 : liveN M p = true := h 0 (by omega)
    rw [List.range'_succ] at hn ⊢
    have hp : p ∉ met := fun hm => (List.nodup_append.1 hn).2.2 p hm p (List.mem_cons_self ..) rfl
    unfold takeN
    rw [if_pos (by unfold freeB; rw [h0, decide_eq_false hp]; rfl)]
    rw [takeN_ok (fun i hi => by have := h (i + 1) (by omega); rwa [show p + (i + 1) = p + 1 + i by omega] at this) (by rw [List.append_assoc]; exact hn), List.append_assoc]
    rfl
theorem live_4096 {M : Mem} (hok : okM M = true) {p : Nat} (h : liveN M p = true) : p < 4096 := by
  have := live_lt h
  have h2 := okM_spec hok
  omega
theorem takes_ok {M : Mem} (hok : okM M = true) : ∀ {xs : List Nd} {met : List Nat}, (∀ w ∈ wlL xs, liveN M w = true) → (met ++ wlL xs).Nodup → takes M xs met = some (met ++ wlL xs)
  | [], met, _, _ => by simp [takes, wlL]
  | x :: xs, met, h, hn => by
    rw [wlL_cons] at h hn ⊢
    have hx : ∀ i, i < 4 → posL x.1 i ∈ w4L x := fun i hi => by
      unfold w4L
      match i, hi with
      | 0, _ => simp
      | 1, _ => simp
      | 2, _ => simp
      | 3, _ => simp
    have h0 := live_4096 hok (h _ (List.mem_append_left _ (hx 0 (by decide))))
    have hlt : x.1 < 4096 := by unfold posL at h0; omega
    have hw := w4L_range (t := x) hlt
    have hp : ∀ i, posL x.1 i = x.1 + i := fun i => by unfold posL; omega
    have hl : ∀ i, i < 4 → liveN M (x.1 + i) = true := fun i hi => by rw [← hp]; exact h _ (List.mem_append_left _ (hx i hi))
    rw [hw] at hn ⊢
    have e : takes M (x :: xs) met = (takeW M x.1 4 met).bind (takes M xs) := rfl
    rw [e]
    unfold takeW
    rw [if_neg (by omega), takeN_ok hl (by rw [← List.append_assoc] at hn; exact (List.nodup_append.1 hn).1), Option.bind_some, takes_ok hok (fun w hm => h w (List.mem_append_right _ hm)) (by rw [List.append_assoc]; exact hn), List.append_assoc]
/-- Why a walk may not be. -/
def whyP (w : Wal) : Nat := if okM w.M = false ∨ w.M.F = true then 120 else match nodesR w.M w.head with
  | none => 250
  | some xs => if 16 < w.J.length ∨ 8 < w.K.length then 2 else match takesJ w.M w.J (wordsL w.head xs) with
    | none => 2
    | some _ => 0
theorem whyP_eq (w : Wal) : whyP w = (wFault w).2 := by
  unfold whyP wFault
  by_cases h0 : okM w.M = false ∨ w.M.F = true
  · rw [if_pos h0, if_pos h0]
  · rw [if_neg h0, if_neg h0]
    have hok : okM w.M = true := by cases h : okM w.M with | true => rfl | false => exact absurd (.inl h) h0
    have hF : w.M.F = false := by cases h : w.M.F with | false => rfl | true => exact absurd (.inr h) h0
    unfold wNodes
    cases hn : nodesR w.M w.head with
    | none => rw [nodesP_none hok hn, if_pos (by decide)]
    | some xs =>
      rw [nodesP_some hok hn, if_neg (by simp), hF, if_neg (by decide)]
      dsimp only
      by_cases h1 : 16 < w.J.length ∨ 8 < w.K.length
      · rw [if_pos h1, if_pos h1]
      · rw [if_neg h1, if_neg h1]
        have hc := chain_of hn
        have hd := hc.nd
        have hl := hc.live
        have hh : wordsL w.head xs = posL w.head 0 :: wlL xs := rfl
        rw [hh] at hd hl
        have hp0 := hl _ (List.mem_cons_self ..)
        have hlt : w.head < 4096 := by have := live_4096 hok hp0; unfold posL at this; omega
        have hp : posL w.head 0 = w.head := by unfold posL; omega
        have hA : (takeW w.M w.head 1 []).bind (takes w.M xs) = some (wordsL w.head xs) := by
          unfold takeW
          rw [if_neg (by omega), takeN_ok (fun i hi => by rw [show w.head + i = posL w.head 0 by omega]; exact hp0) (by simp), Option.bind_some, takes_ok hok (fun x hx => hl x (List.mem_cons_of_mem _ hx)) (by rw [hp] at hd; exact hd), hh, hp]
          rfl
        unfold wAll
        rw [hA, Option.bind_some]
        cases takesJ w.M w.J (wordsL w.head xs) <;> rfl
end Go.Proofs.YtipohagcppfgiaaGreat
namespace Go.Proofs.YtipohagcppfgiaaGreat
open Go.RowKit
open Go.Proofs
set_option linter.unusedVariables false
/-- The phases of who writes. -/
theorem inv_ph {w : Wal} {xs0 : List Nd} {g : Gst} {pub : List Nd} (h : WInv w xs0 g pub) (hd : g.done < w.J.length) : (g.edits = true → 0 ≤ g.ed.ph ∧ g.ed.ph ≤ 7) ∧ (g.edits = false → 0 ≤ g.wr.ph ∧ g.wr.ph ≤ 5) := by
  have hs := h.st
  obtain ⟨M, d, eb, e, s, R⟩ := g
  dsimp only at hs hd ⊢
  cases hs with
  | idle b e s h => omega
  | seek j e n hj h4 hb => exact ⟨fun h => (by cases h), fun _ => ⟨hb.p0, by have := hb.p4; omega⟩⟩
  | cut4 j s hj hc hf => exact ⟨fun _ => (by show (0 : Int) ≤ 4 ∧ (4 : Int) ≤ 7; decide), fun h => (by cases h)⟩
  | cut5 j s hj hc hf => exact ⟨fun _ => (by show (0 : Int) ≤ 5 ∧ (5 : Int) ≤ 7; decide), fun h => (by cases h)⟩
  | put j s M0 k hj hc hf hk hM hp0 hch hfit =>
    refine ⟨fun _ => ?_, fun h => by cases h⟩
    show 0 ≤ phk k ∧ phk k ≤ 7
    match k, hk with
    | 0, _ => decide
    | 1, _ => decide
    | 2, _ => decide
    | 3, _ => decide
    | 4, _ => decide
/-- A reader's step. -/
theorem inv_rd {w : Wal} {xs0 : List Nd} {g : Gst} {pub : List Nd} (h : WInv w xs0 g pub) {s : Sk} (hs : s ∈ g.R) : sseekP g.M s = ((seekE g.M s).1, (seekE g.M s).2.1, 0) := by
  have hb := h.rd s hs
  have h0 := hb.p0
  have h4 := hb.p4
  unfold sseekP
  rw [h.p.ok, if_neg (by decide), if_neg (by omega)]
theorem beginD_eq {w : Wal} (h : w.M.F = false) : ofG w = beginsG w.J w.head ⟨w.M, 0, false, zeroEd, zeroSk, seeksK w.head w.K⟩ := by
  unfold ofG
  rw [show (⟨w.M.W, w.M.L, false⟩ : Mem) = w.M by rw [← h]]
end Go.Proofs.YtipohagcppfgiaaGreat
namespace Go.Proofs.YtipohagcppfgiaaGreat
open Go.RowKit
open Go.Proofs
set_option linter.unusedVariables false
theorem overG_R (J : List Jb) (head : Nat) (g : Gst) : (overG J head g).R = g.R := by
  unfold overG
  split
  · rfl
  · split
    · rfl
    · split <;> rfl
theorem writeG_R (J : List Jb) (head : Nat) (g : Gst) : (writeG J head g).R = g.R := by
  unfold writeG
  split
  · rfl
  · split
    · unfold editG; split <;> rfl
    · unfold seekG
      split
      · rw [overG_R]
      · rfl
end Go.Proofs.YtipohagcppfgiaaGreat
namespace Go.Proofs.YtipohagcppfgiaaGreat
open Go.RowKit
open Go.Proofs
set_option linter.unusedVariables false
theorem wIter_left (J : List Jb) (head : Nat) (g : Gst) : ∀ k, wIter J head g (k + 1) = wIter J head (writeG J head g) k
  | 0 => rfl
  | k + 1 => by
    show writeG J head (wIter J head g (k + 1)) = writeG J head (wIter J head (writeG J head g) k)
    rw [wIter_left J head g k]
theorem wIter_add (J : List Jb) (head : Nat) (g : Gst) (a : Nat) : ∀ b, wIter J head g (a + b) = wIter J head (wIter J head g a) b
  | 0 => rfl
  | b + 1 => by
    show writeG J head (wIter J head g (a + b)) = writeG J head (wIter J head (wIter J head g a) b)
    rw [wIter_add J head g a b]
theorem seekIt_left (M : Mem) (s : Sk) : ∀ k, seekIt M (k + 1) s = seekIt M k (seekE M s).2.1
  | 0 => rfl
  | k + 1 => by
    show (seekE M (seekIt M (k + 1) s)).2.1 = (seekE M (seekIt M k (seekE M s).2.1)).2.1
    rw [seekIt_left M s k]
/-- Who seeks has so many steps left. -/
def SeekLeft (M : Mem) (s : Sk) (k : Nat) : Prop := (∀ i, i < k → (seekIt M i s).ph < 4) ∧ (seekIt M k s).ph = 4
theorem seekLeft_of {M : Mem} : ∀ (F : Nat) (s : Sk) (c : Nat), (seekFix F M s c).1.ph = 4 → s.ph ≤ 4 → ∃ k, k ≤ F ∧ SeekLeft M s k
  | 0, s, c, h, _ => ⟨0, Nat.le_refl _, fun i hi => by omega, h⟩
  | F + 1, s, c, h, h4 => by
    by_cases e : 4 ≤ s.ph
    · exact ⟨0, Nat.zero_le _, fun i hi => by omega, by show s.ph = 4; omega⟩
    · unfold seekFix at h
      rw [if_neg e] at h
      by_cases e5 : (seekE M s).2.1.ph ≤ 4
      · obtain ⟨k, hk, h1, h2⟩ := seekLeft_of F _ _ h e5
        refine ⟨k + 1, by omega, fun i hi => ?_, by rw [seekIt_left]; exact h2⟩
        cases i with
        | zero => show s.ph < 4; omega
        | succ i => rw [seekIt_left]; exact h1 i (by omega)
      · rw [seekFix_end (by omega)] at h
        dsimp only at h
        omega
/-- Steps that are left for this job. -/
def Rank (g : Gst) (r : Nat) : Prop := (g.edits = true ∧ (8 - g.ed.ph).toNat ≤ r) ∨ (g.edits = false ∧ ∃ k, SeekLeft g.M g.wr k ∧ k + 9 ≤ r)
theorem rank_of {w : Wal} {xs0 : List Nd} {g : Gst} {pub : List Nd} (h : WInv w xs0 g pub) (hd : g.done < w.J.length) : Rank g 4220 := by
  have hs := h.st
  have hc := h.chain
  have hp := h.p.ok
  have hph := inv_ph h hd
  obtain ⟨M, d, eb, e, s, R⟩ := g
  dsimp only at hs hd hc hp hph ⊢
  cases eb with
  | true =>
    refine .inl ⟨rfl, ?_⟩
    have := (hph.1 rfl).1
    show (8 - e.ph).toNat ≤ 4220
    omega
  | false =>
    refine .inr ⟨rfl, ?_⟩
    cases hs with
    | idle b e s h => omega
    | seek j e n hj h4 hb =>
      have hf := (find_run hp (of_chain hp hc) j.2.2.2.2 j.2.2.1).2
      have hn : n ≤ 4200 := by
        refine Nat.le_of_not_lt fun hlt => ?_
        have h5 := seekFix_it (M := M) (seekK w.head j.2.2.2.2 j.2.2.1) 4200 4200 0 (fun i hi => h4 i (by omega)) (Nat.le_refl _)
        rw [Nat.sub_self] at h5
        have h6 : (seekFix 4200 M (seekK w.head j.2.2.2.2 j.2.2.1) 0).1.ph = 4 := by
          have := findS_ph j.2.2.2.2 j.2.2.1 w.head (afterL xs0 (w.J.take d))
          rw [← hf] at this
          exact this
        rw [h5] at h6
        have h7 := h4 4200 (by omega)
        have h8 : (seekIt M 4200 (seekK w.head j.2.2.2.2 j.2.2.1)).ph = 4 := h6
        omega
      have h5 := seekFix_it (M := M) (seekK w.head j.2.2.2.2 j.2.2.1) n 4200 0 (fun i hi => h4 i (by omega)) hn
      have h6 : (seekFix 4200 M (seekK w.head j.2.2.2.2 j.2.2.1) 0).1.ph = 4 := by
        have := findS_ph j.2.2.2.2 j.2.2.1 w.head (afterL xs0 (w.J.take d))
        rw [← hf] at this
        exact this
      rw [h5] at h6
      obtain ⟨k, hk, hl⟩ := seekLeft_of _ _ _ h6 (by have := h4 n (Nat.le_refl _); omega)
      exact ⟨k, hl, by omega⟩
theorem rank_step {w : Wal} {xs0 : List Nd} (hg : WGiven w xs0) {g : Gst} {pub : List Nd} {r : Nat} (h : WInv w xs0 g pub) (hd : g.done < w.J.length) (hr : Rank g r) :
    (writeG w.J w.head g).done = g.done + 1 ∨ ((writeG w.J w.head g).done = g.done ∧ ∃ r', r = r' + 1 ∧ Rank (writeG w.J w.head g) r') := by
  obtain ⟨pub', -, h'⟩ := write_inv hg h
  have hph := inv_ph h hd
  have hst := h.st
  have hp := h.p
  have hW := h.wok
  have hph' := fun e => inv_ph h' e
  obtain ⟨M, d, eb, e, s, R⟩ := g
  dsimp only at hd hph hst hp hW
  have hdn : d ≠ w.J.length := by omega
  unfold writeG at hph' ⊢
  dsimp only at hph' ⊢
  rw [if_neg hdn] at hph' ⊢
  cases eb with
  | true =>
    rw [if_pos rfl] at hph' ⊢
    rcases hr with ⟨-, hr⟩ | ⟨q, -⟩
    · dsimp only at hr
      unfold editG at hph' ⊢
      dsimp only at hph' ⊢
      by_cases h6 : (seditP M e).2.1.ph = 6
      · rw [if_pos h6]; exact .inl rfl
      · rw [if_neg h6] at hph' ⊢
        refine .inr ⟨rfl, r - 1, ?_, .inl ⟨rfl, ?_⟩⟩
        · have := (hph.1 rfl).2; omega
        · have h0 := (hph.1 rfl).1
          have h7 := ((hph' hd).1 rfl).2
          dsimp only at h7 ⊢
          have heok : e.ph < 6 := by
            cases hst with
            | idle b e s h => omega
            | cut4 j s hj hc hf => show (4 : Int) < 6; decide
            | cut5 j s hj hc hf => show (5 : Int) < 6; decide
            | put j s M0 k hj hc hf hk hM hp0 hch hfit =>
              show phk k < 6
              match k, hk with
              | 0, _ => decide
              | 1, _ => decide
              | 2, _ => decide
              | 3, _ => decide
              | 4, _ => decide
          have hgt : e.ph < (seditP M e).2.1.ph := by
            unfold seditP
            rw [hp.ok, if_neg (by decide), if_neg (by omega)]
            show e.ph < (editE M e).2.1.ph
            unfold editE
            rw [if_neg (by omega)]
            dsimp only
            split
            · show e.ph < nextE e.ph.toNat
              obtain ⟨n, hn⟩ : ∃ n : Nat, e.ph = (n : Int) := ⟨e.ph.toNat, by omega⟩
              rw [hn, Int.toNat_natCast]
              match n, (by omega : n < 6) with
              | 0, _ => decide
              | 1, _ => decide
              | 2, _ => decide
              | 3, _ => decide
              | 4, _ => decide
              | 5, _ => decide
            · show e.ph < 7; omega
          omega
    · cases q
  | false =>
    rw [if_neg (by decide)] at hph' ⊢
    rcases hr with ⟨q, -⟩ | ⟨-, k, hk, hkr⟩
    · cases q
    · dsimp only at hk
      cases hst with
      | idle b e s h => omega
      | seek j e n hj h4 hb =>
        obtain ⟨s', hse, hb', -, -, -, -⟩ := rd_step hp hW hb (by have := h4 n (Nat.le_refl _); omega)
        have hsq := sseek_eq hp.ok hb.p0 (by have := h4 n (Nat.le_refl _); omega) hse
        unfold seekG
        dsimp only
        rw [hsq]
        dsimp only
        by_cases hs4 : s'.ph = 4
        · rw [if_pos hs4]
          unfold overG
          dsimp only
          rw [hj]
          dsimp only
          by_cases c1 : j.1 = true ∧ s'.found = true
          · rw [if_pos c1]
            exact .inr ⟨rfl, r - 1, by omega, .inl ⟨rfl, by show (8 - (4 : Int)).toNat ≤ r - 1; omega⟩⟩
          · rw [if_neg c1]
            by_cases c2 : j.1 = false ∧ s'.found = false
            · rw [if_pos c2]
              exact .inr ⟨rfl, r - 1, by omega, .inl ⟨rfl, by show (8 - (0 : Int)).toNat ≤ r - 1; omega⟩⟩
            · rw [if_neg c2]; exact .inl rfl
        · rw [if_neg hs4]
          refine .inr ⟨rfl, r - 1, by omega, .inr ⟨rfl, ?_⟩⟩
          dsimp only
          cases k with
          | zero =>
            have := hk.2
            have h5 := h4 n (Nat.le_refl _)
            have h6 : (seekIt M n (seekK w.head j.2.2.2.2 j.2.2.1)).ph = 4 := this
            omega
          | succ k =>
            refine ⟨k, ⟨fun i hi => ?_, ?_⟩, by omega⟩
            · have := hk.1 (i + 1) (by omega)
              rw [seekIt_left, hse] at this
              exact this
            · have := hk.2
              rw [seekIt_left, hse] at this
              exact this
/-- A job ends. -/
theorem job_ends {w : Wal} {xs0 : List Nd} (hg : WGiven w xs0) : ∀ (r : Nat) (g : Gst) (pub : List Nd), WInv w xs0 g pub → g.done < w.J.length → Rank g r →
    ∃ k, k ≤ r + 1 ∧ (∀ i, i < k → (wIter w.J w.head g i).done = g.done) ∧ (wIter w.J w.head g k).done = g.done + 1
  | 0, g, pub, h, hd, hr => by
    rcases rank_step hg h hd hr with e | ⟨-, r', e, -⟩
    · exact ⟨1, Nat.le_refl _, fun i hi => by obtain rfl : i = 0 := by omega
                                              rfl, e⟩
    · omega
  | r + 1, g, pub, h, hd, hr => by
    rcases rank_step hg h hd hr with e | ⟨e1, r', e, hr'⟩
    · exact ⟨1, by omega, fun i hi => by obtain rfl : i = 0 := by omega
                                         rfl, e⟩
    · obtain rfl : r = r' := by omega
      obtain ⟨pub', -, h'⟩ := write_inv hg h
      obtain ⟨k, h1, h2, h3⟩ := job_ends hg r (writeG w.J w.head g) pub' h' (by rw [e1]; exact hd) hr'
      refine ⟨k + 1, by omega, fun i hi => ?_, by rw [wIter_left, h3, e1]⟩
      cases i with
      | zero => rfl
      | succ i => rw [wIter_left, h2 i (by omega), e1]
theorem iter_inv {w : Wal} {xs0 : List Nd} (hg : WGiven w xs0) {g : Gst} {pub : List Nd} (h : WInv w xs0 g pub) : ∀ k, ∃ pub', WInv w xs0 (wIter w.J w.head g k) pub'
  | 0 => ⟨pub, h⟩
  | k + 1 => by
    obtain ⟨p1, h1⟩ := iter_inv hg h k
    obtain ⟨p2, -, h2⟩ := write_inv hg h1
    exact ⟨p2, h2⟩
theorem jobs_end {w : Wal} {xs0 : List Nd} (hg : WGiven w xs0) : ∀ (m : Nat) (g : Gst) (pub : List Nd), WInv w xs0 g pub → g.done + m = w.J.length →
    ∃ N, N ≤ m * 4221 ∧ (∀ k, k < N → (wIter w.J w.head g k).done < w.J.length) ∧ (wIter w.J w.head g N).done = w.J.length
  | 0, g, pub, h, hm => ⟨0, Nat.zero_le _, fun k hk => by omega, by show g.done = _; omega⟩
  | m + 1, g, pub, h, hm => by
    obtain ⟨k, h1, h2, h3⟩ := job_ends hg 4220 g pub h (by omega) (rank_of h (by omega))
    obtain ⟨p1, hk⟩ := iter_inv hg h k
    obtain ⟨N, n1, n2, n3⟩ := jobs_end hg m (wIter w.J w.head g k) p1 hk (by rw [h3]; omega)
    refine ⟨k + N, by omega, fun i hi => ?_, by rw [wIter_add]; exact n3⟩
    by_cases hik : i < k
    · rw [h2 i hik]; omega
    · obtain ⟨j, rfl⟩ : ∃ j, i = k + j := ⟨i - k, by omega⟩
      rw [wIter_add]
      exact n2 j (by omega)
/-- All steps of the writer alone. -/
theorem all_steps {w : Wal} (h : (wFault w).2 = 0) (ho : WOk w) : ∃ N, AllSteps w N := by
  have hg := wGiven h ho
  have h0 := of_inv hg
  have hd0 : (ofG w).done = 0 := rfl
  obtain ⟨N, h1, h2, h3⟩ := jobs_end hg w.J.length (ofG w) _ h0 (by rw [hd0]; omega)
  have hl := (wFault_ok h).2.2.1
  refine ⟨N, h2, h3, fun k hk => ?_, by have := Nat.mul_le_mul_right 4221 hl; omega⟩
  obtain ⟨p, hp⟩ := iter_inv hg h0 k
  exact hp.p.F
end Go.Proofs.YtipohagcppfgiaaGreat
namespace Go.Proofs.YtipohagcppfgiaaGreat
open Go.RowKit
open Go.Proofs
set_option linter.unusedVariables false
def eqN (x t : Nd) : Bool := decide (x.2.2.2 = t.2.2.2) && decide (x.2.1 = t.2.1)
/-- What is ahead of a job, what behind. -/
def aheadJ (j : Jb) (xs : List Nd) : List Nd := xs.filter fun x => if eqN x j.2 = true then !j.1 else aheadN x j.2
def behindJ (j : Jb) (xs : List Nd) : List Nd := xs.filter fun x => if eqN x j.2 = true then false else !aheadN x j.2
def thereJ (j : Jb) (xs : List Nd) : Bool := xs.any fun x => eqN x j.2
def afterJ (xs : List Nd) (j : Jb) : List Nd := (aheadJ j xs ++ (if thereJ j xs = false ∧ j.1 = false then [j.2] else [])) ++ behindJ j xs
theorem eqN_iff {x t : Nd} : eqN x t = true ↔ x.2.2.2 = t.2.2.2 ∧ x.2.1 = t.2.1 := by unfold eqN; simp
theorem ahead_eq {x t : Nd} (h : aheadN x t = true) : eqN x t = false := by
  cases e : eqN x t with
  | false => rfl
  | true => rw [eqN_iff] at e; rw [ahead_iff] at h; omega
theorem behind_eq {x t : Nd} (h : aheadN t x = true) : eqN x t = false ∧ aheadN x t = false := by
  rw [ahead_iff] at h
  constructor
  · cases e : eqN x t with
    | false => rfl
    | true => rw [eqN_iff] at e; omega
  · cases e : aheadN x t with
    | false => rfl
    | true => rw [ahead_iff] at e; omega
theorem parts_ahead (j : Jb) {xs : List Nd} (h : ∀ x ∈ xs, aheadN x j.2 = true) : aheadJ j xs = xs ∧ behindJ j xs = [] ∧ thereJ j xs = false := by
  refine ⟨List.filter_eq_self.2 fun x hx => ?_, List.filter_eq_nil_iff.2 fun x hx => ?_, ?_⟩
  · rw [ahead_eq (h x hx), if_neg (by decide)]; exact h x hx
  · rw [ahead_eq (h x hx), if_neg (by decide), h x hx]; decide
  · unfold thereJ; rw [List.any_eq_false]; intro x hx; rw [ahead_eq (h x hx)]; decide
theorem parts_behind (j : Jb) {xs : List Nd} (h : ∀ x ∈ xs, aheadN j.2 x = true) : aheadJ j xs = [] ∧ behindJ j xs = xs ∧ thereJ j xs = false := by
  refine ⟨List.filter_eq_nil_iff.2 fun x hx => ?_, List.filter_eq_self.2 fun x hx => ?_, ?_⟩
  · rw [(behind_eq (h x hx)).1, if_neg (by decide), (behind_eq (h x hx)).2]; decide
  · rw [(behind_eq (h x hx)).1, if_neg (by decide), (behind_eq (h x hx)).2]; rfl
  · unfold thereJ; rw [List.any_eq_false]; intro x hx; rw [(behind_eq (h x hx)).1]; decide
theorem split_at {xs : List Nd} (t : Nd) (hi : incr xs = true) : ∃ l1 l2, xs = l1 ++ l2 ∧ (∀ x ∈ l1, aheadN x t = true) ∧ ((hasAt xs (posN xs t) t = false ∧ ∀ x ∈ l2, aheadN t x = true) ∨ (hasAt xs (posN xs t) t = true ∧ ∃ y r, l2 = y :: r ∧ eqN y t = true ∧ ∀ x ∈ r, aheadN t x = true)) ∧ posN xs t = l1.length := by
  have hpw := (incr_pw xs).1 hi
  refine ⟨xs.take (posN xs t), xs.drop (posN xs t), (List.take_append_drop _ _).symm, take_ahead t hi, ?_, by rw [List.length_take]; have := posN_le xs t; omega⟩
  have hdp : (xs.drop (posN xs t)).Pairwise (fun a b => aheadN a b = true) := hpw.sublist (List.drop_sublist _ _)
  cases hx : xs.drop (posN xs t) with
  | nil =>
    left
    refine ⟨?_, fun x hx' => by cases hx'⟩
    unfold hasAt
    have : xs.length ≤ posN xs t := List.drop_eq_nil_iff.1 hx
    rw [List.getElem?_eq_none this]
  | cons y ys =>
    rw [hx, List.pairwise_cons] at hdp
    have hy : xs[posN xs t]? = some y := by
      have := congrArg (·[0]?) hx
      simpa [List.getElem?_drop] using this
    have hya : aheadN y t = false := by
      cases e : aheadN y t with
      | false => rfl
      | true => have := (posN_at t hi _ _ hy).1 e; omega
    have hh : hasAt xs (posN xs t) t = eqN y t := by
      unfold hasAt eqN; rw [hy]; simp
    cases he : eqN y t with
    | true =>
      right
      refine ⟨by rw [hh, he], y, ys, rfl, he, fun x hx' => ?_⟩
      have h1 := hdp.1 x hx'
      rw [eqN_iff] at he
      rw [ahead_iff] at h1 ⊢
      omega
    | false =>
      left
      refine ⟨by rw [hh, he], fun x hx' => ?_⟩
      have hyn : aheadN t y = true := ahead_not hya (fun e => by rw [eqN_iff.2 e] at he; cases he)
      rcases List.mem_cons.1 hx' with rfl | h'
      · exact hyn
      · exact ahead_trans hyn (hdp.1 x h')
theorem afterJ_eq {xs : List Nd} (hi : incr xs = true) (j : Jb) : afterJ xs j = stepJ xs j := by
  obtain ⟨l1, l2, e, h1, h2, h3⟩ := split_at j.2 hi
  obtain ⟨p1, p2, p3⟩ := parts_ahead j h1
  have ha : aheadJ j xs = l1 ++ aheadJ j l2 := by rw [e]; unfold aheadJ at p1 ⊢; rw [List.filter_append, p1]
  have hb : behindJ j xs = behindJ j l2 := by rw [e]; unfold behindJ at p2 ⊢; rw [List.filter_append, p2, List.nil_append]
  have ht : thereJ j xs = thereJ j l2 := by rw [e]; unfold thereJ at p3 ⊢; rw [List.any_append, p3, Bool.false_or]
  unfold afterJ stepJ
  rw [ha, hb, ht]
  rcases h2 with ⟨hh, h2⟩ | ⟨hh, y, r, rfl, hy, h2⟩
  · obtain ⟨q1, q2, q3⟩ := parts_behind j h2
    rw [hh, q1, q2, q3, h3]
    subst e
    cases hc : j.1 <;> simp
  · obtain ⟨q1, q2, q3⟩ := parts_behind j h2
    have a1 : aheadJ j (y :: r) = if j.1 = true then [] else [y] := by
      unfold aheadJ at q1 ⊢
      rw [List.filter_cons, hy, q1]
      cases j.1 <;> rfl
    have a2 : behindJ j (y :: r) = r := by
      unfold behindJ at q2 ⊢
      rw [List.filter_cons, hy, q2]
      rfl
    have a3 : thereJ j (y :: r) = true := by
      unfold thereJ
      rw [List.any_cons, hy, Bool.true_or]
    rw [hh, a1, a2, a3, h3]
    subst e
    cases hc : j.1
    · simp
    · simp [List.eraseIdx_append_of_length_le (Nat.le_refl _)]
theorem aheadJ_snoc (j : Jb) (xs : List Nd) (x : Nd) : aheadJ j (xs ++ [x]) = aheadJ j xs ++ (if (if eqN x j.2 = true then !j.1 else aheadN x j.2) = true then [x] else []) := by
  unfold aheadJ; rw [List.filter_append, List.filter_cons, List.filter_nil]
theorem behindJ_snoc (j : Jb) (xs : List Nd) (x : Nd) : behindJ j (xs ++ [x]) = behindJ j xs ++ (if (if eqN x j.2 = true then false else !aheadN x j.2) = true then [x] else []) := by
  unfold behindJ; rw [List.filter_append, List.filter_cons, List.filter_nil]
theorem thereJ_snoc (j : Jb) (xs : List Nd) (x : Nd) : thereJ j (xs ++ [x]) = (thereJ j xs || eqN x j.2) := by
  unfold thereJ; rw [List.any_append, List.any_cons, List.any_nil, Bool.or_false]
end Go.Proofs.YtipohagcppfgiaaGreat
