/- Mounts: more plain laws: what is left, what is added, the deepest one. -/
import Derived.Test.YtbfhppafffhlkaaMountPlain
import Derived.Test.YtbfhppafffhlkaaPathPlain2
namespace Go.Proofs.Ytbfhppafffhlkaa
open Go.RowKit
open Go.Proofs
set_option linter.unusedVariables false

theorem good_spec {ms : List (Nat × Nat)} {nx : Nat} : goodM ms nx = true ↔ chkGo nx 0 ms = true ∧ ms.length ≤ 16 ∧ (ms.map (·.1)).Nodup ∧ 1 ≤ nx ∧ nx ≤ 1073741825 := by
  unfold goodM apartM
  simp only [Bool.and_eq_true, decide_eq_true_eq]
  constructor
  · rintro ⟨⟨⟨⟨h1, h2⟩, h3⟩, h4⟩, h5⟩; exact ⟨h1, h2, h3, h4, h5⟩
  · rintro ⟨h1, h2, h3, h4, h5⟩; exact ⟨⟨⟨⟨h1, h2⟩, h3⟩, h4⟩, h5⟩
theorem chkGo_filter (nx : Nat) (f : Nat × Nat → Bool) : ∀ (ms : List (Nat × Nat)) (a a' : Nat), a' ≤ a → chkGo nx a ms = true → chkGo nx a' (ms.filter f) = true
  | [], _, _, _, _ => rfl
  | p :: r, a, a', h, hc => by
    simp only [chkGo, Bool.and_eq_true, decide_eq_true_eq] at hc
    obtain ⟨⟨⟨h1, h2⟩, h3⟩, h4⟩ := hc
    rw [List.filter_cons]
    split
    · simp only [chkGo, Bool.and_eq_true, decide_eq_true_eq]
      exact ⟨⟨⟨h1, by omega⟩, h3⟩, chkGo_filter nx f r p.2 p.2 (Nat.le_refl _) h4⟩
    · exact chkGo_filter nx f r p.2 a' (by omega) h4
theorem good_kept {ms : List (Nat × Nat)} {nx : Nat} (x : Nat) (h : goodM ms nx = true) : goodM (keptM ms x) nx = true := by
  rw [good_spec] at h ⊢
  obtain ⟨h1, h2, h3, h4, h5⟩ := h
  refine ⟨chkGo_filter nx _ ms 0 0 (Nat.le_refl _) h1, Nat.le_trans (List.length_filter_le _ _) h2, ?_, h4, h5⟩
  exact List.Nodup.sublist (List.Sublist.map _ List.filter_sublist) h3
theorem chkGo_more (nx nx' : Nat) (hle : nx ≤ nx') : ∀ (ms : List (Nat × Nat)) (a : Nat), chkGo nx a ms = true → chkGo nx' a ms = true
  | [], _, _ => rfl
  | p :: r, a, h => by
    simp only [chkGo, Bool.and_eq_true, decide_eq_true_eq] at h ⊢
    obtain ⟨⟨⟨h1, h2⟩, h3⟩, h4⟩ := h
    exact ⟨⟨⟨h1, h2⟩, by omega⟩, chkGo_more nx nx' hle r p.2 h4⟩
theorem chkGo_snoc (nx x : Nat) (hr : (rd x).isSome = true) : ∀ (ms : List (Nat × Nat)) (a : Nat), a < nx → chkGo nx a ms = true → chkGo (nx + 1) a (ms ++ [(x, nx)]) = true
  | [], a, ha, _ => by simp [chkGo, hr, ha]
  | p :: r, a, ha, h => by
    simp only [chkGo, Bool.and_eq_true, decide_eq_true_eq, List.cons_append] at h ⊢
    obtain ⟨⟨⟨h1, h2⟩, h3⟩, h4⟩ := h
    exact ⟨⟨⟨h1, h2⟩, by omega⟩, chkGo_snoc nx x hr r p.2 h3 h4⟩
theorem hasM_mem {ms : List (Nat × Nat)} {x : Nat} : hasM ms x = true ↔ x ∈ ms.map (·.1) := by
  unfold hasM
  rw [List.any_eq_true]
  simp
theorem good_added {ms : List (Nat × Nat)} {nx x : Nat} (hE : addE ms nx x = 0) : goodM (ms ++ [(x, nx)]) (nx + 1) = true ∧ goodM ms nx = true ∧ (rd x).isSome = true ∧ nx ≤ 1073741824 := by
  unfold addE at hE
  by_cases h0 : chk2E ms nx x = 0
  · rw [if_pos h0] at hE
    cases hh : hasM ms x with
    | true => rw [hh] at hE; simp at hE
    | false =>
      rw [hh, if_neg (by simp)] at hE
      by_cases hf : ms.length = 16 ∨ 1073741824 < nx
      · rw [if_pos hf] at hE; simp at hE
      · rcases chk2_ways ms nx x with ⟨e, _⟩ | ⟨e, _, _⟩ | ⟨_, hg, ps, hr⟩
        · rw [e] at h0; simp at h0
        · rw [e] at h0; simp at h0
        · have hg0 := hg
          rw [good_spec] at hg
          obtain ⟨h1, h2, h3, h4, h5⟩ := hg
          refine ⟨?_, hg0, by rw [hr]; rfl, by omega⟩
          rw [good_spec]
          refine ⟨chkGo_snoc nx x (by rw [hr]; rfl) ms 0 (by omega) h1, by rw [List.length_append]; simp; omega, ?_, by omega, by omega⟩
          rw [List.map_append, List.nodup_append]
          refine ⟨h3, by simp, ?_⟩
          intro a ha b hb
          simp at hb
          subst hb
          rintro rfl
          have := hasM_mem.2 ha
          rw [hh] at this
          cases this
  · rw [if_neg h0] at hE
    exact absurd hE h0
/-- What has been added is what its path is resolved to. -/
theorem res_added {ms : List (Nat × Nat)} {nx x : Nat} (hE : addE ms nx x = 0) : resMV (ms ++ [(x, nx)]) (nx + 1) x = .tuple #[.int .u64 ((nx : Nat) : Int), .int .i64 0] := by
  obtain ⟨hg, hg0, hr, hn⟩ := good_added hE
  have h1 : 1 ≤ nx := (good_spec.1 hg0).2.2.2.1
  obtain ⟨ps, hps⟩ := Option.isSome_iff_exists.1 hr
  unfold resMV chk2E pathE
  rw [hg, if_pos rfl, hps, if_pos (by rfl)]
  dsimp only
  have e : atM (ms ++ [(x, nx)]) x = nx := by rw [atM_snoc, if_pos rfl]
  rw [find_first _ _ x 0 (ups_head x ps hps) (by rw [e]; exact decide_eq_true (by omega)) (fun j y hj _ => absurd hj (Nat.not_lt_zero j))]
  dsimp only
  rw [e]
theorem kept_has (ms : List (Nat × Nat)) (x : Nat) : hasM (keptM ms x) x = false := by
  unfold hasM keptM
  rw [List.any_eq_false]
  intro p hp
  rw [List.mem_filter] at hp
  simpa using hp.2
theorem kept_len_go (x : Nat) : ∀ ms : List (Nat × Nat), (ms.map (·.1)).Nodup → hasM ms x = true → (keptM ms x).length + 1 = ms.length
  | [], _, h => by cases h
  | p :: r, hd, h => by
    rw [List.map_cons, List.nodup_cons] at hd
    unfold keptM
    rw [List.filter_cons]
    by_cases e : p.1 = x
    · rw [if_neg (by simpa using e)]
      have : r.filter (fun p => decide (p.1 ≠ x)) = r := by
        rw [List.filter_eq_self]
        intro q hq
        have : q.1 ≠ x := by
          rintro rfl
          exact hd.1 (e ▸ List.mem_map_of_mem hq)
        simpa using this
      rw [this]; rfl
    · rw [if_pos (by simpa using e)]
      have hr : hasM r x = true := by
        unfold hasM at h ⊢
        rw [List.any_cons] at h
        simpa [e] using h
      have := kept_len_go x r hd.2 hr
      unfold keptM at this
      simp only [List.length_cons]
      omega
theorem kept_len {ms : List (Nat × Nat)} {nx x : Nat} (hg : goodM ms nx = true) (h : hasM ms x = true) : (keptM ms x).length + 1 = ms.length := kept_len_go x ms (good_spec.1 hg).2.2.1 h
theorem drop_good {ms : List (Nat × Nat)} {nx x : Nat} (hE : dropE ms nx x = 0) : goodM ms nx = true ∧ (rd x).isSome = true ∧ hasM ms x = true ∧ belowM ms x = [] := by
  unfold dropE at hE
  by_cases h0 : chk2E ms nx x = 0
  · rw [if_pos h0] at hE
    cases hh : hasM ms x with
    | false => rw [hh] at hE; simp at hE
    | true =>
      rw [hh, if_pos rfl] at hE
      by_cases hb : belowM ms x = []
      · rcases chk2_ways ms nx x with ⟨e, _⟩ | ⟨e, _, _⟩ | ⟨_, hg, ps, hr⟩
        · rw [e] at h0; simp at h0
        · rw [e] at h0; simp at h0
        · exact ⟨hg, by rw [hr]; rfl, rfl, hb⟩
      · rw [if_neg hb] at hE; simp at hE
  · rw [if_neg h0] at hE; exact absurd hE h0
/-- What is gone is mounted no more. -/
theorem of_dropped {ms : List (Nat × Nat)} {nx x : Nat} (hE : dropE ms nx x = 0) : ofMV (keptM ms x) nx x = .tuple #[.int .u64 0, .int .i64 4] := by
  obtain ⟨hg, hr, -, -⟩ := drop_good hE
  unfold ofMV chk2E pathE
  rw [good_kept x hg, if_pos rfl, if_pos hr, if_pos rfl, kept_has, if_neg (by simp)]
theorem kept_ok {ms : List (Nat × Nat)} {x : Nat} (h : mok ms) : mok (keptM ms x) := fun p hp => h p (List.mem_filter.1 hp).1
theorem added_ok {ms : List (Nat × Nat)} {nx x : Nat} (h : mok ms) (hx : x < 18446744073709551616) (hn : nx < 18446744073709551616) : mok (ms ++ [(x, nx)]) := by
  intro p hp
  rcases List.mem_append.1 hp with hp | hp
  · exact h p hp
  · rw [List.mem_singleton] at hp; subst hp; exact ⟨hx, hn⟩
theorem most {α : Type} (f : α → Nat) : ∀ l : List α, l ≠ [] → ∃ p ∈ l, ∀ q ∈ l, f q ≤ f p
  | [], h => absurd rfl h
  | [a], _ => ⟨a, List.mem_singleton.2 rfl, fun q hq => by rw [List.mem_singleton] at hq; subst hq; exact Nat.le_refl _⟩
  | a :: b :: r, _ => by
    obtain ⟨p, hp, h⟩ := most f (b :: r) (by simp)
    by_cases e : f p ≤ f a
    · refine ⟨a, List.mem_cons_self, fun q hq => ?_⟩
      rcases List.mem_cons.1 hq with rfl | hq
      · exact Nat.le_refl _
      · exact Nat.le_trans (h q hq) e
    · refine ⟨p, List.mem_cons_of_mem _ hp, fun q hq => ?_⟩
      rcases List.mem_cons.1 hq with rfl | hq
      · omega
      · exact h q hq
/-- There is one below which there is none. -/
theorem deepest {ms : List (Nat × Nat)} {nx : Nat} (hg : goodM ms nx = true) (hne : ms ≠ []) : ∃ (k : Nat) (p : Nat × Nat), ms[k]? = some p ∧ belowM ms p.1 = [] := by
  obtain ⟨p, hp, hmax⟩ := most (fun p : Nat × Nat => ((rd p.1).getD []).length) ms hne
  obtain ⟨k, hk, e⟩ := List.getElem_of_mem hp
  refine ⟨k, p, by rw [List.getElem?_eq_getElem hk, e], ?_⟩
  unfold belowM
  rw [List.filter_eq_nil_iff]
  intro q hq hb
  simp only [Bool.and_eq_true, decide_eq_true_eq] at hb
  obtain ⟨hne', hah⟩ := hb
  have hm := hmax q hq
  unfold aheadB at hah
  cases hrp : rd p.1 with
  | none => rw [hrp] at hah; cases hah
  | some ps =>
    cases hrq : rd q.1 with
    | none => rw [hrp, hrq] at hah; cases hah
    | some qs =>
      rw [hrp, hrq] at hah hm
      simp only [Option.getD_some] at hm
      unfold aheadL at hah
      simp only [decide_eq_true_eq] at hah
      have e2 : qs.take ps.length = qs := List.take_of_length_le hm
      rw [e2] at hah
      subst hah
      have h1 := (rd_some hrp).2.2.2.2.1
      have h2 := (rd_some hrq).2.2.2.2.1
      exact hne' (h2.symm.trans h1)
theorem good_under {ms : List (Nat × Nat)} {nx : Nat} (hg : goodM ms nx = true) (p : Nat × Nat) (hp : p ∈ ms) : chk2E ms nx p.1 = 0 ∧ hasM ms p.1 = true ∧ underN ms nx p.1 = (belowM ms p.1).map (·.2) ∧ dropE ms nx p.1 = (if belowM ms p.1 = [] then 0 else 341) := by
  have hr := (good_pos hg p hp).2.2
  have h0 : chk2E ms nx p.1 = 0 := by unfold chk2E pathE; rw [hg, if_pos rfl, if_pos hr]
  have hh : hasM ms p.1 = true := hasM_mem.2 (List.mem_map_of_mem hp)
  refine ⟨h0, hh, ?_, ?_⟩
  · unfold underN; rw [if_pos h0]
  · unfold dropE; rw [if_pos h0, hh, if_pos rfl]
/-- Where all keys are less there is nothing. -/
theorem at_less {l : List (Nat × Nat)} {k : Nat} : (∀ p ∈ l, p.1 < k) → atM l k = 0 := by
  refine snocRec (p := fun l => (∀ p ∈ l, p.1 < k) → atM l k = 0) (fun _ => rfl) (fun l p ih h => ?_) l
  rw [atM_snoc, if_neg (by have := h p (List.mem_append_right _ (List.mem_singleton.2 rfl)); omega)]
  exact ih (fun q hq => h q (List.mem_append_left _ hq))
end Go.Proofs.Ytbfhppafffhlkaa
