/- Scripts: plain words: records, and words between them. No program in sight. -/
import Derived.Test.YtpehnahmdfoobaaDoorScript20
namespace Go.Proofs.YtpehnahmdfoobaaDoor
set_option linter.unusedVariables false

/-- A word that nothing says. -/
def junkW (m i : Nat) : Nat := Pl.set m 0 2 (3 * (i % 2))
def junkJ (more : List Nat) (i : Nat) : List Nat := match more[i]? with | some m => [junkW m i] | none => []
theorem junk_lt {m i : Nat} (h : m < 18446744073709551616) : junkW m i < 18446744073709551616 := Pl.set_lt m 0 2 _ (by decide) h (by have : i % 2 < 2 := Nat.mod_lt _ (by decide); show 3 * (i % 2) < 4; omega)
theorem junk_idle {m i : Nat} (h : m < 18446744073709551616) : idle (junkW m i) := by
  have h2 : i % 2 < 2 := Nat.mod_lt _ (by decide)
  have e : Pl.get (junkW m i) 0 2 = 3 * (i % 2) := Pl.get_set m 0 2 _ (by decide) h (by show 3 * (i % 2) < 4; omega)
  unfold idle
  rw [e]
  omega
theorem junkJ_some {more : List Nat} {i m : Nat} (h : more[i]? = some m) : junkJ more i = [junkW m i] := by unfold junkJ; rw [h]
theorem junkJ_none {more : List Nat} {i : Nat} (h : more.length ≤ i) : junkJ more i = [] := by unfold junkJ; rw [List.getElem?_eq_none h]
theorem junkJ_in {more : List Nat} {i x : Nat} (h : x ∈ junkJ more i) : ∃ m ∈ more, x = junkW m i := by
  unfold junkJ at h
  cases hm : more[i]? with
  | none => rw [hm] at h; cases h
  | some m => rw [hm] at h; exact ⟨m, List.mem_of_getElem? hm, List.mem_singleton.1 h⟩
theorem junkJ_len (more : List Nat) (i : Nat) : (junkJ more i).length ≤ 1 := by
  unfold junkJ
  split <;> simp
theorem passR_app (J : Nat → List Nat) : ∀ (a b : List (List Nat)) (k : Nat), passR J k (a ++ b) = passR J k a ++ passR J (k + a.length) b
  | [], b, k => by simp [passR]
  | r :: a, b, k => by
    rw [List.cons_append, passR, passR, passR_app J a b (k + 1), List.length_cons, show k + 1 + a.length = k + (a.length + 1) by omega, List.append_assoc (J k ++ r)]
theorem passR_snoc (J : Nat → List Nat) {recs : List (List Nat)} {i : Nat} {r : List Nat} (h : recs[i]? = some r) : passR J 0 (recs.take (i + 1)) = passR J 0 (recs.take i) ++ J i ++ r := by
  have hi := (List.getElem?_eq_some_iff.1 h).1
  rw [List.take_add_one, h, passR_app, List.length_take, Nat.min_eq_left (by omega), Nat.zero_add]
  show _ ++ (J i ++ r ++ passR J (i + 1) []) = _
  rw [passR, List.append_nil, List.append_assoc]
theorem passR_word (J : Nat → List Nat) (hJ : ∀ i, ∀ x ∈ J i, x < 18446744073709551616) : ∀ (recs : List (List Nat)) (k : Nat), (∀ r ∈ recs, ∀ x ∈ r, x < 18446744073709551616) → ∀ x ∈ passR J k recs, x < 18446744073709551616
  | [], _, _, x, hx => by cases hx
  | r :: rs, k, h, x, hx => by
    rw [passR] at hx
    rcases List.mem_append.1 hx with hx | hx
    · rcases List.mem_append.1 hx with hx | hx
      · exact hJ k x hx
      · exact h r (List.mem_cons_self ..) x hx
    · exact passR_word J hJ rs (k + 1) (fun r hr => h r (List.mem_cons_of_mem _ hr)) x hx
theorem passR_len (J : Nat → List Nat) (hJ : ∀ i, (J i).length ≤ 1) : ∀ (recs : List (List Nat)) (k : Nat), (passR J k recs).length ≤ recs.length + recs.flatten.length
  | [], _ => by simp [passR]
  | r :: rs, k => by
    have h1 := passR_len J hJ rs (k + 1)
    have h2 := hJ k
    rw [passR, List.length_append, List.length_append, List.length_cons, List.flatten_cons, List.length_append]
    omega
theorem passR_take_le (J : Nat → List Nat) (recs : List (List Nat)) (i : Nat) : (passR J 0 (recs.take i)).length ≤ (passR J 0 recs).length := by
  have e := passR_app J (recs.take i) (recs.drop i) 0
  rw [List.take_append_drop] at e
  rw [e, List.length_append]; omega
theorem callRecs_six : ∀ (ls : List (List (List Nat))) (cpu : Nat), (∀ cs ∈ ls, ∀ q ∈ cs, q.length = 5) → ∀ r ∈ callRecs cpu ls, r.length = 6
  | [], _, _, r, hr => by cases hr
  | l :: ls, cpu, h, r, hr => by
    rcases List.mem_append.1 hr with hr | hr
    · obtain ⟨q, hq, rfl⟩ := List.mem_map.1 hr
      rw [List.length_cons, h l (List.mem_cons_self ..) q hq]
    · exact callRecs_six ls (cpu + 1) (fun cs hcs => h cs (List.mem_cons_of_mem _ hcs)) r hr
theorem rec_call {S : Scr} (h5 : ∀ cs ∈ S.ls, ∀ q ∈ cs, q.length = 5) {i : Nat} {r : List Nat} (h : (recsS S)[i]? = some r) (hi : i < sumS S.ls) : r.length = 6 := by
  unfold recsS at h
  rw [List.getElem?_append_left (by rw [callRecs_len]; exact hi)] at h
  exact callRecs_six S.ls 0 h5 r (List.mem_of_getElem? h)
theorem rec_run {S : Scr} {i : Nat} {r : List Nat} (h : (recsS S)[i]? = some r) (hi : ¬ i < sumS S.ls) : r.length = 1 := by
  unfold recsS at h
  rw [List.getElem?_append_right (by rw [callRecs_len]; omega)] at h
  obtain ⟨p, hp, rfl⟩ := List.mem_map.1 (List.mem_of_getElem? h)
  rfl
theorem recs_len (S : Scr) : (recsS S).length = sumS S.ls + (runsL S.ps).length := by unfold recsS; rw [List.length_append, callRecs_len]; simp [runRecs]
theorem recs_word {S : Scr} (h : okS S = true) (hS : S.Ok) : ∀ r ∈ recsS S, ∀ x ∈ r, x < 18446744073709551616 := by
  intro r hr x hx
  refine ofW_word h hS x ?_
  rw [ofW_recs]
  exact List.mem_cons_of_mem _ (List.mem_flatten.2 ⟨r, hr, hx⟩)
theorem recs_some {S : Scr} (h5 : ∀ cs ∈ S.ls, ∀ q ∈ cs, q.length = 5) : ∀ r ∈ recsS S, 1 ≤ r.length := by
  intro r hr
  obtain ⟨i, hi⟩ := List.getElem?_of_mem hr
  by_cases hs : i < sumS S.ls
  · rw [rec_call h5 hi hs]; decide
  · rw [rec_run hi hs]; decide
/-- Where a record begins. -/
def atR (recs : List (List Nat)) (i : Nat) : Nat := 1 + (recs.take i).flatten.length
theorem atR_next {recs : List (List Nat)} {i : Nat} {r : List Nat} (h : recs[i]? = some r) : atR recs (i + 1) = atR recs i + r.length := by
  unfold atR
  rw [List.take_add_one, h, List.flatten_append, List.length_append]
  simp; omega
theorem atR_cells {recs : List (List Nat)} {i : Nat} {r : List Nat} (h : recs[i]? = some r) (w0 j x : Nat) (hj : r[j]? = some x) : (w0 :: recs.flatten)[atR recs i + j]? = some x := by
  have hi := (List.getElem?_eq_some_iff.1 h).1
  have hr : recs[i] = r := (List.getElem?_eq_some_iff.1 h).2
  have e : recs.flatten = (recs.take i).flatten ++ (r ++ (recs.drop (i + 1)).flatten) := by
    rw [← List.flatten_cons, ← hr, ← List.drop_eq_getElem_cons hi, ← List.flatten_append, List.take_append_drop]
  unfold atR
  rw [e, show 1 + (recs.take i).flatten.length + j = ((recs.take i).flatten.length + j) + 1 by omega, List.getElem?_cons_succ, List.getElem?_append_right (by omega), Nat.add_sub_cancel_left,
    List.getElem?_append_left (List.getElem?_eq_some_iff.1 hj).1]
  exact hj
theorem atR_lt {recs : List (List Nat)} {i : Nat} {r : List Nat} (h : recs[i]? = some r) : atR recs i + r.length ≤ 1 + recs.flatten.length := by
  have hi := (List.getElem?_eq_some_iff.1 h).1
  have hr : recs[i] = r := (List.getElem?_eq_some_iff.1 h).2
  have e : recs.flatten = (recs.take i).flatten ++ (r ++ (recs.drop (i + 1)).flatten) := by
    rw [← List.flatten_cons, ← hr, ← List.drop_eq_getElem_cons hi, ← List.flatten_append, List.take_append_drop]
  unfold atR
  rw [e, List.length_append, List.length_append]; omega
theorem atR_end (recs : List (List Nat)) : atR recs recs.length = 1 + recs.flatten.length := by unfold atR; rw [List.take_length]
theorem atR_zero (recs : List (List Nat)) : atR recs 0 = 1 := by unfold atR; simp
end Go.Proofs.YtpehnahmdfoobaaDoor
