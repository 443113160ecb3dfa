/- Scripts: plain words: what is read may be; words that are passed over change nothing: Read of Of is the script. No program in sight. -/
import Derived.Test.YtpehnahmdfoobaaDoorScript17
import Derived.Test.YtpehnahmdfoobaaDoorScriptPlain2
namespace Go.Proofs.YtpehnahmdfoobaaDoor
set_option linter.unusedVariables false

def rdS (l : List Nat) : Scr := ⟨readC l, readP l, (readL l).1, (readL l).2⟩
def callRecs : Nat → List (List (List Nat)) → List (List Nat)
  | _, [] => []
  | cpu, l :: r => l.map (wdC cpu :: ·) ++ callRecs (cpu + 1) r
def runRecs (l : List (Int × Nat)) : List (List Nat) := l.map fun p => [wdR p.1.toNat (p.2 - 1)]
/-- The records of a script. -/
def recsS (S : Scr) : List (List Nat) := callRecs 0 S.ls ++ runRecs (runsL S.ps)
/-- Records with words ahead of each. -/
def passR (J : Nat → List Nat) : Nat → List (List Nat) → List Nat
  | _, [] => []
  | i, r :: rs => J i ++ r ++ passR J (i + 1) rs
def readF (C : Nat) (l : List Nat) (calls : Nat) (ls : List (List (List Nat))) (ps : List Int) : List (List (List Nat)) × List Int := readGo C l.length l calls ls ps
theorem readGo_enough (C : Nat) : ∀ (f g : Nat) (l : List Nat) (calls : Nat) (ls : List (List (List Nat))) (ps : List Int), l.length ≤ f → l.length ≤ g → readGo C f l calls ls ps = readGo C g l calls ls ps
  | 0, 0, _, _, _, _, _, _ => rfl
  | 0, g + 1, [], _, _, _, _, _ => rfl
  | f + 1, 0, [], _, _, _, _, _ => rfl
  | f + 1, g + 1, [], _, _, _, _, _ => rfl
  | 0, _, x :: r, _, _, _, h, _ => by simp at h
  | _ + 1, 0, x :: r, _, _, _, _, h => by simp at h
  | f + 1, g + 1, x :: r, calls, ls, ps, h, h' => by
    have h1 : r.length ≤ f := by simpa using h
    have h2 : r.length ≤ g := by simpa using h'
    have h3 : (r.drop 5).length ≤ f := by rw [List.length_drop]; omega
    have h4 : (r.drop 5).length ≤ g := by rw [List.length_drop]; omega
    unfold readGo
    rw [readGo_enough C f g (r.drop 5) _ _ _ h3 h4, readGo_enough C f g r calls ls ps h1 h2, readGo_enough C f g r calls ls _ h1 h2]
theorem readGo_F (C f : Nat) (l : List Nat) (calls : Nat) (ls : List (List (List Nat))) (ps : List Int) (h : l.length ≤ f) : readGo C f l calls ls ps = readF C l calls ls ps := readGo_enough C _ _ l _ _ _ h (Nat.le_refl _)
theorem readF_nil (C calls : Nat) (ls : List (List (List Nat))) (ps : List Int) : readF C [] calls ls ps = (ls, ps) := rfl
def idle (x : Nat) : Prop := Pl.get x 0 2 ≠ 1 ∧ Pl.get x 0 2 ≠ 2
theorem readF_idle (C x : Nat) (r : List Nat) (calls : Nat) (ls : List (List (List Nat))) (ps : List Int) (h : idle x) : readF C (x :: r) calls ls ps = readF C r calls ls ps := by
  show readGo C (r.length + 1) (x :: r) calls ls ps = _
  unfold readGo
  rw [if_neg h.1, if_neg h.2]
  rfl
theorem readF_idles (C : Nat) (js r : List Nat) (calls : Nat) (ls : List (List (List Nat))) (ps : List Int) (h : ∀ x ∈ js, idle x) : readF C (js ++ r) calls ls ps = readF C r calls ls ps := by
  induction js with
  | nil => rfl
  | cons x js ih =>
    rw [List.cons_append, readF_idle C x _ _ _ _ (h x (List.mem_cons_self ..)), ih fun y hy => h y (List.mem_cons_of_mem _ hy)]
theorem get_wdC (cpu : Nat) (h : cpu < 8) : Pl.get (wdC cpu) 0 2 = 1 ∧ Pl.get (wdC cpu) 8 3 = cpu := by
  unfold Pl.get wdC
  constructor
  · simp only [Nat.pow_zero, Nat.div_one, show (2 : Nat) ^ 2 = 4 from rfl]; omega
  · simp only [show (2 : Nat) ^ 8 = 256 from rfl, show (2 : Nat) ^ 3 = 8 from rfl]; omega
theorem get_wdR (cpu n : Nat) (h : cpu < 8) (hn : n < 256) : Pl.get (wdR cpu n) 0 2 = 2 ∧ Pl.get (wdR cpu n) 8 3 = cpu ∧ Pl.get (wdR cpu n) 16 8 = n := by
  unfold Pl.get wdR
  refine ⟨?_, ?_, ?_⟩
  · simp only [Nat.pow_zero, Nat.div_one, show (2 : Nat) ^ 2 = 4 from rfl]; omega
  · simp only [show (2 : Nat) ^ 8 = 256 from rfl, show (2 : Nat) ^ 3 = 8 from rfl]; omega
  · simp only [show (2 : Nat) ^ 16 = 65536 from rfl, show (2 : Nat) ^ 8 = 256 from rfl]; omega
theorem get_wdA (C P : Nat) (h : C < 8) (hP : P < 64) : Pl.get (wdA C P) 0 3 = C ∧ Pl.get (wdA C P) 8 6 = P := by
  unfold Pl.get wdA
  constructor
  · simp only [Nat.pow_zero, Nat.div_one, show (2 : Nat) ^ 3 = 8 from rfl]; omega
  · simp only [show (2 : Nat) ^ 8 = 256 from rfl, show (2 : Nat) ^ 6 = 64 from rfl]; omega
theorem readF_call (C cpu : Nat) (q r : List Nat) (calls : Nat) (ls : List (List (List Nat))) (ps : List Int) (hq : q.length = 5) (hc : cpu < C) (hC : C ≤ 8) (h64 : calls < 64) :
    readF C (wdC cpu :: q ++ r) calls ls ps = readF C r (calls + 1) (ls.modify cpu (· ++ [q])) ps := by
  obtain ⟨h1, h2⟩ := get_wdC cpu (by omega)
  show readGo C ((q ++ r).length + 1) (wdC cpu :: (q ++ r)) calls ls ps = _
  unfold readGo
  rw [if_pos h1, if_pos (by rw [List.length_append]; omega), h2, Nat.mod_eq_of_lt hc, if_pos h64, if_pos h64]
  have e1 : (q ++ r).drop 5 = r := by rw [← hq, List.drop_left]
  have e2 : (q ++ r).take 5 = q := by rw [← hq, List.take_left]
  rw [e1, e2]
  exact readGo_F C _ r _ _ _ (by rw [List.length_append]; omega)
theorem readF_run (C cpu n : Nat) (r : List Nat) (calls : Nat) (ls : List (List (List Nat))) (ps : List Int) (hc : cpu < C) (hC : C ≤ 8) (hn : n < 256) (h4 : ps.length + (n + 1) ≤ 4096) :
    readF C (wdR cpu n :: r) calls ls ps = readF C r calls ls (ps ++ List.replicate (n + 1) (cpu : Int)) := by
  obtain ⟨h1, h2, h3⟩ := get_wdR cpu n (by omega) hn
  show readGo C (r.length + 1) (wdR cpu n :: r) calls ls ps = _
  unfold readGo
  rw [if_neg (by rw [h1]; decide), if_pos h1, h2, h3, Nat.mod_eq_of_lt hc, Nat.min_eq_left (by omega)]
  rfl
theorem read_calls (J : Nat → List Nat) (hJ : ∀ i, ∀ x ∈ J i, idle x) (C cpu : Nat) (hc : cpu < C) (hC : C ≤ 8) (rs : List (List Nat)) (ps : List Int) : ∀ (l : List (List Nat)) (i calls : Nat) (ls : List (List (List Nat))), (∀ q ∈ l, q.length = 5) → calls + l.length ≤ 64 →
    readF C (passR J i (l.map (wdC cpu :: ·) ++ rs)) calls ls ps = readF C (passR J (i + l.length) rs) (calls + l.length) (ls.modify cpu (· ++ l)) ps
  | [], i, calls, ls, _, _ => by
    have e : ls.modify cpu (· ++ ([] : List (List Nat))) = ls := by
      apply List.ext_getElem?
      intro k
      rw [List.getElem?_modify]
      split <;> simp
    rw [e]; rfl
  | q :: l, i, calls, ls, h5, h => by
    have hq := h5 q (List.mem_cons_self ..)
    rw [List.length_cons] at h
    rw [List.map_cons, List.cons_append]
    show readF C (J i ++ (wdC cpu :: q) ++ passR J (i + 1) (l.map (wdC cpu :: ·) ++ rs)) calls ls ps = _
    rw [List.append_assoc, readF_idles C _ _ _ _ _ (hJ i), readF_call C cpu q _ calls ls ps hq hc hC (by omega), read_calls J hJ C cpu hc hC rs ps l (i + 1) (calls + 1) _ (fun q hq => h5 q (List.mem_cons_of_mem _ hq)) (by omega)]
    have e : (ls.modify cpu (· ++ [q])).modify cpu (· ++ l) = ls.modify cpu (· ++ q :: l) := by
      apply List.ext_getElem?
      intro k
      rw [List.getElem?_modify, List.getElem?_modify, List.getElem?_modify]
      by_cases hk : cpu = k
      · simp only [if_pos hk]
        cases ls[k]? <;> simp
      · simp only [if_neg hk]
        cases ls[k]? <;> simp
    rw [e, List.length_cons, show i + 1 + l.length = i + (l.length + 1) by omega, show calls + 1 + l.length = calls + (l.length + 1) by omega]
theorem sumS_cons (l : List (List Nat)) (r : List (List (List Nat))) : sumS (l :: r) = l.length + sumS r := by unfold sumS; rw [List.map_cons, List.sum_cons]
theorem callRecs_len : ∀ (ls : List (List (List Nat))) (cpu : Nat), (callRecs cpu ls).length = sumS ls
  | [], _ => rfl
  | l :: r, cpu => by rw [callRecs, List.length_append, List.length_map, callRecs_len r, sumS_cons]
theorem read_lists (J : Nat → List Nat) (hJ : ∀ i, ∀ x ∈ J i, idle x) (C : Nat) (hC : C ≤ 8) (rs : List (List Nat)) (ps : List Int) : ∀ (todo done : List (List (List Nat))) (cpu i calls : Nat), (∀ cs ∈ todo, ∀ q ∈ cs, q.length = 5) → done.length = cpu → cpu + todo.length = C → calls + sumS todo ≤ 64 →
    readF C (passR J i (callRecs cpu todo ++ rs)) calls (done ++ List.replicate todo.length []) ps = readF C (passR J (i + sumS todo) rs) (calls + sumS todo) (done ++ todo) ps
  | [], done, cpu, i, calls, _, _, _, _ => rfl
  | l :: r, done, cpu, i, calls, h5, hd, hC2, hs => by
    rw [sumS_cons] at hs ⊢
    rw [List.length_cons] at hC2
    rw [callRecs, List.append_assoc, read_calls J hJ C cpu (by omega) hC _ ps l i calls _ (h5 l (List.mem_cons_self ..)) (by omega)]
    have e : (done ++ List.replicate (l :: r).length []).modify cpu (· ++ l) = (done ++ [l]) ++ List.replicate r.length [] := by
      apply List.ext_getElem?
      intro k
      rw [List.getElem?_modify, List.length_cons, List.replicate_succ]
      by_cases hk : cpu = k
      · subst hk; subst hd
        simp
      · simp only [if_neg hk]
        by_cases hk2 : k < done.length
        · rw [List.getElem?_append_left hk2, List.append_assoc, List.getElem?_append_left hk2]; simp
        · rw [List.getElem?_append_right (by omega), List.append_assoc, List.getElem?_append_right (by omega)]
          obtain ⟨m, hm⟩ : ∃ m, k - done.length = m + 1 := ⟨k - done.length - 1, by omega⟩
          rw [hm]; simp
    rw [e, read_lists J hJ C hC rs ps r (done ++ [l]) (cpu + 1) (i + l.length) (calls + l.length) (fun cs hcs => h5 cs (List.mem_cons_of_mem _ hcs)) (by simp [hd]) (by omega) (by omega)]
    rw [List.append_assoc, show i + l.length + sumS r = i + (l.length + sumS r) by omega, show calls + l.length + sumS r = calls + (l.length + sumS r) by omega]
    rfl
theorem read_runs (J : Nat → List Nat) (hJ : ∀ i, ∀ x ∈ J i, idle x) (C : Nat) (hC : C ≤ 8) (calls : Nat) (ls : List (List (List Nat))) : ∀ (l : List (Int × Nat)) (i : Nat) (ps : List Int), (∀ p ∈ l, (0 ≤ p.1 ∧ p.1 < (C : Int)) ∧ 1 ≤ p.2 ∧ p.2 ≤ 256) → ps.length + (flatR l).length ≤ 4096 →
    readF C (passR J i (runRecs l)) calls ls ps = (ls, ps ++ flatR l)
  | [], i, ps, _, _ => by simp [runRecs, passR, flatR, readF_nil]
  | p :: l, i, ps, h, hl => by
    obtain ⟨⟨h0, h1⟩, h2, h3⟩ := h p (List.mem_cons_self ..)
    have e : flatR (p :: l) = List.replicate p.2 p.1 ++ flatR l := by simp [flatR]
    rw [e, List.length_append, List.length_replicate] at hl
    show readF C (J i ++ [wdR p.1.toNat (p.2 - 1)] ++ passR J (i + 1) (runRecs l)) calls ls ps = _
    rw [List.append_assoc, readF_idles C _ _ _ _ _ (hJ i), List.singleton_append, readF_run C p.1.toNat (p.2 - 1) _ calls ls ps (by omega) hC (by omega) (by omega), show p.2 - 1 + 1 = p.2 by omega, show ((p.1.toNat : Nat) : Int) = p.1 by omega,
      read_runs J hJ C hC calls ls l (i + 1) _ (fun q hq => h q (List.mem_cons_of_mem _ hq)) (by rw [List.length_append, List.length_replicate]; omega), e, List.append_assoc]
theorem runsL_in : ∀ (f : Nat) (l : List Int) (p : Int × Nat), p ∈ runsF f l → p.1 ∈ l
  | 0, _, _, h => by simp [runsF] at h
  | f + 1, [], _, h => by simp [runsF] at h
  | f + 1, x :: r, p, h => by
    rcases List.mem_cons.mp (show p ∈ (x, runLen (x :: r)) :: runsF f ((x :: r).drop (runLen (x :: r))) from h) with rfl | h
    · exact List.mem_cons_self ..
    · exact List.mem_of_mem_drop (runsL_in f _ p h)
/-- Words that are passed over, put between records, change nothing. -/
theorem read_pass (S : Scr) (hS : okS S = true) (hO : S.Ok) (J : Nat → List Nat) (hJ : ∀ i, ∀ x ∈ J i, idle x) : rdS (wdA (S.C - 1).toNat (S.P - 1).toNat :: passR J 0 (recsS S)) = S := by
  obtain ⟨C, P, eC, eP, c1, c8, p1, p64, hl, h4, hs, hz⟩ := okS_spec hS
  obtain ⟨g1, g2⟩ := get_wdA (S.C - 1).toNat (S.P - 1).toNat (by omega) (by omega)
  obtain ⟨m, hm⟩ : ∃ m, m = wdA (S.C - 1).toNat (S.P - 1).toNat := ⟨_, rfl⟩
  rw [← hm] at g1 g2 ⊢
  have rC : readC (m :: passR J 0 (recsS S)) = C := by show Pl.get m 0 3 + 1 = C; omega
  have rP : readP (m :: passR J 0 (recsS S)) = P := by show Pl.get m 8 6 + 1 = P; omega
  have rL : readL (m :: passR J 0 (recsS S)) = (S.ls, S.ps) := by
    unfold readL
    rw [rC, List.tail_cons, List.length_cons, Nat.add_sub_cancel]
    show readF C (passR J 0 (callRecs 0 S.ls ++ runRecs (runsL S.ps))) 0 (List.replicate C []) [] = _
    have := read_lists J hJ C c8 (runRecs (runsL S.ps)) [] S.ls [] 0 0 0 hO.five rfl (by omega) (by omega)
    rw [hl, List.nil_append, List.nil_append] at this
    rw [this, read_runs J hJ C c8 _ _ (runsL S.ps) _ [] (fun p hp => ⟨hz p.1 (runsL_in _ _ p hp), runs_memL hp⟩) (by rw [runs_flatL]; simpa using h4), runs_flatL]; rfl
  unfold rdS
  rw [rC, rP, rL, ← eC, ← eP]
theorem passR_none (i : Nat) (rs : List (List Nat)) : passR (fun _ => []) i rs = rs.flatten := by
  induction rs generalizing i with
  | nil => rfl
  | cons r rs ih => rw [passR, ih, List.nil_append, List.flatten_cons]
theorem flat_callRecs : ∀ (ls : List (List (List Nat))) (cpu : Nat), (callRecs cpu ls).flatten = listW cpu ls
  | [], _ => rfl
  | l :: r, cpu => by rw [callRecs, listW, List.flatten_append, flat_callRecs r]; congr 1
theorem ofW_recs (S : Scr) : ofW S = wdA (S.C - 1).toNat (S.P - 1).toNat :: (recsS S).flatten := by
  unfold ofW recsS
  rw [List.flatten_append, flat_callRecs, List.cons_append]
  congr 2
  unfold runW runRecs
  generalize runsL S.ps = l
  induction l with
  | nil => rfl
  | cons p l ih => rw [List.map_cons, List.map_cons, List.flatten_cons, List.singleton_append, ih]
/-- Read of Of is the script. -/
theorem read_of (S : Scr) (hS : okS S = true) (hO : S.Ok) : rdS (ofW S) = S := by
  have := read_pass S hS hO (fun _ => []) (fun i x hx => by cases hx)
  rwa [passR_none, ← ofW_recs] at this

/-- What is read so far. -/
structure RdOk (C calls : Nat) (ls : List (List (List Nat))) (ps : List Int) : Prop where
  len : ls.length = C
  five : ∀ cs ∈ ls, ∀ q ∈ cs, q.length = 5
  word : ∀ cs ∈ ls, ∀ q ∈ cs, ∀ v ∈ q, v < 18446744073709551616
  sum : sumS ls = calls
  most : calls ≤ 64
  picks : ps.length ≤ 4096
  pick : ∀ z ∈ ps, 0 ≤ z ∧ z < (C : Int)
theorem modify_eq (ls : List (List (List Nat))) (k : Nat) (q : List Nat) (h : k < ls.length) : ∃ a x b, ls = a ++ x :: b ∧ ls.modify k (· ++ [q]) = a ++ (x ++ [q]) :: b := by
  refine ⟨ls.take k, ls[k], ls.drop (k + 1), ?_, ?_⟩
  · rw [← List.drop_eq_getElem_cons h, List.take_append_drop]
  · apply List.ext_getElem?
    intro j
    rw [List.getElem?_modify]
    by_cases hj : k = j
    · subst hj
      rw [List.getElem?_append_right (by rw [List.length_take]; omega), List.length_take, Nat.min_eq_left (by omega), Nat.sub_self, List.getElem?_eq_getElem h]
      simp
    · simp only [if_neg hj]
      by_cases hlt : j < k
      · rw [List.getElem?_append_left (by rw [List.length_take]; omega), List.getElem?_take_of_lt hlt]; simp
      · rw [List.getElem?_append_right (by rw [List.length_take]; omega), List.length_take, Nat.min_eq_left (by omega)]
        obtain ⟨m, hm⟩ : ∃ m, j - k = m + 1 := ⟨j - k - 1, by omega⟩
        rw [hm, List.getElem?_cons_succ, List.getElem?_drop, show k + 1 + m = j by omega]; simp
theorem sumS_app (a b : List (List (List Nat))) : sumS (a ++ b) = sumS a + sumS b := by unfold sumS; rw [List.map_append, List.sum_append]
theorem RdOk.call {C calls k : Nat} {ls : List (List (List Nat))} {ps : List Int} {q : List Nat} (h : RdOk C calls ls ps) (hk : k < C) (h64 : calls < 64) (hq : q.length = 5) (hw : ∀ v ∈ q, v < 18446744073709551616) : RdOk C (calls + 1) (ls.modify k (· ++ [q])) ps := by
  obtain ⟨a, x, b, e1, e2⟩ := modify_eq ls k q (by rw [h.len]; exact hk)
  have hx : x ∈ ls := by rw [e1]; simp
  rw [e2]
  refine ⟨?_, ?_, ?_, ?_, by omega, h.picks, h.pick⟩
  · rw [← h.len, e1]; simp
  · intro cs hcs q' hq'
    simp only [List.mem_append, List.mem_cons] at hcs
    rcases hcs with hcs | rfl | hcs
    · exact h.five cs (by rw [e1]; simp [hcs]) q' hq'
    · rcases List.mem_append.1 hq' with hq' | hq'
      · exact h.five x hx q' hq'
      · rw [List.mem_singleton.1 hq']; exact hq
    · exact h.five cs (by rw [e1]; simp [hcs]) q' hq'
  · intro cs hcs q' hq'
    simp only [List.mem_append, List.mem_cons] at hcs
    rcases hcs with hcs | rfl | hcs
    · exact h.word cs (by rw [e1]; simp [hcs]) q' hq'
    · rcases List.mem_append.1 hq' with hq' | hq'
      · exact h.word x hx q' hq'
      · rw [List.mem_singleton.1 hq']; exact hw
    · exact h.word cs (by rw [e1]; simp [hcs]) q' hq'
  · have := h.sum
    rw [e1, sumS_app, sumS_cons] at this
    rw [sumS_app, sumS_cons, List.length_append, List.length_singleton]
    omega
theorem readGo_ok (C : Nat) (hC : 1 ≤ C) : ∀ (f : Nat) (l : List Nat) (calls : Nat) (ls : List (List (List Nat))) (ps : List Int), (∀ x ∈ l, x < 18446744073709551616) → RdOk C calls ls ps → ∃ calls', RdOk C calls' (readGo C f l calls ls ps).1 (readGo C f l calls ls ps).2
  | 0, _, calls, _, _, _, h => ⟨calls, h⟩
  | f + 1, [], calls, _, _, _, h => ⟨calls, h⟩
  | f + 1, x :: r, calls, ls, ps, hl, h => by
    have hr : ∀ x ∈ r, x < 18446744073709551616 := fun y hy => hl y (List.mem_cons_of_mem _ hy)
    have hm : Pl.get x 8 3 % C < C := Nat.mod_lt _ hC
    unfold readGo
    by_cases h1 : Pl.get x 0 2 = 1
    · rw [if_pos h1]
      by_cases h5 : 5 ≤ r.length
      · rw [if_pos h5]
        refine readGo_ok C hC f (r.drop 5) _ _ _ (fun y hy => hr y (List.mem_of_mem_drop hy)) ?_
        by_cases h64 : calls < 64
        · rw [if_pos h64, if_pos h64]
          exact h.call hm h64 (by rw [List.length_take]; omega) (fun v hv => hr v (List.mem_of_mem_take hv))
        · rw [if_neg h64, if_neg h64]; exact h
      · rw [if_neg h5]
        exact readGo_ok C hC f r calls ls ps hr h
    · rw [if_neg h1]
      by_cases h2 : Pl.get x 0 2 = 2
      · rw [if_pos h2]
        refine readGo_ok C hC f r calls ls _ hr ⟨h.len, h.five, h.word, h.sum, h.most, ?_, ?_⟩
        · have := h.picks; rw [List.length_append, List.length_replicate]; omega
        · intro z hz
          rcases List.mem_append.1 hz with hz | hz
          · exact h.pick z hz
          · rw [(List.mem_replicate.1 hz).2]; omega
      · rw [if_neg h2]
        exact readGo_ok C hC f r calls ls ps hr h
theorem get_lt2 (x a c : Nat) : Pl.get x a c < 2 ^ c := Nat.mod_lt _ (Nat.pow_pos (by decide))
theorem readC_in (l : List Nat) : 1 ≤ readC l ∧ readC l ≤ 8 ∧ 1 ≤ readP l ∧ readP l ≤ 64 := by
  cases l with
  | nil => exact ⟨by decide, by decide, by decide, by decide⟩
  | cons x r =>
    have h1 : Pl.get x 0 3 < 8 := get_lt2 x 0 3
    have h2 : Pl.get x 8 6 < 64 := get_lt2 x 8 6
    show 1 ≤ Pl.get x 0 3 + 1 ∧ Pl.get x 0 3 + 1 ≤ 8 ∧ 1 ≤ Pl.get x 8 6 + 1 ∧ Pl.get x 8 6 + 1 ≤ 64
    exact ⟨by omega, by omega, by omega, by omega⟩
/-- What is read may be. -/
theorem read_ok (l : List Nat) (hl : ∀ x ∈ l, x < 18446744073709551616) : okS (rdS l) = true ∧ (rdS l).Ok := by
  obtain ⟨c1, c8, p1, p64⟩ := readC_in l
  obtain ⟨calls, h⟩ := readGo_ok (readC l) c1 (l.length - 1) l.tail 0 (List.replicate (readC l) []) [] (fun x hx => hl x (List.mem_of_mem_tail hx))
    ⟨by simp, (fun cs hcs q hq => by rw [(List.mem_replicate.1 hcs).2] at hq; cases hq), (fun cs hcs q hq => by rw [(List.mem_replicate.1 hcs).2] at hq; cases hq), (by unfold sumS; simp), by decide, by simp, fun z hz => by cases hz⟩
  have e1 : (rdS l).ls = (readGo (readC l) (l.length - 1) l.tail 0 (List.replicate (readC l) []) []).1 := rfl
  have e2 : (rdS l).ps = (readGo (readC l) (l.length - 1) l.tail 0 (List.replicate (readC l) []) []).2 := rfl
  rw [← e1, ← e2] at h
  have e3 : (rdS l).C = ((readC l : Nat) : Int) := rfl
  have e4 : (rdS l).P = ((readP l : Nat) : Int) := rfl
  refine ⟨?_, ⟨h.five, h.word, by rw [e3]; omega, by rw [e4]; omega, fun z hz => by have := h.pick z hz; omega⟩⟩
  have q1 := h.len
  have q2 := h.picks
  have q3 := h.sum
  have q4 := h.most
  unfold okS ok1S
  simp only [Bool.and_eq_true, decide_eq_true_eq, Bool.not_eq_true', List.any_eq_false, badB, Bool.or_eq_true, not_or]
  rw [e3, e4]
  exact ⟨⟨by omega, by omega, by omega, by omega, by omega, by omega⟩, by omega, fun z hz => by have := h.pick z hz; omega⟩
end Go.Proofs.YtpehnahmdfoobaaDoor
