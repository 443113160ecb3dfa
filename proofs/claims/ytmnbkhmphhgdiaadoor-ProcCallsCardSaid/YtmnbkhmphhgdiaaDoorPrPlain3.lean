/- Processes: who has ended is waited for once. Plain laws. -/
import Derived.Test.YtmnbkhmphhgdiaaDoorPr12
namespace Go.Proofs.YtmnbkhmphhgdiaaDoor
open Go.RowKit
open Go.Proofs
set_option linter.unusedVariables false

theorem okRes_ok {G : Nat → Int} {L : List Pr} (h : OkL G L) (r : Res) : okRes G L r = r := by unfold okRes; rw [if_pos ((okP_iff G L).2 h)]
theorem okRes_err {G : Nat → Int} {L : List Pr} (r : Res) (h : okP G L = false) : okRes G L r = .error 320 := by unfold okRes; rw [if_neg (by rw [h]; decide)]
theorem okRes_inv {G G' : Nat → Int} {L L' : List Pr} {m : Nat} {r : Res} (h : okRes G L r = .ok (G', L', m)) : OkL G L ∧ r = .ok (G', L', m) := by
  unfold okRes at h
  by_cases ho : okP G L = true
  · rw [if_pos ho] at h; exact ⟨(okP_iff G L).1 ho, h⟩
  · rw [if_neg ho] at h; cases h
theorem len_of_sort : ∀ (L : List Pr) (a : Nat), (L.Pairwise fun x y => x.1 % 64 < y.1 % 64) → (∀ x ∈ L, a ≤ x.1 % 64 ∧ x.1 % 64 ≤ 16) → L.length + a ≤ 17 ∨ L = []
  | [], _, _, _ => .inr rfl
  | x :: r, a, hp, hb => by
    obtain ⟨h1, h2⟩ := List.pairwise_cons.1 hp
    have hx := hb x (List.mem_cons_self ..)
    left
    rcases len_of_sort r (a + 1) h2 (fun y hy => ⟨by have := h1 y hy; omega, (hb y (List.mem_cons_of_mem _ hy)).2⟩) with h | h
    · rw [List.length_cons]; omega
    · subst h
      rw [List.length_singleton]; omega
theorem ok_len {G : Nat → Int} {L : List Pr} (h : OkL G L) : L.length ≤ 16 := by
  rcases len_of_sort L 1 h.sort h.idx with e | e
  · omega
  · rw [e]; exact Nat.zero_le _
theorem spawn_bounds {G G1 : Nat → Int} {L L1 : List Pr} {parent pid : Nat} (hG : GOk G) (hL : PrsOk L) (hp : parent < 18446744073709551616) (hs : okRes G L (spawnP G L parent) = .ok (G1, L1, pid)) : GOk G1 ∧ PrsOk L1 ∧ 1 < pid ∧ pid < 10000000 ∧ L1.length ≤ 16 := by
  obtain ⟨h, hs⟩ := okRes_inv hs
  obtain ⟨h1, hrun, i, hi, hno, hg0, hg, hpid, hG1, hL1⟩ := spawn_ok h hs
  have hb : pid < 10000000 := by rw [hpid]; unfold spawnAt; omega
  have hm : pid % 64 = i + 1 := by rw [hpid]; unfold spawnAt; omega
  have hi0 : i ≠ 0 := by
    rintro rfl
    have hh := h.head
    exact hno _ (List.mem_of_getElem? hh) rfl
  refine ⟨by rw [hG1]; exact hG.upd i _ (by omega), ?_, by omega, hb, ok_len h1⟩
  intro x hx
  rw [hL1] at hx
  rcases mem_ins.1 hx with rfl | hx
  · exact ⟨by show pid < _; omega, hp, by show 0 < _; omega⟩
  · exact hL x hx
theorem exit_bounds {L : List Pr} {pid code : Nat} (hL : PrsOk L) (hc : code < 18446744073709551616) : PrsOk (L.filterMap (exitF pid code)) := by
  intro y hy
  obtain ⟨x, hx, e⟩ := List.mem_filterMap.1 hy
  have := hL x hx
  unfold exitF at e
  split at e
  · cases e
  · split at e
    · cases e; exact ⟨this.1, this.2.1, hc⟩
    · split at e
      · cases e; exact ⟨this.1, by show 0 < _; omega, this.2.2⟩
      · cases e; exact this
/-- What spawning comes to where it fails. -/
theorem spawn_err {G : Nat → Int} {L : List Pr} {parent code : Nat} (h : okRes G L (spawnP G L parent) = .error code) :
    (okP G L = false ∧ code = 320) ∨ (okP G L = true ∧ runsB L parent = false ∧ code = 321) ∨ (okP G L = true ∧ runsB L parent = true ∧ code = 322) := by
  unfold okRes at h
  cases ho : okP G L with
  | false => rw [if_neg (by rw [ho]; decide)] at h; cases h; exact .inl ⟨rfl, rfl⟩
  | true =>
    rw [if_pos ho] at h
    unfold spawnP at h
    cases hr : runsB L parent with
    | false => rw [if_neg (by rw [hr]; decide)] at h; cases h; exact .inr (.inl ⟨rfl, rfl, rfl⟩)
    | true =>
      rw [if_pos hr] at h
      cases hi : leastI G L 0 with
      | none => rw [hi] at h; cases h; exact .inr (.inr ⟨rfl, rfl, rfl⟩)
      | some i => rw [hi] at h; cases h
theorem no_kid {G : Nat → Int} {L : List Pr} {pid : Nat} (h : OkL G L) (hno : ∀ x ∈ L, x.1 ≠ pid) (h0 : 0 < pid) : ∀ y ∈ L, y.2.1 ≠ pid := by
  intro y hy e
  by_cases hp : y.2.1 = 0
  · omega
  · obtain ⟨z, hz, e1, -⟩ := (runsB_iff h.sort y.2.1).1 (h.par y hy hp).2
    exact hno z hz (by rw [e1, e])
theorem fm_id {pid code : Nat} : ∀ L : List Pr, (∀ y ∈ L, y.1 ≠ pid ∧ y.2.1 ≠ pid) → L.filterMap (exitF pid code) = L
  | [], _ => rfl
  | y :: r, h => by
    obtain ⟨h1, h2⟩ := h y (List.mem_cons_self ..)
    have e : exitF pid code y = some y := by
      unfold exitF
      rw [if_neg (by simp [h1, h2]), if_neg h1, if_neg h2]
    rw [List.filterMap_cons, e, fm_id r fun z hz => h z (List.mem_cons_of_mem _ hz)]
theorem filter_id {pid : Nat} (L : List Pr) (h : ∀ y ∈ L, y.1 ≠ pid) : L.filter (fun y => decide (y.1 ≠ pid)) = L := List.filter_eq_self.2 fun y hy => by simpa using h y hy
structure OnceP (G : Nat → Int) (L : List Pr) (G1 : Nat → Int) (L1 : List Pr) (parent pid code : Nat) (L2 : List Pr) : Prop where
  ok1 : OkL G1 L1
  early : okRes G1 L1 (waitP G1 L1 parent pid) = .error 322
  exit : okRes G1 L1 (exitP G1 L1 pid code) = .ok (G1, L2, 0)
  ok2 : OkL G1 L2
  wait : okRes G1 L2 (waitP G1 L2 parent pid) = .ok (G1, L, code)
  ok3 : OkL G1 L
  late : okRes G1 L (waitP G1 L parent pid) = .error 324
  again : okRes G1 L2 (exitP G1 L2 pid code) = .error 321
  find : findP G1 L2 pid = ((pid, parent, true, code), true)
theorem once_law {G G1 : Nat → Int} {L L1 : List Pr} {parent pid code : Nat} (hs : okRes G L (spawnP G L parent) = .ok (G1, L1, pid)) :
    OnceP G L G1 L1 parent pid code (L1.filterMap (exitF pid code)) := by
  obtain ⟨h, hs⟩ := okRes_inv hs
  obtain ⟨h1, hrun, i, hi, hno, hg0, hg, hpid, hG1, hL1⟩ := spawn_ok h hs
  have hm : pid % 64 = i + 1 := by rw [hpid]; unfold spawnAt; omega
  have hno' : ∀ x ∈ L, x.1 ≠ pid := fun x hx e => hno x hx (by rw [e, hm])
  have hpos : 0 < pid := by omega
  have hkid := no_kid h hno' hpos
  have hppos := pid_pos h hrun
  have hpp : parent ≠ pid := by
    intro e
    obtain ⟨z, hz, e1, -⟩ := (runsB_iff h.sort parent).1 hrun
    exact hno' z hz (by rw [e1, e])
  have hne1 : pid ≠ 1 := by
    intro e
    have hh := h.head
    exact hno' _ (List.mem_of_getElem? hh) e.symm
  have hxm : (pid, parent, false, 0) ∈ L1 := by rw [hL1]; exact mem_ins.2 (.inl rfl)
  have hrunp : runsB L1 parent = true := by
    obtain ⟨z, hz, e1, e2⟩ := (runsB_iff h.sort parent).1 hrun
    exact (runsB_iff h1.sort parent).2 ⟨z, by rw [hL1]; exact mem_ins.2 (.inr hz), e1, e2⟩
  have hrunx : runsB L1 pid = true := (runsB_iff h1.sort pid).2 ⟨_, hxm, rfl, rfl⟩
  have hfx : findB L1 pid = some (pid, parent, false, 0) := findB_mem h1.sort hxm
  have h2 := exit_ok (code := code) h1 hrunx hne1
  obtain ⟨A, B, hAB, hins⟩ : ∃ A B, A ++ B = L ∧ L1 = A ++ (pid, parent, false, 0) :: B := ⟨_, _, List.takeWhile_append_dropWhile, hL1⟩
  have hmA : ∀ y ∈ A, y.1 ≠ pid ∧ y.2.1 ≠ pid := fun y hy => ⟨hno' y (hAB ▸ List.mem_append.2 (.inl hy)), hkid y (hAB ▸ List.mem_append.2 (.inl hy))⟩
  have hmB : ∀ y ∈ B, y.1 ≠ pid ∧ y.2.1 ≠ pid := fun y hy => ⟨hno' y (hAB ▸ List.mem_append.2 (.inr hy)), hkid y (hAB ▸ List.mem_append.2 (.inr hy))⟩
  have hL2 : L1.filterMap (exitF pid code) = A ++ (pid, parent, true, code) :: B := by
    have ex : exitF pid code (pid, parent, false, 0) = some (pid, parent, true, code) := by
      unfold exitF
      rw [if_neg (by simp; omega), if_pos rfl]
    rw [hins, List.filterMap_append, List.filterMap_cons, ex, fm_id A hmA, fm_id B hmB]
  have hxm2 : (pid, parent, true, code) ∈ L1.filterMap (exitF pid code) := by rw [hL2]; simp
  have hf2 : findB (L1.filterMap (exitF pid code)) pid = some (pid, parent, true, code) := findB_mem h2.sort hxm2
  have hflt : (L1.filterMap (exitF pid code)).filter (fun y => decide (y.1 ≠ pid)) = L := by
    rw [hL2, List.filter_append, List.filter_cons, if_neg (by simp), filter_id A fun y hy => (hmA y hy).1, filter_id B fun y hy => (hmB y hy).1, hAB]
  have h3 : OkL G1 L := by rw [← hflt]; exact wait_ok h2 hf2 rfl
  have hrun2 : runsB (L1.filterMap (exitF pid code)) parent = true := by
    obtain ⟨z, hz, e1, e2⟩ := (runsB_iff h3.sort parent).1 hrun
    refine (runsB_iff h2.sort parent).2 ⟨z, ?_, e1, e2⟩
    have : z ∈ (L1.filterMap (exitF pid code)).filter (fun y => decide (y.1 ≠ pid)) := by rw [hflt]; exact hz
    exact (List.mem_filter.1 this).1
  have hrun2x : runsB (L1.filterMap (exitF pid code)) pid = false := by unfold runsB; rw [hf2]; rfl
  refine ⟨h1, ?_, ?_, h2, ?_, h3, ?_, ?_, ?_⟩
  · rw [okRes_ok h1]; unfold waitP; rw [if_pos hrunp, hfx]; dsimp only; rw [if_pos rfl, if_neg (by decide)]
  · rw [okRes_ok h1]; unfold exitP; rw [if_pos hrunx, if_neg hne1]
  · rw [okRes_ok h2]; unfold waitP; rw [if_pos hrun2, hf2]; dsimp only; rw [if_pos rfl, if_pos rfl, hflt]
  · rw [okRes_ok h3]; unfold waitP
    have : findB L pid = none := List.find?_eq_none.2 fun x hx => by simpa using hno' x hx
    rw [if_pos hrun, this]
  · rw [okRes_ok h2]; unfold exitP; rw [if_neg (by rw [hrun2x]; decide)]
  · unfold findP; rw [if_pos ((okP_iff _ _).2 h2), hf2]
end Go.Proofs.YtmnbkhmphhgdiaaDoor
