/- Processes: what spawning, ending and waiting come to, and that what comes may be. Plain laws. -/
import Derived.Test.YtmnbkhmphhgdiaaDoorPrPlain1
import Derived.Test.YtmnbkhmphhgdiaaDoorPr6
namespace Go.Proofs.YtmnbkhmphhgdiaaDoor
open Go.RowKit
open Go.Proofs
set_option linter.unusedVariables false

def updG (G : Nat → Int) (i : Nat) (v : Int) : Nat → Int := fun j => if j = i then v else G j
def spawnAt (G : Nat → Int) (i : Nat) : Nat := (G i).toNat * 64 + i + 1
def spawnP (G : Nat → Int) (L : List Pr) (parent : Nat) : Res := if runsB L parent = true then (match leastI G L 0 with
  | some i => .ok (updG G i (G i + 1), insP L (spawnAt G i, parent, false, 0), spawnAt G i)
  | none => .error 322) else .error 321
/-- What becomes of a process where another one ends. -/
def exitF (pid code : Nat) (y : Pr) : Option Pr := if (decide (y.1 = pid) && decide (y.2.1 = 0)) || (decide (y.2.1 = pid) && y.2.2.1) then none
  else if y.1 = pid then some (y.1, y.2.1, true, code) else if y.2.1 = pid then some (y.1, 0, y.2.2.1, y.2.2.2) else some y
def exitP (G : Nat → Int) (L : List Pr) (pid code : Nat) : Res := if runsB L pid = true then (if pid = 1 then .error 323 else .ok (G, L.filterMap (exitF pid code), 0)) else .error 321
def waitP (G : Nat → Int) (L : List Pr) (pid child : Nat) : Res := if runsB L pid = true then (match findB L child with
  | some x => if x.2.1 = pid then (if x.2.2.1 = true then .ok (G, L.filter (fun y => decide (y.1 ≠ child)), x.2.2.2) else .error 322) else .error 324
  | none => .error 324) else .error 321

theorem sort_ins {L : List Pr} (h : L.Pairwise fun x y => x.1 % 64 < y.1 % 64) (x : Pr) (hx : ∀ y ∈ L, y.1 % 64 ≠ x.1 % 64) : (insP L x).Pairwise fun x y => x.1 % 64 < y.1 % 64 := by
  induction L with
  | nil => exact List.pairwise_singleton _ _
  | cons z r ih =>
    obtain ⟨h1, h2⟩ := List.pairwise_cons.1 h
    have hz := hx z (List.mem_cons_self ..)
    by_cases hlt : x.1 % 64 < z.1 % 64
    · have e : insP (z :: r) x = x :: z :: r := by simp [insP, hlt]
      rw [e]
      refine List.pairwise_cons.2 ⟨fun y hy => ?_, h⟩
      rcases List.mem_cons.1 hy with rfl | hy
      · exact hlt
      · exact Nat.lt_trans hlt (h1 y hy)
    · have e : insP (z :: r) x = z :: insP r x := by simp [insP, hlt]
      rw [e]
      refine List.pairwise_cons.2 ⟨fun y hy => ?_, ih h2 fun y hy => hx y (List.mem_cons_of_mem _ hy)⟩
      rcases mem_ins.1 hy with rfl | hy
      · omega
      · exact h1 y hy
theorem leastI_some {G : Nat → Int} {L : List Pr} {k i : Nat} (h : leastI G L k = some i) : i < 16 ∧ (∀ x ∈ L, x.1 % 64 ≠ i + 1) ∧ G i ≤ 65535 := by
  unfold leastI at h
  have h1 := List.find?_some h
  have h2 := List.mem_of_find?_eq_some h
  simp only [Bool.and_eq_true, Bool.not_eq_true', decide_eq_true_eq, List.any_eq_false] at h1
  rw [List.mem_range'_1] at h2
  exact ⟨by omega, fun x hx => by simpa using h1.1 x hx, h1.2⟩
theorem spawn_ok {G G' : Nat → Int} {L L' : List Pr} {parent pid : Nat} (h : OkL G L) (hs : spawnP G L parent = .ok (G', L', pid)) : OkL G' L' ∧ runsB L parent = true ∧ ∃ i, i < 16 ∧ (∀ x ∈ L, x.1 % 64 ≠ i + 1) ∧ 0 ≤ G i ∧ G i ≤ 65535 ∧ pid = spawnAt G i ∧ G' = updG G i (G i + 1) ∧ L' = insP L (pid, parent, false, 0) := by
  unfold spawnP at hs
  by_cases hr : runsB L parent = true
  · rw [if_pos hr] at hs
    cases hi : leastI G L 0 with
    | none => rw [hi] at hs; cases hs
    | some i =>
      rw [hi] at hs
      simp only [Except.ok.injEq, Prod.mk.injEq] at hs
      obtain ⟨rfl, rfl, rfl⟩ := hs
      obtain ⟨h16, hno, hg⟩ := leastI_some hi
      have hg0 := (h.gens i h16).1
      have hm : spawnAt G i % 64 = i + 1 := by unfold spawnAt; omega
      have hd : spawnAt G i / 64 = (G i).toNat := by unfold spawnAt; omega
      have hsort := sort_ins h.sort (spawnAt G i, parent, false, 0) (fun y hy => by rw [hm]; exact hno y hy)
      have hruns : ∀ q, runsB L q = true → runsB (insP L (spawnAt G i, parent, false, 0)) q = true := by
        intro q hq
        obtain ⟨x, hx, e, hd⟩ := (runsB_iff h.sort q).1 hq
        exact (runsB_iff hsort q).2 ⟨x, mem_ins.2 (.inr hx), e, hd⟩
      refine ⟨⟨?_, ?_, ?_, ?_, ?_, ?_, ?_, hsort⟩, hr, i, h16, hno, hg0, hg, rfl, rfl, rfl⟩
      · have hh := h.head
        cases L with
        | nil => simp at hh
        | cons z r =>
          simp only [List.getElem?_cons_zero, Option.some.injEq] at hh
          subst hh
          have : ¬ (spawnAt G i % 64 < 1) := by omega
          simp [insP, firstP, this]
      · intro k hk
        unfold updG
        split
        · omega
        · exact h.gens k hk
      · intro x hx
        rcases mem_ins.1 hx with rfl | hx
        · rw [hm]; omega
        · exact h.idx x hx
      · intro x hx
        rcases mem_ins.1 hx with rfl | hx
        · show ((spawnAt G i / 64 + 1 : Nat) : Int) = updG G i (G i + 1) (spawnAt G i % 64 - 1)
          rw [hm, hd, Nat.add_sub_cancel]
          unfold updG
          rw [if_pos rfl]
          omega
        · have := h.gen x hx
          have h1 := hno x hx
          have h2 := h.idx x hx
          unfold updG
          rw [if_neg (by omega)]
          exact this
      · intro x hx hd
        rcases mem_ins.1 hx with rfl | hx
        · cases hd
        · exact h.orph _ hx hd
      · intro x hx hd
        rcases mem_ins.1 hx with rfl | hx
        · rfl
        · exact h.code x hx hd
      · intro x hx hp
        rcases mem_ins.1 hx with rfl | hx
        · refine ⟨?_, hruns _ hr⟩
          intro e
          obtain ⟨z, hz, e1, -⟩ := (runsB_iff h.sort parent).1 hr
          have := hno z hz
          rw [e1] at this
          have e2 : parent = spawnAt G i := e
          rw [e2, hm] at this
          exact this rfl
        · exact ⟨(h.par x hx hp).1, hruns _ (h.par x hx hp).2⟩
  · rw [if_neg hr] at hs
    cases hs
theorem exitF_pid {pid code : Nat} {x y : Pr} (h : exitF pid code x = some y) : y.1 = x.1 := by
  unfold exitF at h
  split at h
  · cases h
  · split at h
    · cases h; rfl
    · split at h <;> cases h <;> rfl
theorem pid_pos {G : Nat → Int} {L : List Pr} (h : OkL G L) {pid : Nat} (hr : runsB L pid = true) : 0 < pid := by
  obtain ⟨z, hz, e1, -⟩ := (runsB_iff h.sort pid).1 hr
  have := h.idx z hz
  omega
theorem exit_ok {G : Nat → Int} {L : List Pr} {pid code : Nat} (h : OkL G L) (hr : runsB L pid = true) (h1 : pid ≠ 1) : OkL G (L.filterMap (exitF pid code)) := by
  have hpos := pid_pos h hr
  have hsort := sort_sub h.sort (exitF pid code) fun x y hxy => exitF_pid hxy
  have hmem : ∀ y ∈ L.filterMap (exitF pid code), ∃ x ∈ L, exitF pid code x = some y := fun y hy => List.mem_filterMap.1 hy
  have hruns : ∀ q, q ≠ pid → runsB L q = true → runsB (L.filterMap (exitF pid code)) q = true := by
    intro q hq hrq
    obtain ⟨z, hz, e1, e2⟩ := (runsB_iff h.sort q).1 hrq
    refine (runsB_iff hsort q).2 ?_
    by_cases hp : z.2.1 = pid
    · refine ⟨(z.1, 0, z.2.2.1, z.2.2.2), List.mem_filterMap.2 ⟨z, hz, ?_⟩, e1, e2⟩
      unfold exitF
      rw [if_neg (by simp [e2, e1, hq]), if_neg (by rw [e1]; exact hq), if_pos hp]
    · refine ⟨z, List.mem_filterMap.2 ⟨z, hz, ?_⟩, e1, e2⟩
      unfold exitF
      rw [if_neg (by simp [e2, e1, hq]), if_neg (by rw [e1]; exact hq), if_neg hp]
  refine ⟨?_, h.gens, ?_, ?_, ?_, ?_, ?_, hsort⟩
  · have hh := h.head
    cases L with
    | nil => simp at hh
    | cons z r =>
      simp only [List.getElem?_cons_zero, Option.some.injEq] at hh
      subst hh
      have : exitF pid code firstP = some firstP := by
        unfold exitF firstP
        rw [if_neg (by simp; omega), if_neg (by simp; omega), if_neg (by simp; omega)]
      rw [List.filterMap_cons, this]
      rfl
  · intro y hy
    obtain ⟨x, hx, e⟩ := hmem y hy
    rw [exitF_pid e]
    exact h.idx x hx
  · intro y hy
    obtain ⟨x, hx, e⟩ := hmem y hy
    rw [exitF_pid e]
    exact h.gen x hx
  · intro y hy hd
    obtain ⟨x, hx, e⟩ := hmem y hy
    unfold exitF at e
    split at e
    · cases e
    · rename_i h0
      simp only [Bool.or_eq_true, Bool.and_eq_true, decide_eq_true_eq, not_or, not_and] at h0
      split at e
      · rename_i hp
        cases e
        exact h0.1 hp
      · split at e
        · rename_i hp
          cases e
          exact absurd hd (h0.2 hp)
        · cases e
          exact h.orph _ hx hd
  · intro y hy hd
    obtain ⟨x, hx, e⟩ := hmem y hy
    unfold exitF at e
    split at e
    · cases e
    · split at e
      · cases e; cases hd
      · split at e
        · cases e; first | exact h.code x hx hd | exact h.code _ hx hd
        · cases e; first | exact h.code x hx hd | exact h.code _ hx hd
  · intro y hy hp
    obtain ⟨x, hx, e⟩ := hmem y hy
    unfold exitF at e
    split at e
    · cases e
    · split at e
      · rename_i hxp
        cases e
        have := h.par _ hx hp
        exact ⟨this.1, hruns _ (fun e => this.1 (by rw [e, hxp])) this.2⟩
      · split at e
        · cases e; exact absurd rfl hp
        · rename_i hpp
          cases e
          have := h.par _ hx hp
          exact ⟨this.1, hruns _ hpp this.2⟩
theorem wait_ok {G : Nat → Int} {L : List Pr} {child : Nat} {x : Pr} (h : OkL G L) (hf : findB L child = some x) (hd : x.2.2.1 = true) : OkL G (L.filter (fun y => decide (y.1 ≠ child))) := by
  obtain ⟨hxm, hxc⟩ := findB_some hf
  have hsort : (L.filter (fun y => decide (y.1 ≠ child))).Pairwise fun x y => x.1 % 64 < y.1 % 64 := h.sort.filter _
  have hmem : ∀ y ∈ L.filter (fun y => decide (y.1 ≠ child)), y ∈ L := fun y hy => (List.mem_filter.1 hy).1
  have hruns : ∀ q, runsB L q = true → runsB (L.filter (fun y => decide (y.1 ≠ child))) q = true := by
    intro q hrq
    obtain ⟨z, hz, e1, e2⟩ := (runsB_iff h.sort q).1 hrq
    refine (runsB_iff hsort q).2 ⟨z, List.mem_filter.2 ⟨hz, ?_⟩, e1, e2⟩
    have : z.1 ≠ child := by
      intro e
      have := mem_eq h.sort hz hxm (by rw [e, hxc])
      rw [this, hd] at e2
      cases e2
    simpa using this
  refine ⟨?_, h.gens, fun y hy => h.idx y (hmem y hy), fun y hy => h.gen y (hmem y hy), fun y hy => h.orph y (hmem y hy), fun y hy => h.code y (hmem y hy), fun y hy hp => ⟨(h.par y (hmem y hy) hp).1, hruns _ (h.par y (hmem y hy) hp).2⟩, hsort⟩
  have hh := h.head
  cases L with
  | nil => simp at hh
  | cons z r =>
    simp only [List.getElem?_cons_zero, Option.some.injEq] at hh
    subst hh
    have : (1 : Nat) ≠ child := by
      intro e
      have := mem_eq h.sort (List.mem_cons_self ..) hxm (by show 1 % 64 = _; rw [hxc, ← e])
      rw [← this] at hd
      cases hd
    rw [List.filter_cons, if_pos (by simpa using this)]
    rfl
theorem runs_first {G : Nat → Int} {L : List Pr} (h : OkL G L) : runsB L 1 = true := by
  have hh := h.head
  cases L with
  | nil => simp at hh
  | cons z r =>
    simp only [List.getElem?_cons_zero, Option.some.injEq] at hh
    subst hh
    exact (runsB_iff h.sort 1).2 ⟨firstP, List.mem_cons_self .., rfl, rfl⟩
end Go.Proofs.YtmnbkhmphhgdiaaDoor
