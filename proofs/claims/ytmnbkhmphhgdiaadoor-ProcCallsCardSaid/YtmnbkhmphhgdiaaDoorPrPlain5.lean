/- Processes: no pid is spawned twice. Plain laws. -/
import Derived.Test.YtmnbkhmphhgdiaaDoorPrPlain3
import Derived.Test.YtmnbkhmphhgdiaaDoorMapsI
namespace Go.Proofs.YtmnbkhmphhgdiaaDoor
open Go.RowKit
open Go.Proofs
set_option linter.unusedVariables false

/-- A pid that has been met: its generation is gone by. -/
def GenLt (G : Nat → Int) (q : Nat) : Prop := q = 0 ∨ ((1 ≤ q % 64 ∧ q % 64 ≤ 16) ∧ ((q / 64 : Nat) : Int) < G (q % 64 - 1))
structure NevI (G : Nat → Int) (P : List Pr) (M : List (Nat × Nat)) : Prop where
  ok : OkL G P
  gok : GOk G
  bnd : PrsOk P
  met : ∀ p ∈ M, GenLt G p.1
theorem atM_none : ∀ (M : List (Nat × Nat)) (q : Nat), (∀ p ∈ M, p.1 ≠ q) → atM M q = 0 := by
  intro M q h
  have key : ∀ (M : List (Nat × Nat)) (a : Nat), (∀ p ∈ M, p.1 ≠ q) → M.foldl (fun a p => if p.1 = q then p.2 else a) a = a := by
    intro M
    induction M with
    | nil => intro a _; rfl
    | cons p r ih =>
      intro a h
      rw [List.foldl_cons, if_neg (h p (List.mem_cons_self ..))]
      exact ih a fun p hp => h p (List.mem_cons_of_mem _ hp)
  exact key M 0 h
theorem nev_0 {G : Nat → Int} {P : List Pr} (h : OkL G P) (hG : GOk G) (hP : PrsOk P) : NevI G P (P.map fun z => (z.1, 1)) := by
  refine ⟨h, hG, hP, fun p hp => ?_⟩
  obtain ⟨z, hz, rfl⟩ := List.mem_map.1 hp
  have := h.gen z hz
  exact .inr ⟨h.idx z hz, by show ((z.1 / 64 : Nat) : Int) < G (z.1 % 64 - 1); omega⟩
theorem nev_spawn {G G' : Nat → Int} {P P' : List Pr} {M : List (Nat × Nat)} {parent pid : Nat} (h : NevI G P M) (hp : parent < 18446744073709551616) (hs : okRes G P (spawnP G P parent) = .ok (G', P', pid)) :
    atM M pid = 0 ∧ runsP G' P' pid = true ∧ decide (pid ∈ kidsP G' P' parent) = true ∧ NevI G' P' (M ++ [(pid, 1)]) ∧ pid < 10000000 ∧ runsP G' P' 1 = true := by
  obtain ⟨hG', hP', h1, hpb, -⟩ := spawn_bounds h.gok h.bnd hp hs
  obtain ⟨-, hs⟩ := okRes_inv hs
  obtain ⟨h1', hrun, i, hi, hno, hg0, hg, hpid, hG1, hL1⟩ := spawn_ok h.ok hs
  have hm : pid % 64 = i + 1 := by rw [hpid]; unfold spawnAt; omega
  have hd : ((pid / 64 : Nat) : Int) = G i := by rw [hpid]; unfold spawnAt; omega
  have hxm : (pid, parent, false, 0) ∈ P' := by rw [hL1]; exact mem_ins.2 (.inl rfl)
  have hok : okP G' P' = true := (okP_iff _ _).2 h1'
  have hpp := pid_pos h.ok hrun
  have hrx : runsB P' pid = true := (runsB_iff h1'.sort pid).2 ⟨_, hxm, rfl, rfl⟩
  refine ⟨atM_none M pid fun p hp e => ?_, by unfold runsP; rw [hok, hrx]; rfl, ?_, ⟨h1', hG', hP', fun p hp => ?_⟩, hpb, by unfold runsP; rw [hok, runs_first h1']; rfl⟩
  · rcases h.met p hp with e0 | ⟨-, e1⟩
    · omega
    · rw [e, hm, hd, Nat.add_sub_cancel] at e1
      omega
  · refine decide_eq_true ?_
    unfold kidsP
    rw [if_pos ⟨by omega, hok⟩]
    exact List.mem_map.2 ⟨_, List.mem_filter.2 ⟨hxm, by simp⟩, rfl⟩
  · rcases List.mem_append.1 hp with hp | hp
    · rcases h.met p hp with e0 | ⟨e1, e2⟩
      · exact .inl e0
      · refine .inr ⟨e1, ?_⟩
        rw [hG1]
        unfold updG
        split
        · rename_i e3
          rw [e3] at e2
          omega
        · exact e2
    · rw [List.mem_singleton] at hp
      subst hp
      refine .inr ⟨by show 1 ≤ pid % 64 ∧ pid % 64 ≤ 16; omega, ?_⟩
      show ((pid / 64 : Nat) : Int) < G' (pid % 64 - 1)
      rw [hm, hd, hG1, Nat.add_sub_cancel]
      unfold updG
      rw [if_pos rfl]
      omega
theorem nev_same {G : Nat → Int} {P P' : List Pr} {M : List (Nat × Nat)} (h : NevI G P M) (h' : OkL G P') (hb : PrsOk P') : NevI G P' (M ++ [(0, 1)]) :=
  ⟨h', h.gok, hb, fun p hp => by
    rcases List.mem_append.1 hp with hp | hp
    · exact h.met p hp
    · rw [List.mem_singleton] at hp
      subst hp
      exact .inl rfl⟩
theorem nev_exit {G G' : Nat → Int} {P P' : List Pr} {M : List (Nat × Nat)} {pid code m : Nat} (h : NevI G P M) (hc : code < 18446744073709551616) (hs : okRes G P (exitP G P pid code) = .ok (G', P', m)) :
    NevI G' P' (M ++ [(0, 1)]) ∧ runsP G' P' 1 = true := by
  obtain ⟨-, hs⟩ := okRes_inv hs
  unfold exitP at hs
  by_cases hr : runsB P pid = true
  · rw [if_pos hr] at hs
    by_cases h1 : pid = 1
    · rw [if_pos h1] at hs; cases hs
    · rw [if_neg h1] at hs
      cases hs
      have ho := exit_ok (code := code) h.ok hr h1
      exact ⟨nev_same h ho (exit_bounds h.bnd hc), by unfold runsP; rw [(okP_iff _ _).2 ho, runs_first ho]; rfl⟩
  · rw [if_neg hr] at hs; cases hs
theorem nev_wait {G G' : Nat → Int} {P P' : List Pr} {M : List (Nat × Nat)} {pid child m : Nat} (h : NevI G P M) (hs : okRes G P (waitP G P pid child) = .ok (G', P', m)) :
    NevI G' P' (M ++ [(0, 1)]) ∧ runsP G' P' 1 = true := by
  obtain ⟨-, hs⟩ := okRes_inv hs
  unfold waitP at hs
  by_cases hr : runsB P pid = true
  · rw [if_pos hr] at hs
    cases hf : findB P child with
    | none => rw [hf] at hs; cases hs
    | some x =>
      rw [hf] at hs
      dsimp only at hs
      by_cases h1 : x.2.1 = pid
      · rw [if_pos h1] at hs
        by_cases h2 : x.2.2.1 = true
        · rw [if_pos h2] at hs
          cases hs
          have ho := wait_ok h.ok hf h2
          exact ⟨nev_same h ho fun y hy => h.bnd y (List.mem_filter.1 hy).1, by unfold runsP; rw [(okP_iff _ _).2 ho, runs_first ho]; rfl⟩
        · rw [if_neg h2] at hs; cases hs
      · rw [if_neg h1] at hs; cases hs
  · rw [if_neg hr] at hs; cases hs
/-- The codes of errors. -/
theorem res_code {G : Nat → Int} {P : List Pr} {r : Res} {code : Nat} (h : okRes G P r = .error code) (hr : ∀ c, r = .error c → 321 ≤ c ∧ c ≤ 324) : 320 ≤ code ∧ code ≤ 324 := by
  unfold okRes at h
  by_cases ho : okP G P = true
  · rw [if_pos ho] at h
    have := hr code h
    omega
  · rw [if_neg ho] at h
    cases h
    omega
theorem spawn_code {G : Nat → Int} {P : List Pr} {parent c : Nat} (h : spawnP G P parent = .error c) : 321 ≤ c ∧ c ≤ 324 := by
  unfold spawnP at h
  split at h
  · split at h
    · cases h
    · cases h; omega
  · cases h; omega
theorem exit_code {G : Nat → Int} {P : List Pr} {pid code c : Nat} (h : exitP G P pid code = .error c) : 321 ≤ c ∧ c ≤ 324 := by
  unfold exitP at h
  split at h
  · split at h
    · cases h; omega
    · cases h
  · cases h; omega
theorem wait_code {G : Nat → Int} {P : List Pr} {pid child c : Nat} (h : waitP G P pid child = .error c) : 321 ≤ c ∧ c ≤ 324 := by
  unfold waitP at h
  split at h
  · split at h
    · split at h
      · split at h
        · cases h
        · cases h; omega
      · cases h; omega
    · cases h; omega
  · cases h; omega
end Go.Proofs.YtmnbkhmphhgdiaaDoor
