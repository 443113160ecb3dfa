/- Processes: with all ended, and waited for, the first one is alone. Plain laws. -/
import Derived.Test.YtmnbkhmphhgdiaaDoorPrPlain3
namespace Go.Proofs.YtmnbkhmphhgdiaaDoor
open Go.RowKit
open Go.Proofs
set_option linter.unusedVariables false

/-- Behind the first k of a row: who of them is not the first one runs no more. -/
structure AloneK (G : Nat → Int) (LL : List Pr) (k : Nat) (P : List Pr) : Prop where
  ok : OkL G P
  pids : ∀ y ∈ P, ∃ z ∈ LL, z.1 = y.1
  dead : ∀ z ∈ LL.take k, z.1 = 1 ∨ runsB P z.1 = false
  bnd : PrsOk P
theorem alone_0 {G : Nat → Int} {LL : List Pr} (h : OkL G LL) (hb : PrsOk LL) : AloneK G LL 0 LL :=
  ⟨h, fun y hy => ⟨y, hy, rfl⟩, fun z hz => by simp at hz, hb⟩
theorem alone_skip {G : Nat → Int} {LL P : List Pr} {k : Nat} {z : Pr} (h : AloneK G LL k P) (hz : LL[k]? = some z) (hs : z.1 = 1 ∨ runsB P z.1 = false) : AloneK G LL (k + 1) P :=
  ⟨h.ok, h.pids, fun y hy => by
    rw [take_pr hz, List.mem_append, List.mem_singleton] at hy
    rcases hy with hy | rfl
    · exact h.dead y hy
    · exact hs, h.bnd⟩
theorem runs_exit {G : Nat → Int} {P : List Pr} {pid code q : Nat} (h : OkL G P) (hr : runsB P pid = true) (h1 : pid ≠ 1) (hq : runsB (P.filterMap (exitF pid code)) q = true) : runsB P q = true ∧ q ≠ pid := by
  have h2 := exit_ok (code := code) h hr h1
  obtain ⟨y, hy, e1, e2⟩ := (runsB_iff h2.sort q).1 hq
  obtain ⟨x, hx, e⟩ := List.mem_filterMap.1 hy
  have hp := exitF_pid e
  unfold exitF at e
  split at e
  · cases e
  · split at e
    · cases e; cases e2
    · rename_i hne
      split at e
      · cases e
        exact ⟨(runsB_iff h.sort q).2 ⟨x, hx, by rw [← hp]; exact e1, e2⟩, fun e3 => hne (by rw [← hp, e1, e3])⟩
      · cases e
        exact ⟨(runsB_iff h.sort q).2 ⟨_, hx, e1, e2⟩, fun e3 => hne (by rw [e1, e3])⟩
theorem alone_exit {G : Nat → Int} {LL P : List Pr} {k : Nat} {z : Pr} (h : AloneK G LL k P) (hz : LL[k]? = some z) (h1 : z.1 ≠ 1) (hr : runsB P z.1 = true) :
    okRes G P (exitP G P z.1 3) = .ok (G, P.filterMap (exitF z.1 3), 0) ∧ AloneK G LL (k + 1) (P.filterMap (exitF z.1 3)) := by
  have h2 := exit_ok (code := 3) h.ok hr h1
  have key : ∀ q, runsB P q = false ∨ q = z.1 → runsB (P.filterMap (exitF z.1 3)) q = false := by
    intro q hq
    cases hc : runsB (P.filterMap (exitF z.1 3)) q with
    | false => rfl
    | true =>
      obtain ⟨a, b⟩ := runs_exit h.ok hr h1 hc
      rcases hq with hq | hq
      · rw [hq] at a; cases a
      · exact absurd hq b
  refine ⟨by rw [okRes_ok h.ok]; unfold exitP; rw [if_pos hr, if_neg h1], h2, fun y hy => ?_, fun y hy => ?_, exit_bounds h.bnd (by decide)⟩
  · obtain ⟨x, hx, e⟩ := List.mem_filterMap.1 hy
    rw [exitF_pid e]
    exact h.pids x hx
  · rw [take_pr hz, List.mem_append, List.mem_singleton] at hy
    rcases hy with hy | rfl
    · rcases h.dead y hy with e | e
      · exact .inl e
      · exact .inr (key _ (.inl e))
    · exact .inr (key _ (.inr rfl))
/-- What is left: the first one, and its children, who are dead. -/
structure Left (G : Nat → Int) (rest : List Pr) : Prop where
  ok : OkL G (firstP :: rest)
  dead : ∀ y ∈ rest, y.2.2.1 = true ∧ y.2.1 = 1
  bnd : PrsOk (firstP :: rest)
theorem rest_ne {G : Nat → Int} {rest : List Pr} (h : OkL G (firstP :: rest)) : ∀ y ∈ rest, y.1 ≠ 1 := by
  intro y hy e
  have h1 : 1 % 64 < y.1 % 64 := (List.pairwise_cons.1 h.sort).1 y hy
  rw [e] at h1
  exact Nat.lt_irrefl _ h1
theorem alone_end {G : Nat → Int} {LL P : List Pr} (h : AloneK G LL LL.length P) : ∃ rest, P = firstP :: rest ∧ Left G rest := by
  have hh := h.ok.head
  cases P with
  | nil => simp at hh
  | cons f rest =>
    simp only [List.getElem?_cons_zero, Option.some.injEq] at hh
    subst hh
    have hne := rest_ne h.ok
    have hdead : ∀ y ∈ rest, y.2.2.1 = true := by
      intro y hy
      obtain ⟨z, hz, e⟩ := h.pids y (List.mem_cons_of_mem _ hy)
      rcases h.dead z (by rw [List.take_length]; exact hz) with e1 | e1
      · exact absurd (by rw [← e, e1]) (hne y hy)
      · rw [e] at e1
        unfold runsB at e1
        rw [findB_mem h.ok.sort (List.mem_cons_of_mem _ hy)] at e1
        simpa using e1
    refine ⟨rest, rfl, h.ok, fun y hy => ⟨hdead y hy, ?_⟩, h.bnd⟩
    have hm := List.mem_cons_of_mem firstP hy
    obtain ⟨z, hz, e1, e2⟩ := (runsB_iff h.ok.sort y.2.1).1 (h.ok.par y hm (h.ok.orph y hm (hdead y hy))).2
    rcases List.mem_cons.1 hz with rfl | hz
    · exact e1.symm
    · rw [hdead z hz] at e2; cases e2
theorem left_kids {G : Nat → Int} {rest : List Pr} (h : Left G rest) : kidsP G (firstP :: rest) 1 = rest.map (·.1) := by
  unfold kidsP
  rw [if_pos ⟨by decide, (okP_iff _ _).2 h.ok⟩, List.filter_cons, if_neg (by decide), List.filter_eq_self.2 fun y hy => by simpa using (h.dead y hy).2]
theorem left_wait {G : Nat → Int} {y : Pr} {r : List Pr} (h : Left G (y :: r)) : okRes G (firstP :: y :: r) (waitP G (firstP :: y :: r) 1 y.1) = .ok (G, firstP :: r, y.2.2.2) ∧ Left G r := by
  have hy := List.mem_cons_self (a := y) (l := r)
  have hf : findB (firstP :: y :: r) y.1 = some y := findB_mem h.ok.sort (List.mem_cons_of_mem _ hy)
  have hflt : (firstP :: y :: r).filter (fun x => decide (x.1 ≠ y.1)) = firstP :: r := by
    have h1 : (1 : Nat) ≠ y.1 := fun e => rest_ne h.ok y hy e.symm
    have hs := (List.pairwise_cons.1 (List.pairwise_cons.1 h.ok.sort).2).1
    rw [List.filter_cons, if_pos (by simpa using h1), List.filter_cons, if_neg (by simp), List.filter_eq_self.2 fun z hz => by
      have := hs z hz
      have : z.1 ≠ y.1 := fun e => by rw [e] at this; omega
      simpa using this]
  have hok := wait_ok h.ok hf (h.dead y hy).1
  rw [hflt] at hok
  refine ⟨?_, hok, fun z hz => h.dead z (List.mem_cons_of_mem _ hz), fun z hz => h.bnd z ?_⟩
  · rw [okRes_ok h.ok]; unfold waitP; rw [if_pos (runs_first h.ok), hf]; dsimp only; rw [if_pos (h.dead y hy).2, if_pos (h.dead y hy).1, hflt]
  · rcases List.mem_cons.1 hz with rfl | hz
    · exact List.mem_cons_self ..
    · exact List.mem_cons_of_mem _ (List.mem_cons_of_mem _ hz)
theorem left_end {G : Nat → Int} (h : Left G []) : okRes G [firstP] (exitP G [firstP] 1 0) = .error 323 := by
  rw [okRes_ok h.ok]; unfold exitP; rw [if_pos (runs_first h.ok), if_pos rfl]
end Go.Proofs.YtmnbkhmphhgdiaaDoor
