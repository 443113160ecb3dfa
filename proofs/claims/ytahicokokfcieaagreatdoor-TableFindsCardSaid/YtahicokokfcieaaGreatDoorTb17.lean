/- Tables (printed by gen_tb17.py): a step of who looks. -/
import Derived.Test.YtahicokokfcieaaGreatDoorTgAn
namespace Go.Proofs.YtahicokokfcieaaGreatDoor
open Go.RowKit
open Go.Proofs
set_option linter.unusedVariables false
attribute [local go_sem] Oper.semAt_some
def GivesLook (B R S n : Nat) (X : Mem × Lk × Bool) (V : World) (e : Ending) (W : World) : Prop :=
  e = .returned (.bool X.2.2) ∧ RunT B R X.1 (if X.2.2 = true then n + 1 else n) W ∧ W.heap[S]? = some (.cells (lk12 X.2.1) 43 (0, 0)) ∧ Tch (fun k => k = R ∨ k = S) V W
theorem look_no (B R S n : Nat) (M : Mem) (l : Lk) (V : World) (h : RunT B R M n V) (hS : V.heap[S]? = some (.cells (lk12 l) 43 (0, 0))) (h0 : l.ph ≠ 0) (h1 : l.ph ≠ 1) :
    Calls Tryz.prog 55 #[.pointer (some ⟨R, 0, none⟩), .pointer (some ⟨S, 0, none⟩)] V (GivesLook B R S n (lookE M l) V) := by
  have e : lookE M l = (M, l, false) := by unfold lookE; rw [if_neg h0, if_neg h1]
  rw [e]
  have HR := hid h
  have HS := hid hS
  have s0 : V.cell? ⟨S, 0, none⟩ = some (.int .i64 l.ph) := cell_laid (i := 0) hS rfl
  have t0 : (l.ph == 0) = false := by simp [h0]
  have t1 : (l.ph == 1) = false := by simp [h1]
  clear h hS h0 h1 e
  go_enter Tryz.func55, Tryz.ntmps55
  go_wp2
  go_ret
  exact ⟨rfl, HR.out, HS.out, Tch.refl _ _⟩
structure RLk (R S : Nat) (cs cs' : Array Value) where
  w : World
  br : w.heap[R]? = some (.cells cs 92 (0, 0))
  bs : w.heap[S]? = some (.cells cs' 43 (0, 0))
set_option maxRecDepth 100000 in
set_option maxHeartbeats 4000000 in
theorem look_seek (B R S n : Nat) (M : Mem) (l : Lk) (V : World) (h : RunT B R M n V) (hS : V.heap[S]? = some (.cells (lk12 l) 43 (0, 0))) (hB : B ≤ V.heap.size) (hs : l.s.Ok) (h1 : l.ph = 1) (hn : n ≤ 1000000) :
    Calls Tryz.prog 55 #[.pointer (some ⟨R, 0, none⟩), .pointer (some ⟨S, 0, none⟩)] V (GivesLook B R S n (lookE M l) V) := by
  obtain ⟨lp, root, key, array, many, s⟩ := l
  dsimp only at h1 hs
  subst h1
  obtain ⟨⟨M', s', c'⟩, hX⟩ : ∃ x, sseekP M s = x := ⟨_, rfl⟩
  have e : lookE M ⟨1, root, key, array, many, s⟩ = (M', ⟨if s'.ph = 4 then 2 else if s'.ph = 5 then 3 else 1, root, key, array, many, s'⟩, true) := by unfold lookE; dsimp only; rw [if_neg (by decide), if_pos rfl, hX]
  rw [e]
  obtain ⟨wa, wc, la, lc, hR, hO⟩ := h
  obtain ⟨D, hD⟩ : ∃ DX, V.drew = DX := ⟨_, rfl⟩
  have hbD : Below V.heap.size V D := by rw [← hD]; exact (Below.refl _ _).drew
  have HD := hid hD
  have KR := hid (keep_laid hR hbD)
  have KS := hid (keep_laid hS hbD)
  have HO := hid (hO.grow hbD)
  have HT := hid (Tch.of_below (P := fun k => k = R ∨ k = S) hbD)
  have hBD : B ≤ D.heap.size := Nat.le_trans hB hbD.size
  have HST := hid (StepSeek_any M s wa la wc lc D HO.out.memL hs)
  rw [hX] at HST
  have hwl := hO.memL.w.len
  have hll := hO.memL.l.len
  have hRS : R ≠ S := type_ne hR hS (by decide)
  have hSR : S ≠ R := Ne.symm hRS
  have a0 : V.cell? ⟨S, 0, none⟩ = some (.int .i64 1) := cell_laid (i := 0) hS rfl
  haveI : Nonempty (RLk R S #[.slice wa M.W.length wc, .slice la M.L.length lc, .bool M.F, .int .i64 ((n : Nat) : Int)] (lk12 ⟨1, root, key, array, many, s⟩)) := ⟨⟨D, KR.out, KS.out⟩⟩
  have r0 : ∀ z : RLk R S #[.slice wa M.W.length wc, .slice la M.L.length lc, .bool M.F, .int .i64 ((n : Nat) : Int)] (lk12 ⟨1, root, key, array, many, s⟩), z.w.cell? ⟨R, 0, none⟩ = some (.slice wa M.W.length wc) := fun z => cell_laid (i := 0) z.br rfl
  have r1 : ∀ z : RLk R S #[.slice wa M.W.length wc, .slice la M.L.length lc, .bool M.F, .int .i64 ((n : Nat) : Int)] (lk12 ⟨1, root, key, array, many, s⟩), z.w.cell? ⟨R, 1, none⟩ = some (.slice la M.L.length lc) := fun z => cell_laid (i := 1) z.br rfl
  have r2 : ∀ z : RLk R S #[.slice wa M.W.length wc, .slice la M.L.length lc, .bool M.F, .int .i64 ((n : Nat) : Int)] (lk12 ⟨1, root, key, array, many, s⟩), z.w.cell? ⟨R, 2, none⟩ = some (.bool M.F) := fun z => cell_laid (i := 2) z.br rfl
  have q0 : ∀ z : RLk R S #[.slice wa M.W.length wc, .slice la M.L.length lc, .bool M.F, .int .i64 ((n : Nat) : Int)] (lk12 ⟨1, root, key, array, many, s⟩), z.w.cell? ⟨S, 5, none⟩ = some (.int .i64 s.ph) := fun z => cell_laid (i := 5) z.bs rfl
  have q1 : ∀ z : RLk R S #[.slice wa M.W.length wc, .slice la M.L.length lc, .bool M.F, .int .i64 ((n : Nat) : Int)] (lk12 ⟨1, root, key, array, many, s⟩), z.w.cell? ⟨S, 6, none⟩ = some (.int .u64 ((s.hash : Nat) : Int)) := fun z => cell_laid (i := 6) z.bs rfl
  have q2 : ∀ z : RLk R S #[.slice wa M.W.length wc, .slice la M.L.length lc, .bool M.F, .int .i64 ((n : Nat) : Int)] (lk12 ⟨1, root, key, array, many, s⟩), z.w.cell? ⟨S, 7, none⟩ = some (.int .u64 ((s.key : Nat) : Int)) := fun z => cell_laid (i := 7) z.bs rfl
  have q3 : ∀ z : RLk R S #[.slice wa M.W.length wc, .slice la M.L.length lc, .bool M.F, .int .i64 ((n : Nat) : Int)] (lk12 ⟨1, root, key, array, many, s⟩), z.w.cell? ⟨S, 8, none⟩ = some (.int .u64 ((s.link : Nat) : Int)) := fun z => cell_laid (i := 8) z.bs rfl
  have q4 : ∀ z : RLk R S #[.slice wa M.W.length wc, .slice la M.L.length lc, .bool M.F, .int .i64 ((n : Nat) : Int)] (lk12 ⟨1, root, key, array, many, s⟩), z.w.cell? ⟨S, 9, none⟩ = some (.int .u64 ((s.node : Nat) : Int)) := fun z => cell_laid (i := 9) z.bs rfl
  have q5 : ∀ z : RLk R S #[.slice wa M.W.length wc, .slice la M.L.length lc, .bool M.F, .int .i64 ((n : Nat) : Int)] (lk12 ⟨1, root, key, array, many, s⟩), z.w.cell? ⟨S, 10, none⟩ = some (.int .u64 ((s.val : Nat) : Int)) := fun z => cell_laid (i := 10) z.bs rfl
  have q6 : ∀ z : RLk R S #[.slice wa M.W.length wc, .slice la M.L.length lc, .bool M.F, .int .i64 ((n : Nat) : Int)] (lk12 ⟨1, root, key, array, many, s⟩), z.w.cell? ⟨S, 11, none⟩ = some (.bool s.found) := fun z => cell_laid (i := 11) z.bs rfl
  clear hR hO hbD hD hX e hs hB hS
  go_enter Tryz.func55, Tryz.ntmps55
  go_upto_region 13 with (fail)
  clear a0
  refine wp_region_turn (fun W => ∃ z : RLk R S #[.slice wa M.W.length wc, .slice la M.L.length lc, .bool M.F, .int .i64 ((n : Nat) : Int)] (lk12 ⟨1, root, key, array, many, s⟩), W = z.w) 17 (.p 0 (.p 1 (.p 2 (.p 3 (.p 4 (.q 5 (.p 6 (.p 7 (.p 8 (.q 9 (.h 10 (.p 11 (.p 12 (.p 13 (.p 14 (.p 15 (.p 16 (.h 17 (.p 18 (.p 19 (.h 20 .done))))))))))))))))))))) (by kernel_rfl) (by kernel_rfl) (by rw [HD.out]; exact ⟨⟨D, KR.out, KS.out⟩, rfl⟩) ?_
  rw [HD.out]
  iterate 5 (refine wpTurn_p rfl rfl ?_; go_big_quiet_step (fail); refine wpQuiet_nil ?_)
  (refine wpTurn_q rfl rfl ?_; go_big_quiet_step (fail); refine wpQuiet_nil ?_)
  iterate 3 (refine wpTurn_p rfl rfl ?_; go_big_quiet_step (fail); refine wpQuiet_nil ?_)
  (refine wpTurn_q rfl rfl ?_; go_big_quiet_step (fail); refine wpQuiet_nil ?_)
  refine wpTurn_h rfl rfl fun R' hR' hO => ?_
  unfold skV memV at HST
  go_wp2_with fail
  refine HST.out.mono ?_
  rintro e w5 ⟨wa', wc', la', lc', rfl, hoo, hb5⟩
  have KR5 := hid (keep_laid KR.out hb5)
  have KS5 := hid (keep_laid KS.out hb5)
  have HN5 := hid (hoo.base hBD)
  have HT5 := hid (HT.out.trans (Tch.of_below hb5))
  unfold memV skV
  clear hoo hb5 HST
  go_wp2
  refine hR' _ _ ⟨⟨w5, KR5.out, KS5.out⟩, rfl⟩ ?_
  clear hR' hO R'
  iterate 6 (refine wpTurn_p rfl rfl ?_; go_big_quiet_step (fail); refine wpQuiet_nil ?_)
  refine wpTurn_m rfl fun R' hR' hO => ?_
  go_wp2_with (refine wp_storeP rfl 25 (.tmp 111) (.tmp 107) rfl R 0 _ #[.slice wa' M'.W.length wc', .slice la' M'.L.length lc', .bool M'.F, .int .i64 ((n : Nat) : Int)] _ rfl rfl _ KR5.out (by kernel_rfl) (Nat.le_of_ble_eq_true rfl) (by kernel_rfl) rfl ?_; intro w6 a1 a2 a3 a4; have KR6 := hid a1; have KS6 := hid (a2 S _ hSR KS5.out); have HN6 : Hid (MemO B wa' wc' la' lc' M' w6) := hid ⟨own_keep HN5.out.w fun j o hj ho => a2 j o (fun e => own_neP HN5.out.w KR5.out (by decide) (by rw [← e]; exact hj)) ho, own_keep HN5.out.l fun j o hj ho => a2 j o (fun e => own_neP HN5.out.l KR5.out (by decide) (by rw [← e]; exact hj)) ho⟩; have HT6 := hid (HT5.out.trans ⟨a4.os, a4.tape, a4.output, a4.size, fun k hk hne => a4.block k hk (fun e => hne (.inl (Option.some.inj e)))⟩); clear a1 a2 a3 a4)
  refine hR' _ _ ?_
  clear hR' hO R'
  iterate 2 (refine wpTurn_p rfl rfl ?_; go_big_quiet_step (fail); refine wpQuiet_nil ?_)
  refine wpTurn_b rfl fun R' hR' hO => ?_
  go_wp2_with (refine wp_storeP rfl 41 (.tmp 113) (.tmp 108) rfl S 5 _ (lk12 ⟨1, root, key, array, many, s'⟩) _ rfl rfl _ KS6.out (by kernel_rfl) (Nat.le_of_ble_eq_true rfl) (by kernel_rfl) rfl ?_; intro w7 a1 a2 a3 a4; have KS7 := hid a1; have KR7 := hid (a2 R _ hRS KR6.out); have HN7 : Hid (MemO B wa' wc' la' lc' M' w7) := hid ⟨own_keep HN6.out.w fun j o hj ho => a2 j o (fun e => own_neP HN6.out.w KS6.out (by decide) (by rw [← e]; exact hj)) ho, own_keep HN6.out.l fun j o hj ho => a2 j o (fun e => own_neP HN6.out.l KS6.out (by decide) (by rw [← e]; exact hj)) ho⟩; have HT7 := hid (HT6.out.trans ⟨a4.os, a4.tape, a4.output, a4.size, fun k hk hne => a4.block k hk (fun e => hne (.inr (Option.some.inj e)))⟩); clear a1 a2 a3 a4)
  refine hR' _ _ ?_
  clear hR' hO R'
  refine wpTurn_done ?_
  clear HD r0 r1 r2 q0 q1 q2 q3 q4 q5 q6 KR KS HO HT KR5 KS5 HN5 HT5 KR6 KS6 HN6 HT6
  have q5 : w7.cell? ⟨S, 5, none⟩ = some (.int .i64 s'.ph) := cell_laid (i := 5) KS7.out rfl
  by_cases h4 : s'.ph = 4
  · have t4 : (s'.ph == 4) = true := by simp [h4]
    have c0 := cell_laid (i := 0) KS7.out rfl
    have f0 := free_laid (i := 0) KS7.out
    have k8 := set_laid (i := 0) KS7.out (.int .i64 2)
    have kR8 := other_laid (i := 0) KR7.out hRS (.int .i64 2)
    have HN8 := HN7.out.set (i := 0) KS7.out (by decide) (by decide) (.int .i64 2)
    have HT8 := HT7.out.trans (Tch.set (P := fun k => k = R ∨ k = S) (b := S) (i := 0) (.inr rfl) (.int .i64 2))
    have q3 := cell_laid (i := 3) kR8 rfl
    have f3 := free_laid (i := 3) kR8
    have KR9 := hid (set_laid (i := 3) kR8 (.int .i64 ((n + 1 : Nat) : Int)))
    have KS9 := hid (other_laid (i := 3) k8 hSR (.int .i64 ((n + 1 : Nat) : Int)))
    have HN9 := hid (HN8.set (i := 3) kR8 (by decide) (by decide) (.int .i64 ((n + 1 : Nat) : Int)))
    have HT9 := hid (HT8.trans (Tch.set (P := fun k => k = R ∨ k = S) (b := R) (i := 3) (.inl rfl) (.int .i64 ((n + 1 : Nat) : Int))))
    clear k8 kR8 HN8 HT8
    go_wp2
    go_ret
    exact ⟨rfl, ⟨wa', wc', la', lc', KR9.out, HN9.out⟩, by simpa [lk12, h4] using KS9.out, HT9.out⟩
  · have t4 : (s'.ph == 4) = false := by simp [h4]
    by_cases h5 : s'.ph = 5
    · have t5 : (s'.ph == 5) = true := by simp [h5]
      have c0 := cell_laid (i := 0) KS7.out rfl
      have f0 := free_laid (i := 0) KS7.out
      have k8 := set_laid (i := 0) KS7.out (.int .i64 3)
      have kR8 := other_laid (i := 0) KR7.out hRS (.int .i64 3)
      have HN8 := HN7.out.set (i := 0) KS7.out (by decide) (by decide) (.int .i64 3)
      have HT8 := HT7.out.trans (Tch.set (P := fun k => k = R ∨ k = S) (b := S) (i := 0) (.inr rfl) (.int .i64 3))
      have q3 := cell_laid (i := 3) kR8 rfl
      have f3 := free_laid (i := 3) kR8
      have KR9 := hid (set_laid (i := 3) kR8 (.int .i64 ((n + 1 : Nat) : Int)))
      have KS9 := hid (other_laid (i := 3) k8 hSR (.int .i64 ((n + 1 : Nat) : Int)))
      have HN9 := hid (HN8.set (i := 3) kR8 (by decide) (by decide) (.int .i64 ((n + 1 : Nat) : Int)))
      have HT9 := hid (HT8.trans (Tch.set (P := fun k => k = R ∨ k = S) (b := R) (i := 3) (.inl rfl) (.int .i64 ((n + 1 : Nat) : Int))))
      clear k8 kR8 HN8 HT8
      go_wp2
      go_ret
      exact ⟨rfl, ⟨wa', wc', la', lc', KR9.out, HN9.out⟩, by simpa [lk12, h4, h5] using KS9.out, HT9.out⟩
    · have t5 : (s'.ph == 5) = false := by simp [h5]
      have k8 := KS7.out
      have kR8 := KR7.out
      have HN8 := HN7.out
      have HT8 := HT7.out
      have q3 := cell_laid (i := 3) kR8 rfl
      have f3 := free_laid (i := 3) kR8
      have KR9 := hid (set_laid (i := 3) kR8 (.int .i64 ((n + 1 : Nat) : Int)))
      have KS9 := hid (other_laid (i := 3) k8 hSR (.int .i64 ((n + 1 : Nat) : Int)))
      have HN9 := hid (HN8.set (i := 3) kR8 (by decide) (by decide) (.int .i64 ((n + 1 : Nat) : Int)))
      have HT9 := hid (HT8.trans (Tch.set (P := fun k => k = R ∨ k = S) (b := R) (i := 3) (.inl rfl) (.int .i64 ((n + 1 : Nat) : Int))))
      clear k8 kR8 HN8 HT8
      go_wp2
      go_ret
      exact ⟨rfl, ⟨wa', wc', la', lc', KR9.out, HN9.out⟩, by simpa [lk12, h4, h5] using KS9.out, HT9.out⟩
end Go.Proofs.YtahicokokfcieaaGreatDoor
