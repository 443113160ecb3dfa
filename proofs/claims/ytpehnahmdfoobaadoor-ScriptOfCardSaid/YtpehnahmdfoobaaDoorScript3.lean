/- Scripts: the iterator over runs. -/
import Derived.Test.YtpehnahmdfoobaaDoorScript2
import Derived.Test.YtpehnahmdfoobaaDoorScriptPlain
import Derived.Test.YtpehnahmdfoobaaDoorRange
import Derived.RangeFuncNested
import Derived.RangeFuncBound
import Derived.RangeFuncCalls
import Derived.RangeFuncLeaves
import Derived.Shelf.Abstract
import Derived.OwnWalkIn
import Derived.TacticsInMore
import Derived.LoopNIn
import Derived.LoopIn
import Derived.OneCell
import Derived.Sort.LoopGhostIn
import Derived.Sort.BigQuietIn
import Derived.Sort.QuietTacIn
namespace Go.Proofs.YtpehnahmdfoobaaDoor
open Go.RowKit Go.Shelf
open Go.Proofs
set_option linter.unusedVariables false
attribute [local go_sem] Oper.semAt_some

/-- What stands below is as it was. -/
def Same (B0 : Nat) (A B : World) : Prop := ∀ k, k < B0 → B.heap[k]? = A.heap[k]?
theorem Same.cell {B0 : Nat} {A B : World} {b i : Nat} (h : Same B0 A B) (hb : b < B0) : B.cell? ⟨b, i, none⟩ = A.cell? ⟨b, i, none⟩ := by
  unfold World.cell?
  rw [h b hb]
theorem Same.below {B0 : Nat} {A B C : World} (h : Same B0 A B) (hb : Below B.heap.size B C) (hs : B0 ≤ B.heap.size) : Same B0 A C := fun k hk => (hb.block k (by omega)).trans (h k hk)
theorem icells_at {l : List Int} {k : Nat} {z : Int} (h : l[k]? = some z) : (icells l)[k]? = some (.int .i64 z) := by unfold icells; rw [List.getElem?_map, h]; rfl
theorem Leads.at {w : World} {a : Option Addr} {n cap k : Nat} {cs : List Value} {v : Value} (h : Leads w a n cap cs) (hk : k < n) (hv : cs[k]? = some v) : ∃ b off, a = some ⟨b, off, none⟩ ∧ b < w.heap.size ∧ ∀ w', Below w.heap.size w w' → w'.cell? ⟨b, off + k, none⟩ = some v := by
  obtain ⟨_, _, ⟨h, _⟩ | ⟨b, off, rfl, h3, h4⟩⟩ := h
  · omega
  · exact ⟨b, off, rfl, h3, fun w' hb => (hb.cell (p := ⟨b, off + k, none⟩) h3).trans (h4 k _ hv)⟩
/-- A part of a row, from k on. -/
theorem Leads.idrop {w : World} {b off n cap k : Nat} {l : List Int} (h : Leads w (some ⟨b, off, none⟩) n cap (icells l)) (hl : l.length = n) (hk : k ≤ n) : Leads w (some ⟨b, off + k, none⟩) (n - k) (cap - k) (icells (l.drop k)) := by
  obtain ⟨h1, h2, ⟨h, h'⟩ | ⟨b', off', e, h3, h4⟩⟩ := h
  · refine ⟨by omega, by omega, .inl ⟨by omega, ?_⟩⟩
    rw [show l = [] from List.eq_nil_of_length_eq_zero (by omega)]; simp [icells]
  · cases e
    refine ⟨by omega, by omega, .inr ⟨b, off + k, rfl, h3, fun i v hv => ?_⟩⟩
    have := h4 (k + i) v (by unfold icells at *; rw [← hv, List.map_drop, List.getElem?_drop])
    rw [Nat.add_assoc]; exact this
theorem below_drewN {B : Nat} {a w : World} (h : Below B a w) (n : Nat) : Below B a (w.drewN n) := h.trans ⟨rfl, rfl, rfl, Nat.le_refl _, fun _ _ => rfl⟩

set_option maxRecDepth 100000 in
set_option maxHeartbeats 2000000 in
theorem runs_seq (Bs s0 : Nat) (W0 : World) (l : List Int) (a : Option Addr) (n cap : Nat) (hl : l.length = n) (hn : n ≤ 5000) (h : Leads W0 a n cap (icells l)) (hbs : W0.heap.size ≤ Bs) :
    SeqT (Turn Bs s0) Fence.wide 4 Tryd.prog 40 #[.pointer (some ⟨Bs, 0, none⟩)] (fun x : Int × Nat => #[.int .i64 x.1, .int .i64 ((x.2 : Nat) : Int)]) (Keeps (fun k => k < W0.heap.size ∨ k = Bs))
      (fun xs => xs = runsL l) (fun pre => ∃ r, runsL l = pre ++ r) 5001
      (fun W => Same W0.heap.size W0 W ∧ W.heap[Bs]? = some (.cells #[.slice a n cap] 22 (0, 0))) := by
  intro lb J Jx W hW hJ hJx hY h0
  obtain ⟨hW1, hW2⟩ := hW
  refine callsIn_of_wp Tryd.func40 rfl trivial ?_ rfl
  simp only [Tryd.ntmps40, List.size_toArray, List.length_cons, List.length_nil, Nat.reduceAdd, Nat.reduceSub, Array.replicate_succ, Array.replicate_zero, List.push_toArray, List.append_toArray, List.nil_append, List.cons_append]
  gi_wp2
  gi_loopg [3] n (fun g _ wr => ∃ (l2 : List Int) (pre : List (Int × Nat)) (a2 : Option Addr) (c2 : Nat), l2.length = g ∧ pre.length + g ≤ n ∧ Hid (runsL l = pre ++ runsL l2) ∧ Hid (Same W0.heap.size W0 wr) ∧ Hid (wr.heap[Bs]? = some (.cells #[.slice a2 g c2] 22 (0, 0))) ∧ Hid (Leads W0 a2 g c2 (icells l2)) ∧ Hid (J pre wr))
  case atStart => exact ⟨l, [], a, cap, hl, by simp, rfl, hW1, hW2, h, h0⟩
  case round =>
    clear hW1 hW2 h h0 hl
    obtain ⟨l2, pre, a2, c2, hl2, hpl, hR, hS, hB, hL, hJ2⟩ := hrel
    have hc0 := cell_laid (i := 0) hB.out rfl
    have hgm := hL.out.len.1
    cases l2 with
    | nil =>
      simp at hl2
      subst hl2
      have HE : Hid (pre = runsL l) := hid (by rw [hR.out, runsL_nil, List.append_nil])
      gi_wp2
      go_end0
      exact ⟨⟨_, rfl⟩, .inl ⟨pre, HE.out, hJ2.out⟩⟩
    | cons x r =>
      obtain ⟨N, hN⟩ : ∃ N, runLen (x :: r) = N := ⟨_, rfl⟩
      have hN1 := runLen_pos x r
      have hN2 := runLen_le x r
      rw [hN, hl2] at hN2
      rw [hN] at hN1
      obtain ⟨hN1a, hN1b⟩ := hN1
      have hg0 : 0 < gk := by omega
      obtain ⟨b, off, ea, hblt, hcc⟩ := hL.out.at (k := 0) hg0 (icells_at (l := x :: r) (k := 0) (z := x) rfl)
      subst ea
      have HL2 := hid hl2
      have HN := hid hN
      obtain ⟨g, hg⟩ : ∃ g, gk = g := ⟨_, rfl⟩
      rw [hg] at hB hL hgm hg0 hpl hN2 HL2 hc0
      have HGK := hid hg
      clear hcc hl2 hN
      have hBW : W0.heap.size ≤ wr.heap.size := by
        have := lt_laid hB.out
        omega
      obtain ⟨wo, hwo⟩ : ∃ wo, wo = wr := ⟨_, rfl⟩
      subst hwo
      gi_wp2
      gi_loopg [3] (N - 1) (fun g' t3 wi => ∃ k : Nat, g' + k = N ∧ 1 ≤ k ∧ t3 = .int .i64 (k : Nat) ∧ Below wo.heap.size wo wi)
      case atStart => exact ⟨1, by omega, Nat.le_refl _, rfl, Below.refl _ _⟩
      case round =>
        obtain ⟨k, hk, hk1, rfl, hbi⟩ := hrel
        have HK := hid hk
        clear hk
        have hSi : Hid (Same W0.heap.size W0 wr) := hid (hS.out.below hbi hBW)
        have c0 : wr.cell? ⟨Bs, 0, none⟩ = some (.slice (some ⟨b, off, none⟩) g c2) := cell_laid (i := 0) (keep_laid hB.out hbi) rfl
        have c1 : wr.cell? ⟨b, off, none⟩ = some (.int .i64 x) := by
          obtain ⟨b', off', e, hb', hc'⟩ := hL.out.at (k := 0) hg0 (icells_at (l := x :: r) (k := 0) (z := x) rfl)
          cases e
          exact (hSi.out.cell hb').trans (hc' W0 (Below.refl _ _))
        by_cases hkN : k < N
        · obtain ⟨h1, h2, h3⟩ := runIn (x := x) (r := r) (k := k) (by rw [HN.out]; exact hkN)
          rw [HL2.out] at h2
          have c2' : wr.cell? ⟨b, off + k, none⟩ = some (.int .i64 x) := by
            obtain ⟨b', off', e, hb', hc'⟩ := hL.out.at (k := k) h2 (icells_at h3)
            cases e
            exact (hSi.out.cell hb').trans (hc' W0 (Below.refl _ _))
          have d1 : decide (k < g) = true := decide_eq_true h2
          have d2 : decide (((k : Nat) : Int) < 256) = true := decide_eq_true (by omega)
          clear h3
          gi_wp2
          gi_big_quiet_th (fail)
          obtain ⟨wd, hwd⟩ : ∃ wd, wr.drewN nq = wd := ⟨_, rfl⟩
          have hbd := below_drewN hbi nq
          rw [hwd] at hbd ⊢
          clear hwd
          gi_wp2
          go_roundg (gk - 1)
          case measure => have := HK.out; omega
          case rel => exact ⟨k + 1, by have := HK.out; omega, by omega, by go_num, hbd⟩
        · obtain rfl : N = k := by have := HK.out; omega
          obtain ⟨k, hkk⟩ : ∃ k, N = k := ⟨_, rfl⟩
          subst hkk
          rcases run_end (x := x) (r := r) (k := N) HN.out.symm with h1 | ⟨h1, h2⟩ | ⟨h1, h2, y, h3, h4⟩
          · rw [HL2.out] at h1
            have d1 : decide (N < g) = false := decide_eq_false (by omega)
            clear h1
            gi_wp2
            gi_big_quiet_th (fail)
            obtain ⟨wd, hwd⟩ : ∃ wd, wr.drewN nq = wd := ⟨_, rfl⟩
            have hbd := below_drewN hbi nq
            rw [hwd] at hbd ⊢
            have e0 : wd.cell? ⟨Bs, 0, none⟩ = some (.slice (some ⟨b, off, none⟩) g c2) := cell_laid (i := 0) (keep_laid hB.out hbd) rfl
            have e1 : wd.cell? ⟨b, off, none⟩ = some (.int .i64 x) := by
              obtain ⟨b', off', e, hb', hc'⟩ := hL.out.at (k := 0) hg0 (icells_at (l := x :: r) (k := 0) (z := x) rfl)
              cases e
              exact (((hS.out.below hbd hBW).cell hb')).trans (hc' W0 (Below.refl _ _))
            have hSd : Hid (Same W0.heap.size W0 wd) := hid (hS.out.below hbd hBW)
            have hJd := hJ _ _ _ hJ2.out (Turn.grow hbd)
            have hBd := hid (keep_laid hB.out hbd)
            obtain ⟨fn, tmps, assign, body, hy, hYR⟩ := hY pre (x, N) wd hJd (by omega)
            clear hwd
            gi_wp2
            refine hYR.mono ?_
            rintro e W3 (⟨rfl, hJ3, hk3⟩ | ⟨rfl, hJx3⟩)
            · have hS3 : Hid (Same W0.heap.size W0 W3) := hid (fun j hj => (hk3 j (.inl hj)).trans (hSd.out j hj))
              have hB3 := (hk3 Bs (.inr rfl)).trans hBd.out
              have i0 := cell_laid (i := 0) hB3 rfl
              have hf0 := free_laid (i := 0) hB3
              have hle : (N : Int) ≤ (g : Int) := by omega
              have hgc : (g : Int) ≤ (c2 : Int) := by have := hL.out.1; omega
              have HR4 : Hid (runsL l = (pre ++ [(x, N)]) ++ runsL ((x :: r).drop N)) := hid (by rw [hR.out, runsL_cons, HN.out, List.append_assoc]; rfl)
              by_cases hcN : c2 = N
              · have HDR : Hid (Leads W0 (some ⟨b, off, none⟩) (g - N) 0 (icells ((x :: r).drop N))) := hid (by
                  have hgN : g - N = 0 := by omega
                  rw [hgN, List.drop_of_length_le (by rw [HL2.out]; omega)]
                  exact ⟨Nat.le_refl _, Nat.zero_le _, .inl ⟨rfl, rfl⟩⟩)
                have HB4 := hid (set_laid (i := 0) hB3 (.slice (some ⟨b, off, none⟩) (g - N) 0))
                have HS4 : Hid (Same W0.heap.size W0 (W3.setCell ⟨Bs, 0, none⟩ (.slice (some ⟨b, off, none⟩) (g - N) 0))) := hid (fun j hj => (Below.heap_setCell _ _ _ _ (by show j ≠ Bs; omega)).trans (hS3.out j hj))
                have HJ4 := hid (hJ _ _ _ hJ3 (Turn.set Bs s0 0 W3 (.slice (some ⟨b, off, none⟩) (g - N) 0)))
                have q0 : ((((c2 : Nat) : Int) - ((N : Nat) : Int)) == 0) = true := by simp; omega
                have q1 : ¬ (N < c2) := by omega
                clear hB3 hJ3 hk3
                gi_wp2
                go_roundg (g - N)
                case measure => have := HGK.out; omega
                case rel => exact ⟨(x :: r).drop N, pre ++ [(x, N)], some ⟨b, off, none⟩, 0, by rw [List.length_drop, HL2.out], by rw [List.length_append]; simp; omega, HR4, HS4, HB4, HDR, HJ4⟩
              · have hcN' : N < c2 := by omega
                have hdr := hL.out.idrop HL2.out hN2
                have HDR := hid hdr
                have HB4 := hid (set_laid (i := 0) hB3 (.slice (some ⟨b, off + N, none⟩) (g - N) (c2 - N)))
                have HS4 : Hid (Same W0.heap.size W0 (W3.setCell ⟨Bs, 0, none⟩ (.slice (some ⟨b, off + N, none⟩) (g - N) (c2 - N)))) := hid (fun j hj => (Below.heap_setCell _ _ _ _ (by show j ≠ Bs; omega)).trans (hS3.out j hj))
                have HJ4 := hid (hJ _ _ _ hJ3 (Turn.set Bs s0 0 W3 (.slice (some ⟨b, off + N, none⟩) (g - N) (c2 - N))))
                clear hB3 hJ3 hk3 hdr
                gi_wp2
                go_roundg (g - N)
                case measure => have := HGK.out; omega
                case rel => exact ⟨(x :: r).drop N, pre ++ [(x, N)], some ⟨b, off + N, none⟩, c2 - N, by rw [List.length_drop, HL2.out], by rw [List.length_append]; simp; omega, HR4, HS4, HB4, HDR, HJ4⟩
            · have HSP : Hid (∃ r', runsL l = (pre ++ [(x, N)]) ++ r') := hid ⟨runsL ((x :: r).drop N), by rw [hR.out, runsL_cons, HN.out, List.append_assoc]; rfl⟩
              gi_wp2
              refine bodyPost_ret (results_none rfl _ _ _) rfl ?_
              exact ⟨⟨_, rfl⟩, .inr ⟨_, HSP.out, hJx3⟩⟩
          · rw [HL2.out] at h1
            have d1 : decide (N < g) = true := decide_eq_true h1
            have d2 : decide (((N : Nat) : Int) < 256) = false := decide_eq_false (by omega)
            clear h1 h2
            gi_wp2
            gi_big_quiet_th (fail)
            obtain ⟨wd, hwd⟩ : ∃ wd, wr.drewN nq = wd := ⟨_, rfl⟩
            have hbd := below_drewN hbi nq
            rw [hwd] at hbd ⊢
            have e0 : wd.cell? ⟨Bs, 0, none⟩ = some (.slice (some ⟨b, off, none⟩) g c2) := cell_laid (i := 0) (keep_laid hB.out hbd) rfl
            have e1 : wd.cell? ⟨b, off, none⟩ = some (.int .i64 x) := by
              obtain ⟨b', off', e, hb', hc'⟩ := hL.out.at (k := 0) hg0 (icells_at (l := x :: r) (k := 0) (z := x) rfl)
              cases e
              exact (((hS.out.below hbd hBW).cell hb')).trans (hc' W0 (Below.refl _ _))
            have hSd : Hid (Same W0.heap.size W0 wd) := hid (hS.out.below hbd hBW)
            have hJd := hJ _ _ _ hJ2.out (Turn.grow hbd)
            have hBd := hid (keep_laid hB.out hbd)
            obtain ⟨fn, tmps, assign, body, hy, hYR⟩ := hY pre (x, N) wd hJd (by omega)
            clear hwd
            gi_wp2
            refine hYR.mono ?_
            rintro e W3 (⟨rfl, hJ3, hk3⟩ | ⟨rfl, hJx3⟩)
            · have hS3 : Hid (Same W0.heap.size W0 W3) := hid (fun j hj => (hk3 j (.inl hj)).trans (hSd.out j hj))
              have hB3 := (hk3 Bs (.inr rfl)).trans hBd.out
              have i0 := cell_laid (i := 0) hB3 rfl
              have hf0 := free_laid (i := 0) hB3
              have hle : (N : Int) ≤ (g : Int) := by omega
              have hgc : (g : Int) ≤ (c2 : Int) := by have := hL.out.1; omega
              have HR4 : Hid (runsL l = (pre ++ [(x, N)]) ++ runsL ((x :: r).drop N)) := hid (by rw [hR.out, runsL_cons, HN.out, List.append_assoc]; rfl)
              by_cases hcN : c2 = N
              · have HDR : Hid (Leads W0 (some ⟨b, off, none⟩) (g - N) 0 (icells ((x :: r).drop N))) := hid (by
                  have hgN : g - N = 0 := by omega
                  rw [hgN, List.drop_of_length_le (by rw [HL2.out]; omega)]
                  exact ⟨Nat.le_refl _, Nat.zero_le _, .inl ⟨rfl, rfl⟩⟩)
                have HB4 := hid (set_laid (i := 0) hB3 (.slice (some ⟨b, off, none⟩) (g - N) 0))
                have HS4 : Hid (Same W0.heap.size W0 (W3.setCell ⟨Bs, 0, none⟩ (.slice (some ⟨b, off, none⟩) (g - N) 0))) := hid (fun j hj => (Below.heap_setCell _ _ _ _ (by show j ≠ Bs; omega)).trans (hS3.out j hj))
                have HJ4 := hid (hJ _ _ _ hJ3 (Turn.set Bs s0 0 W3 (.slice (some ⟨b, off, none⟩) (g - N) 0)))
                have q0 : ((((c2 : Nat) : Int) - ((N : Nat) : Int)) == 0) = true := by simp; omega
                have q1 : ¬ (N < c2) := by omega
                clear hB3 hJ3 hk3
                gi_wp2
                go_roundg (g - N)
                case measure => have := HGK.out; omega
                case rel => exact ⟨(x :: r).drop N, pre ++ [(x, N)], some ⟨b, off, none⟩, 0, by rw [List.length_drop, HL2.out], by rw [List.length_append]; simp; omega, HR4, HS4, HB4, HDR, HJ4⟩
              · have hcN' : N < c2 := by omega
                have hdr := hL.out.idrop HL2.out hN2
                have HDR := hid hdr
                have HB4 := hid (set_laid (i := 0) hB3 (.slice (some ⟨b, off + N, none⟩) (g - N) (c2 - N)))
                have HS4 : Hid (Same W0.heap.size W0 (W3.setCell ⟨Bs, 0, none⟩ (.slice (some ⟨b, off + N, none⟩) (g - N) (c2 - N)))) := hid (fun j hj => (Below.heap_setCell _ _ _ _ (by show j ≠ Bs; omega)).trans (hS3.out j hj))
                have HJ4 := hid (hJ _ _ _ hJ3 (Turn.set Bs s0 0 W3 (.slice (some ⟨b, off + N, none⟩) (g - N) (c2 - N))))
                clear hB3 hJ3 hk3 hdr
                gi_wp2
                go_roundg (g - N)
                case measure => have := HGK.out; omega
                case rel => exact ⟨(x :: r).drop N, pre ++ [(x, N)], some ⟨b, off + N, none⟩, c2 - N, by rw [List.length_drop, HL2.out], by rw [List.length_append]; simp; omega, HR4, HS4, HB4, HDR, HJ4⟩
            · have HSP : Hid (∃ r', runsL l = (pre ++ [(x, N)]) ++ r') := hid ⟨runsL ((x :: r).drop N), by rw [hR.out, runsL_cons, HN.out, List.append_assoc]; rfl⟩
              gi_wp2
              refine bodyPost_ret (results_none rfl _ _ _) rfl ?_
              exact ⟨⟨_, rfl⟩, .inr ⟨_, HSP.out, hJx3⟩⟩
          · rw [HL2.out] at h1
            have c2' : wr.cell? ⟨b, off + N, none⟩ = some (.int .i64 y) := by
              obtain ⟨b', off', e, hb', hc'⟩ := hL.out.at (k := N) h1 (icells_at h3)
              cases e
              exact (hSi.out.cell hb').trans (hc' W0 (Below.refl _ _))
            have d1 : decide (N < g) = true := decide_eq_true h1
            have d2 : decide (((N : Nat) : Int) < 256) = true := decide_eq_true (by omega)
            have d3 : (y == x) = false := by simpa using h4
            clear h3 h4
            gi_wp2
            gi_big_quiet_th (fail)
            obtain ⟨wd, hwd⟩ : ∃ wd, wr.drewN nq = wd := ⟨_, rfl⟩
            have hbd := below_drewN hbi nq
            rw [hwd] at hbd ⊢
            have e0 : wd.cell? ⟨Bs, 0, none⟩ = some (.slice (some ⟨b, off, none⟩) g c2) := cell_laid (i := 0) (keep_laid hB.out hbd) rfl
            have e1 : wd.cell? ⟨b, off, none⟩ = some (.int .i64 x) := by
              obtain ⟨b', off', e, hb', hc'⟩ := hL.out.at (k := 0) hg0 (icells_at (l := x :: r) (k := 0) (z := x) rfl)
              cases e
              exact (((hS.out.below hbd hBW).cell hb')).trans (hc' W0 (Below.refl _ _))
            have hSd : Hid (Same W0.heap.size W0 wd) := hid (hS.out.below hbd hBW)
            have hJd := hJ _ _ _ hJ2.out (Turn.grow hbd)
            have hBd := hid (keep_laid hB.out hbd)
            obtain ⟨fn, tmps, assign, body, hy, hYR⟩ := hY pre (x, N) wd hJd (by omega)
            clear hwd
            gi_wp2
            refine hYR.mono ?_
            rintro e W3 (⟨rfl, hJ3, hk3⟩ | ⟨rfl, hJx3⟩)
            · have hS3 : Hid (Same W0.heap.size W0 W3) := hid (fun j hj => (hk3 j (.inl hj)).trans (hSd.out j hj))
              have hB3 := (hk3 Bs (.inr rfl)).trans hBd.out
              have i0 := cell_laid (i := 0) hB3 rfl
              have hf0 := free_laid (i := 0) hB3
              have hle : (N : Int) ≤ (g : Int) := by omega
              have hgc : (g : Int) ≤ (c2 : Int) := by have := hL.out.1; omega
              have HR4 : Hid (runsL l = (pre ++ [(x, N)]) ++ runsL ((x :: r).drop N)) := hid (by rw [hR.out, runsL_cons, HN.out, List.append_assoc]; rfl)
              by_cases hcN : c2 = N
              · exact absurd hcN (by omega)
              · have hcN' : N < c2 := by omega
                have hdr := hL.out.idrop HL2.out hN2
                have HDR := hid hdr
                have HB4 := hid (set_laid (i := 0) hB3 (.slice (some ⟨b, off + N, none⟩) (g - N) (c2 - N)))
                have HS4 : Hid (Same W0.heap.size W0 (W3.setCell ⟨Bs, 0, none⟩ (.slice (some ⟨b, off + N, none⟩) (g - N) (c2 - N)))) := hid (fun j hj => (Below.heap_setCell _ _ _ _ (by show j ≠ Bs; omega)).trans (hS3.out j hj))
                have HJ4 := hid (hJ _ _ _ hJ3 (Turn.set Bs s0 0 W3 (.slice (some ⟨b, off + N, none⟩) (g - N) (c2 - N))))
                clear hB3 hJ3 hk3 hdr
                gi_wp2
                go_roundg (g - N)
                case measure => have := HGK.out; omega
                case rel => exact ⟨(x :: r).drop N, pre ++ [(x, N)], some ⟨b, off + N, none⟩, c2 - N, by rw [List.length_drop, HL2.out], by rw [List.length_append]; simp; omega, HR4, HS4, HB4, HDR, HJ4⟩
            · have HSP : Hid (∃ r', runsL l = (pre ++ [(x, N)]) ++ r') := hid ⟨runsL ((x :: r).drop N), by rw [hR.out, runsL_cons, HN.out, List.append_assoc]; rfl⟩
              gi_wp2
              refine bodyPost_ret (results_none rfl _ _ _) rfl ?_
              exact ⟨⟨_, rfl⟩, .inr ⟨_, HSP.out, hJx3⟩⟩
end Go.Proofs.YtpehnahmdfoobaaDoor
