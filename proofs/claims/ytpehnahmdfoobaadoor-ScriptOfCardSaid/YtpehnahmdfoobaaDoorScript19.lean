/- Scripts: what is read, or made, lies as a script; wakes. -/
import Derived.Test.YtpehnahmdfoobaaDoorScript18
namespace Go.Proofs.YtpehnahmdfoobaaDoor
open Go.RowKit
open Go.Proofs
set_option linter.unusedVariables false

theorem Leads.of_own1 {W : World} {base : Nat} {e : TypeId} {size n cap : Nat} {a : Option Addr} {xs : List Value} (h : W.ownsRow base e size (.slice a n cap) n xs) : Leads W a n cap xs := by
  obtain ⟨a', c', e, hl⟩ := Leads.of_own h
  simp only [Value.slice.injEq, true_and] at e
  obtain ⟨rfl, rfl⟩ := e
  exact hl
theorem calls_of_own {W : World} {base : Nat} {v : Value} {cs : List (List Nat)} (h : W.ownsRow base 53 5 v cs.length (wcells cs.flatten)) : CallsL W v cs := by
  obtain ⟨a, c, e, hl⟩ := Leads.of_own h
  exact ⟨a, c, e, hl⟩
/-- A script that was read lies as one. -/
theorem ReadJ.scrL {R base C P : Nat} {ls : List (List (List Nat))} {ps : List Int} {a : Option Addr} {r c calls g : Nat} {vs : List Value} {pv : Value} {w W : World} (h : ReadJ R base C P ls ps a r c calls g vs pv w W) (hC : C ≤ 8) :
    ∃ pa pc, pv = .slice pa ps.length pc ∧ ScrL W (some ⟨g, 0, none⟩) C vs pa pc ⟨C, P, ls, ps⟩ := by
  obtain ⟨pa, pc, e, hl⟩ := Leads.of_own h.pick
  refine ⟨pa, pc, e, ⟨?_, by show vs.length = ls.length; rw [h.vlen, h.llen], fun i v cs hi hc => calls_of_own (h.row i v cs hi hc), hl⟩⟩
  show Leads W (some ⟨g, 0, none⟩) ls.length C vs
  rw [h.llen]
  exact ⟨Nat.le_refl _, by unfold maxLen; omega, .inr ⟨g, 0, rfl, lt_laid h.tab, fun i v hv => by
    rw [Nat.zero_add]
    exact cell_laid h.tab (by simpa using hv)⟩⟩
theorem OwnS.scrL {Y base : Nat} {C P : Int} {ls : List (List (List Nat))} {ps : List Int} {lv pv : Value} {vs : List Value} {w W : World} (h : OwnS Y base C P ls ps lv pv vs w W) :
    ∃ la lc pa pc, lv = .slice la ls.length lc ∧ pv = .slice pa ps.length pc ∧ ScrL W la lc vs pa pc ⟨C, P, ls, ps⟩ := by
  obtain ⟨la, lc, e1, hl1⟩ := Leads.of_own h.lrow
  obtain ⟨pa, pc, e2, hl2⟩ := Leads.of_own h.pick
  exact ⟨la, lc, pa, pc, e1, e2, ⟨hl1, by have := h.lrow.1; show vs.length = ls.length; omega, fun i v cs hi hc => calls_of_own (h.row i v cs hi hc), hl2⟩⟩

def wkIn : List Nat := [1, 769, 9, 5, 6, 7, 8, 131330]
def wkOut : List Nat := [1, 257, 9, 5, 6, 7, 8, 131330]
def wkS : Scr := ⟨2, 1, [[], [[9, 5, 6, 7, 8]]], [1, 1, 1]⟩
theorem wk_read : readC wkIn = 2 ∧ readP wkIn = 1 ∧ readL wkIn = ([[], [[9, 5, 6, 7, 8]]], [1, 1, 1]) := by decide
theorem wk_ok : okS wkS = true := by decide
theorem wk_of : ofW wkS = wkOut := by decide
theorem wk_Ok : wkS.Ok := by
  refine ⟨by decide, by decide, by decide, by decide, by decide⟩
theorem wk_eq (V : World) : (Op.equalIn 10000 53 (.agg #[.int .u64 9, .int .u64 5, .int .u64 6, .int .u64 7, .int .u64 8]) (.agg #[.int .u64 9, .int .u64 5, .int .u64 6, .int .u64 7, .int .u64 8])).run Tryd.prog V = .ok true V :=
  call_eq [9, 5, 6, 7, 8] [9, 5, 6, 7, 8] rfl rfl (by decide) (by decide) V

set_option maxRecDepth 100000 in
set_option maxHeartbeats 2000000 in
theorem wakes_any (w : World) (hG : Glob w) : Calls Tryd.prog 8 #[] w (Ret (.bool true) w) := by
  obtain ⟨w1, hw1, hb1, hs1, hl1⟩ := laid w #[.int .u64 1, .int .u64 769, .int .u64 9, .int .u64 5, .int .u64 6, .int .u64 7, .int .u64 8, .int .u64 131330] 32
  obtain ⟨X, hX⟩ : ∃ X, w.heap.size = X := ⟨_, rfl⟩
  rw [hX] at hl1 hs1
  obtain ⟨e1, e2, e3⟩ := wk_read
  have HR := hid (Read_any wkIn (some ⟨X, 0, none⟩) 8 8 w1 rfl (by decide) (by decide) ⟨Nat.le_refl _, by decide, .inr ⟨X, 0, rfl, lt_laid hl1, fun i v hv => by
    rw [Nat.zero_add]
    exact cell_laid hl1 (by simpa [wcells, wkIn] using hv)⟩⟩ (hG.grow hb1))
  rw [e1, e2, e3] at HR
  have HB1 := hid hb1
  have HG := hid hG
  clear hl1 hs1 e1 e2 e3 hG
  go_enter Tryd.func8, Tryd.ntmps8
  go_wp2_with fail
  refine HR.out.mono ?_
  rintro e w2 ⟨g, vs, pv, base, rfl, R, a', r', c', calls', hJ⟩
  obtain ⟨pa, pc, hpv, hSL⟩ := hJ.scrL (by decide)
  have hpv' : pv = .slice pa 3 pc := hpv
  clear hpv
  subst hpv'
  have HB2 := hid (step HB1.out hJ.below)
  obtain ⟨v0, v1, rfl⟩ : ∃ v0 v1, vs = [v0, v1] := by
    have := hJ.vlen
    match vs, this with
    | [a, b], _ => exact ⟨a, b, rfl⟩
  obtain ⟨b5, c5, rfl, hc5⟩ : ∃ b5 c5, v1 = .slice (some ⟨b5, 0, none⟩) 1 c5 ∧ ∀ i u, (wcells [9, 5, 6, 7, 8])[i]? = some u → w2.cell? ⟨b5, i, none⟩ = some u := by
    have hr := hJ.row 1 v1 [[9, 5, 6, 7, 8]] rfl rfl
    rcases hr.2 with ⟨-, h0⟩ | ⟨g, cap, cur, rfl, hb, hgg, rest⟩
    · cases h0
    · refine ⟨g, cap, rfl, fun i u hu => ?_⟩
      have := hr.cells (g := g) rfl i u (by simpa using hu)
      have e : (⟨g, 0, none⟩ : Addr).add i = ⟨g, i, none⟩ := by unfold Addr.add; simp; intro h; exact h.symm
      rwa [e] at this
  have hb5 : b5 < w2.heap.size := block_lt_of_cell (hc5 0 _ rfl)
  obtain ⟨w3, hw3, hb3, hs3, hl3⟩ := laid w2 #[.int .i64 0, .int .i64 0, .slice none 0 0, .slice none 0 0] 35
  obtain ⟨Y, hY⟩ : ∃ Y, w2.heap.size = Y := ⟨_, rfl⟩
  rw [hY] at hl3 hs3
  have y0 := free_laid (i := 0) hl3
  have y1 := free_laid (i := 1) hl3
  have y2 := free_laid (i := 2) hl3
  have y3 := free_laid (i := 3) hl3
  have z0 := cell_laid (i := 0) hl3 rfl
  have z1 := cell_laid (i := 1) hl3 rfl
  have z2 := cell_laid (i := 2) hl3 rfl
  have z3 := cell_laid (i := 3) hl3 rfl
  have HOf : Hid (∀ V, Below w2.heap.size w2 V → Calls Tryd.prog 18 #[.agg #[.int .i64 2, .int .i64 1, .slice (some ⟨g, 0, none⟩) 2 2, .slice pa 3 pc]] V (fun e W => ∃ v base, e = .returned (.tuple #[v, .int .i64 0]) ∧ W.ownsRow base 32 1 v 8 (wcells wkOut) ∧ V.heap.size ≤ base ∧ Below V.heap.size V W)) := hid (fun V hV => by
    have := Of_ok wkS (some ⟨g, 0, none⟩) pa 2 pc [v0, .slice (some ⟨b5, 0, none⟩) 1 c5] V (hSL.grow hV) wk_Ok (HG.out.grow (step HB2.out hV)) wk_ok
    rw [wk_of] at this
    exact this)
  have HPK := hid hSL.picks
  have HTB := hid hJ.tab
  have HB3 := hid (step HB2.out hb3)
  have HBS := hid (((((Below.refl w3.heap.size w3).mono (show Y ≤ w3.heap.size by omega)).setCell (p := ⟨Y, 0, none⟩) (Nat.le_refl _) (.int .i64 2)).setCell (p := ⟨Y, 1, none⟩) (Nat.le_refl _) (.int .i64 1) |>.setCell (p := ⟨Y, 2, none⟩) (Nat.le_refl _) (.slice (some ⟨g, 0, none⟩) 2 2)).setCell (p := ⟨Y, 3, none⟩) (Nat.le_refl _) (.slice pa 3 pc))
  have HYB := hid (set_laid (i := 3) (set_laid (i := 2) (set_laid (i := 1) (set_laid (i := 0) hl3 (.int .i64 2)) (.int .i64 1)) (.slice (some ⟨g, 0, none⟩) 2 2)) (.slice pa 3 pc))
  have HC5 := hid hc5
  have HY := hid hY
  clear hSL hJ hl3 hc5
  go_upto_region 2 with (fail)
  obtain ⟨w4, hw4⟩ : ∃ w4, w4 = (((w3.setCell ⟨Y, 0, none⟩ (.int .i64 2)).setCell ⟨Y, 1, none⟩ (.int .i64 1)).setCell ⟨Y, 2, none⟩ (.slice (some ⟨g, 0, none⟩) 2 2)).setCell ⟨Y, 3, none⟩ (.slice pa 3 pc) := ⟨_, rfl⟩
  rw [← hw4] at HYB HBS ⊢
  have hb24 : Below w2.heap.size w2 w4 := by
    have h1 := hb3.trans (HBS.out.mono (show w2.heap.size ≤ Y by omega))
    exact h1
  have HB4 := hid hb24
  clear hw4 y0 y1 y2 y3 z0 z1 z2 z3 hw3 hs3 hb24
  have q0 := cell_laid (i := 0) HYB.out rfl
  have q1 := cell_laid (i := 1) HYB.out rfl
  have q2 := cell_laid (i := 2) HYB.out rfl
  have q3 := cell_laid (i := 3) HYB.out rfl
  go_wp2_with fail
  refine (HOf.out _ HB4.out).mono ?_
  rintro e w5 ⟨vo, bo, rfl, hoo, hbo, hb5'⟩
  obtain ⟨ao, co, rfl, hlo⟩ := Leads.of_own hoo
  have HLO := hid hlo
  have HB5 := hid (step HB4.out hb5')
  have hYB5 := keep_laid HYB.out hb5'
  have r0 := cell_laid (i := 0) hYB5 rfl
  have r1 := cell_laid (i := 1) hYB5 rfl
  have r2 := cell_laid (i := 2) hYB5 rfl
  have r3 := cell_laid (i := 3) hYB5 rfl
  have hTB5 := keep_laid HTB.out HB5.out
  have t1 : w5.cell? ⟨g, 1, none⟩ = some (.slice (some ⟨b5, 0, none⟩) 1 c5) := cell_laid hTB5 rfl
  have k0 : w5.cell? ⟨b5, 0, none⟩ = some (.int .u64 9) := (HB5.out.cell (p := ⟨b5, 0, none⟩) hb5).trans (HC5.out 0 _ rfl)
  have k1 : w5.cell? ⟨b5, 1, none⟩ = some (.int .u64 5) := (HB5.out.cell (p := ⟨b5, 1, none⟩) hb5).trans (HC5.out 1 _ rfl)
  have k2 : w5.cell? ⟨b5, 2, none⟩ = some (.int .u64 6) := (HB5.out.cell (p := ⟨b5, 2, none⟩) hb5).trans (HC5.out 2 _ rfl)
  have k3 : w5.cell? ⟨b5, 3, none⟩ = some (.int .u64 7) := (HB5.out.cell (p := ⟨b5, 3, none⟩) hb5).trans (HC5.out 3 _ rfl)
  have k4 : w5.cell? ⟨b5, 4, none⟩ = some (.int .u64 8) := (HB5.out.cell (p := ⟨b5, 4, none⟩) hb5).trans (HC5.out 4 _ rfl)
  have hEqc := wk_eq
  obtain ⟨w6, hw6, hb6, hs6, hl6⟩ := laid w5 #[.int .i64 1, .int .i64 1, .int .i64 1] 3
  obtain ⟨Q, hQ⟩ : ∃ Q, w5.heap.size = Q := ⟨_, rfl⟩
  rw [hQ] at hl6 hs6
  have HE1 := hid (EqI_any [1, 1, 1] [1, 1, 1] pa (some ⟨Q, 0, none⟩) 3 3 pc 3 w6 rfl rfl (HPK.out.grow (step HB5.out hb6)) ⟨Nat.le_refl _, by decide, .inr ⟨Q, 0, rfl, lt_laid hl6, fun i v hv => by
    rw [Nat.zero_add]
    exact cell_laid hl6 (by simpa [icells] using hv)⟩⟩)
  have HLO6 := hid (hlo.grow hb6)
  have HB6 := hid (step HB5.out hb6)
  clear hYB5 hTB5 hlo hoo hl6 hb5' q0 q1 q2 q3
  go_wp2_with fail
  refine HE1.out.mono ?_
  rintro e w7 ⟨rfl, hb7⟩
  obtain ⟨w8, hw8, hb8, hs8, hl8⟩ := laid w7 #[.int .u64 1, .int .u64 257, .int .u64 9, .int .u64 5, .int .u64 6, .int .u64 7, .int .u64 8, .int .u64 131330] 32
  obtain ⟨Q2, hQ2⟩ : ∃ Q2, w7.heap.size = Q2 := ⟨_, rfl⟩
  rw [hQ2] at hl8 hs8
  have HE2 := hid (EqW_any wkOut wkOut ao (some ⟨Q2, 0, none⟩) 8 8 co 8 w8 rfl rfl (HLO6.out.grow (step hb7 hb8)) ⟨Nat.le_refl _, by decide, .inr ⟨Q2, 0, rfl, lt_laid hl8, fun i v hv => by
    rw [Nat.zero_add]
    exact cell_laid hl8 (by simpa [wcells, wkOut] using hv)⟩⟩)
  have HB8 := hid (step HB6.out (step hb7 hb8))
  first | rw [decide_eq_true rfl] | rw [show decide True = true from rfl]
  clear hl8
  go_wp2_with fail
  refine HE2.out.mono ?_
  rintro e w9 ⟨rfl, hb9⟩
  first | rw [decide_eq_true rfl] | rw [show decide True = true from rfl]
  go_wp2
  go_ret
  exact ⟨rfl, step HB2.out (step HB8.out hb9)⟩
end Go.Proofs.YtpehnahmdfoobaaDoor
