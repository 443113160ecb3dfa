/- Lists linked both ways: Step. -/
import Derived.Test.YtoihjmdpbbcbjaaDbl14
import Derived.Test.YtoihjmdpbbcbjaaMemClone
namespace Go.Proofs.Ytoihjmdpbbcbjaa
open Go.RowKit
open Go.Proofs
set_option linter.unusedVariables false
attribute [local go_sem] Oper.semAt_some

def zeroM : Mem := ⟨[], [], false⟩
def zeroE : Ed := ⟨0, false, 0, 0, 0, 0, 0, 0⟩
/-- What Step gives. -/
def dstepP (M : Mem) (s : Ed) : Mem × Ed × Nat := if okM M = false then (zeroM, zeroE, 120) else if s.ph < 0 ∨ 10 < s.ph then (zeroM, zeroE, 261) else ((stepE M s).1, (stepE M s).2, 0)
def GivesS (R : Mem × Ed × Nat) (w : World) (e : Ending) (W : World) : Prop := ∃ wa wc la lc, e = .returned (.tuple #[memV wa wc la lc R.1, edV R.2.1, .int .i64 ((R.2.2 : Nat) : Int)]) ∧ MemO w.heap.size wa wc la lc R.1 W ∧ Below w.heap.size w W
theorem dstep_result {W : World} {b c : Nat} {v0 v1 v2 u0 u1 u2 u3 u4 u5 u6 u7 s : Value} {tmps : Array Value} (h : W.heap[b]? = some (.cells #[v0, v1, v2] 25 (0, 0))) (h' : W.heap[c]? = some (.cells #[u0, u1, u2, u3, u4, u5, u6, u7] 42 (0, 0))) (hp : tmps[4]?.getD undef = .pointer (some ⟨b, 0, none⟩)) (hq : tmps[5]?.getD undef = .pointer (some ⟨c, 0, none⟩)) (hs : tmps[6]?.getD undef = s) :
    (results Try.f22 tmps).run Try.prog W = .ok (.tuple #[.agg #[v0, v1, v2], .agg #[u0, u1, u2, u3, u4, u5, u6, u7], s]) W := by
  have h0 := cell_laid (i := 0) (v := v0) h rfl
  have h1 := cell_laid (i := 1) (v := v1) h rfl
  have h2 := cell_laid (i := 2) (v := v2) h rfl
  have g0 := cell_laid (i := 0) (v := u0) h' rfl
  have g1 := cell_laid (i := 1) (v := u1) h' rfl
  have g2 := cell_laid (i := 2) (v := u2) h' rfl
  have g3 := cell_laid (i := 3) (v := u3) h' rfl
  have g4 := cell_laid (i := 4) (v := u4) h' rfl
  have g5 := cell_laid (i := 5) (v := u5) h' rfl
  have g6 := cell_laid (i := 6) (v := u6) h' rfl
  have g7 := cell_laid (i := 7) (v := u7) h' rfl
  simp [results, Try.results22, go_sem, hp, hq, hs, h0, h1, h2, g0, g1, g2, g3, g4, g5, g6, g7]
/-- A memory and who changes are put into variables of one's own. -/
theorem put_me {V : World} {Z G : Nat} {z0 z1 z2 y0 y1 y2 y3 y4 y5 y6 y7 : Value} (hz : V.heap[Z]? = some (.cells #[z0, z1, z2] 25 (0, 0))) (hg : V.heap[G]? = some (.cells #[y0, y1, y2, y3, y4, y5, y6, y7] 42 (0, 0))) (hne : G ≠ Z) (v0 v1 v2 u0 u1 u2 u3 u4 u5 u6 u7 : Value) :
    ∃ V1 V2, V1 = ((V.setCell ⟨Z, 0, none⟩ v0).setCell ⟨Z, 1, none⟩ v1).setCell ⟨Z, 2, none⟩ v2 ∧ V2 = (((((((V1.setCell ⟨G, 0, none⟩ u0).setCell ⟨G, 1, none⟩ u1).setCell ⟨G, 2, none⟩ u2).setCell ⟨G, 3, none⟩ u3).setCell ⟨G, 4, none⟩ u4).setCell ⟨G, 5, none⟩ u5).setCell ⟨G, 6, none⟩ u6).setCell ⟨G, 7, none⟩ u7 ∧
      V1.heap[Z]? = some (.cells #[v0, v1, v2] 25 (0, 0)) ∧ V1.heap[G]? = some (.cells #[y0, y1, y2, y3, y4, y5, y6, y7] 42 (0, 0)) ∧
      V2.heap[Z]? = some (.cells #[v0, v1, v2] 25 (0, 0)) ∧ V2.heap[G]? = some (.cells #[u0, u1, u2, u3, u4, u5, u6, u7] 42 (0, 0)) ∧
      (∀ (k : Nat) (o : Obj), k ≠ Z → V.heap[k]? = some o → V1.heap[k]? = some o) ∧ (∀ (k : Nat) (o : Obj), k ≠ Z → k ≠ G → V.heap[k]? = some o → V2.heap[k]? = some o) ∧
      (∀ (B : Nat) (w : World), B ≤ Z → B ≤ G → Below B w V → Below B w V2) ∧
      ∀ (base : Nat) (wa : Option Addr) (wc : Nat) (la : Option Addr) (lc : Nat) (M : Mem), MemO base wa wc la lc M V → MemO base wa wc la lc M V2 := by
  obtain ⟨V1, hV1, hz1, hk1, hb1, hm1⟩ := put_mem hz v0 v1 v2
  have hg1 := hk1 G _ hne hg
  obtain ⟨V2, hV2, hg2, hk2, hb2⟩ := put8 hg1 u0 u1 u2 u3 u4 u5 u6 u7
  exact ⟨V1, V2, hV1, hV2, hz1, hg1, hk2 Z _ (Ne.symm hne) hz1, hg2, hk1, fun k o q1 q2 ho => hk2 k o q2 (hk1 k o q1 ho), fun B w h1 h2 hb => hb2 B w h2 (hb1 B w h1 hb), fun base wa wc la lc M hm => (hm1 _ _ _ _ _ _ hm).keep hg1 (by decide) (by decide) hk2⟩
/-- A world in which a block lies so. -/
structure RBk (E : Nat) (cs : Array Value) (T : TypeId) where
  w : World
  b : w.heap[E]? = some (.cells cs T (0, 0))

set_option maxRecDepth 100000 in
set_option maxHeartbeats 8000000 in
theorem dStep_any (M : Mem) (s : Ed) (wa la : Option Addr) (wc lc : Nat) (V : World) (h : MemL V wa wc la lc M) (hW : Wok M) (hs : s.Ok) :
    Calls Try.prog 22 #[memV wa wc la lc M, edV s] V (GivesS (dstepP M s) V) := by
  obtain ⟨V1, hV1, hb1, hs1, hl1⟩ := laid V #[.slice wa M.W.length wc, .slice la M.L.length lc, .bool M.F] 25
  obtain ⟨V2, hV2, hb2, hs2, hl2⟩ := laid V1 #[.int .i64 s.ph, .bool s.cuts, .int .u64 ((s.head : Nat) : Int), .int .u64 ((s.pl : Nat) : Int), .int .u64 ((s.key : Nat) : Int), .int .u64 ((s.val : Nat) : Int), .int .u64 ((s.prev : Nat) : Int), .int .u64 ((s.next : Nat) : Int)] 42
  obtain ⟨V3, hV3, hb3, hs3, hl3⟩ := laid V2 #[.slice none 0 0, .slice none 0 0, .bool false] 25
  obtain ⟨V4, hV4, hb4, hs4, hl4⟩ := laid V3 #[.int .i64 0, .bool false, .int .u64 0, .int .u64 0, .int .u64 0, .int .u64 0, .int .u64 0, .int .u64 0] 42
  obtain ⟨X, hX⟩ : ∃ X, V.heap.size = X := ⟨_, rfl⟩
  obtain ⟨Y, hY⟩ : ∃ X, V1.heap.size = X := ⟨_, rfl⟩
  obtain ⟨Z, hZ⟩ : ∃ X, V2.heap.size = X := ⟨_, rfl⟩
  obtain ⟨G, hG⟩ : ∃ X, V3.heap.size = X := ⟨_, rfl⟩
  rw [hX] at hl1
  rw [hY] at hl2
  rw [hZ] at hl3
  rw [hG] at hl4
  have HX := hid (keep_laid hl1 (step (step hb2 hb3) hb4))
  have HY := hid (keep_laid hl2 (step hb3 hb4))
  have HZ := hid (keep_laid hl3 hb4)
  have HG := hid hl4
  have HB4 := hid (step (step (step hb1 hb2) hb3) hb4)
  have hZV : V.heap.size ≤ Z := by omega
  have hGV : V.heap.size ≤ G := by omega
  have hGZ : G ≠ Z := by omega
  have hZlG : Z < G := by omega
  have hZG : Z ≠ G := by omega
  have HM := hid (h.grow HB4.out)
  have HCK := hid (fun W hb => Check_any M wa la wc lc W (HM.out.grow hb))
  unfold memV at HCK ⊢
  have hwl := h.w.len
  have hll := h.l.len
  have HW := hid hW
  have HS := hid hs
  obtain ⟨ph, cuts, head, pl, key, val, prev, next⟩ := s
  unfold edV
  dsimp only at hV2 HY ⊢
  obtain ⟨x0, x1, x2⟩ := cells3 HX.out
  have y0 := cell_laid (i := 0) HY.out rfl
  obtain ⟨n, hn⟩ : ∃ n, M.W.length = n := ⟨_, rfl⟩
  obtain ⟨m, hm⟩ : ∃ n, M.L.length = n := ⟨_, rfl⟩
  obtain ⟨F, hF⟩ : ∃ n, M.F = n := ⟨_, rfl⟩
  rw [hn] at hV1 x0 hwl HCK ⊢
  rw [hm] at hV1 x1 hll HCK ⊢
  rw [hF] at hV1 x2 HCK ⊢
  have HNN := hid hn
  have HMM := hid hm
  have HFF := hid hF
  obtain ⟨z0, z1, z2⟩ := cells3 HZ.out
  clear h hW hs hb1 hb2 hb3 hb4 hs1 hs2 hs3 hs4 hl1 hl2 hl3 hl4 hn hm hF
  go_enter Try.func22, Try.ntmps22
  have HCK1 := hid (HCK.out V4 (Below.refl _ _))
  cases hok : okM M with
  | false =>
    rw [hok, if_neg (by decide)] at HCK1
    have HR : Hid (dstepP M ⟨ph, cuts, head, pl, key, val, prev, next⟩ = (zeroM, zeroE, 120)) := hid (by unfold dstepP; rw [hok]; rfl)
    clear hok
    go_wp2_with fail
    refine HCK1.out.mono ?_
    rintro e V5 ⟨rfl, hb5⟩
    have k3 := keep_laid HZ.out hb5
    have k4 := keep_laid HG.out hb5
    have HB5 := step HB4.out hb5
    obtain ⟨V6, V7, hV6, hV7, -, -, a3, a4, -, -, a5, -⟩ := put_me k3 k4 hGZ (.slice none 0 0) (.slice none 0 0) (.bool false) (.int .i64 0) (.bool false) (.int .u64 0) (.int .u64 0) (.int .u64 0) (.int .u64 0) (.int .u64 0) (.int .u64 0)
    obtain ⟨z0, z1, z2⟩ := cells3 k3
    have zf0 := free_laid (i := 0) k3
    have zf1 := free_laid (i := 1) k3
    have zf2 := free_laid (i := 2) k3
    have g0 := cell_laid (i := 0) k4 rfl
    have gf0 := free_laid (i := 0) k4
    have g1 := cell_laid (i := 1) k4 rfl
    have gf1 := free_laid (i := 1) k4
    have g2 := cell_laid (i := 2) k4 rfl
    have gf2 := free_laid (i := 2) k4
    have g3 := cell_laid (i := 3) k4 rfl
    have gf3 := free_laid (i := 3) k4
    have g4 := cell_laid (i := 4) k4 rfl
    have gf4 := free_laid (i := 4) k4
    have g5 := cell_laid (i := 5) k4 rfl
    have gf5 := free_laid (i := 5) k4
    have g6 := cell_laid (i := 6) k4 rfl
    have gf6 := free_laid (i := 6) k4
    have g7 := cell_laid (i := 7) k4 rfl
    have gf7 := free_laid (i := 7) k4
    have HV6 := hid hV6
    have HV7 := hid hV7
    have A3 := hid a3
    have A4 := hid a4
    have HB7 := hid (a5 V.heap.size V hZV hGV HB5)
    clear k3 k4 HB5 hb5 hV6 hV7 a3 a4 a5
    go_wp2
    rw [← HV6.out, ← HV7.out]
    refine bodyPost_ret (dstep_result A3.out A4.out rfl rfl rfl) rfl ?_
    rw [HR.out]
    exact ⟨none, 0, none, 0, rfl, ⟨World.ownsRow_nil _ _ _ _, World.ownsRow_nil _ _ _ _⟩, HB7.out⟩
  | true =>
    rw [hok, if_pos rfl] at HCK1
    have HOK := hid hok
    by_cases h0 : ph < 0
    · have t0 : decide (ph < 0) = true := decide_eq_true h0
      have HR : Hid (dstepP M ⟨ph, cuts, head, pl, key, val, prev, next⟩ = (zeroM, zeroE, 261)) := hid (by unfold dstepP; rw [hok, if_neg (by decide), if_pos (.inl h0)])
      clear hok
      go_wp2_with fail
      refine HCK1.out.mono ?_
      rintro e V5 ⟨rfl, hb5⟩
      have y0 := cell_laid (i := 0) (keep_laid HY.out hb5) rfl
      have k3 := keep_laid HZ.out hb5
      have k4 := keep_laid HG.out hb5
      have HB5 := step HB4.out hb5
      obtain ⟨V6, V7, hV6, hV7, -, -, a3, a4, -, -, a5, -⟩ := put_me k3 k4 hGZ (.slice none 0 0) (.slice none 0 0) (.bool false) (.int .i64 0) (.bool false) (.int .u64 0) (.int .u64 0) (.int .u64 0) (.int .u64 0) (.int .u64 0) (.int .u64 0)
      obtain ⟨z0, z1, z2⟩ := cells3 k3
      have zf0 := free_laid (i := 0) k3
      have zf1 := free_laid (i := 1) k3
      have zf2 := free_laid (i := 2) k3
      have g0 := cell_laid (i := 0) k4 rfl
      have gf0 := free_laid (i := 0) k4
      have g1 := cell_laid (i := 1) k4 rfl
      have gf1 := free_laid (i := 1) k4
      have g2 := cell_laid (i := 2) k4 rfl
      have gf2 := free_laid (i := 2) k4
      have g3 := cell_laid (i := 3) k4 rfl
      have gf3 := free_laid (i := 3) k4
      have g4 := cell_laid (i := 4) k4 rfl
      have gf4 := free_laid (i := 4) k4
      have g5 := cell_laid (i := 5) k4 rfl
      have gf5 := free_laid (i := 5) k4
      have g6 := cell_laid (i := 6) k4 rfl
      have gf6 := free_laid (i := 6) k4
      have g7 := cell_laid (i := 7) k4 rfl
      have gf7 := free_laid (i := 7) k4
      have HV6 := hid hV6
      have HV7 := hid hV7
      have A3 := hid a3
      have A4 := hid a4
      have HB7 := hid (a5 V.heap.size V hZV hGV HB5)
      clear k3 k4 HB5 hb5 hV6 hV7 a3 a4 a5
      go_wp2
      rw [← HV6.out, ← HV7.out]
      refine bodyPost_ret (dstep_result A3.out A4.out rfl rfl rfl) rfl ?_
      rw [HR.out]
      exact ⟨none, 0, none, 0, rfl, ⟨World.ownsRow_nil _ _ _ _, World.ownsRow_nil _ _ _ _⟩, HB7.out⟩
    have t0 : decide (ph < 0) = false := decide_eq_false h0
    by_cases h10 : 10 < ph
    · have t1 : decide (10 < ph) = true := decide_eq_true h10
      have HR : Hid (dstepP M ⟨ph, cuts, head, pl, key, val, prev, next⟩ = (zeroM, zeroE, 261)) := hid (by unfold dstepP; rw [hok, if_neg (by decide), if_pos (.inr h10)])
      clear hok
      go_wp2_with fail
      refine HCK1.out.mono ?_
      rintro e V5 ⟨rfl, hb5⟩
      have y0 := cell_laid (i := 0) (keep_laid HY.out hb5) rfl
      have k3 := keep_laid HZ.out hb5
      have k4 := keep_laid HG.out hb5
      have HB5 := step HB4.out hb5
      obtain ⟨V6, V7, hV6, hV7, -, -, a3, a4, -, -, a5, -⟩ := put_me k3 k4 hGZ (.slice none 0 0) (.slice none 0 0) (.bool false) (.int .i64 0) (.bool false) (.int .u64 0) (.int .u64 0) (.int .u64 0) (.int .u64 0) (.int .u64 0) (.int .u64 0)
      obtain ⟨z0, z1, z2⟩ := cells3 k3
      have zf0 := free_laid (i := 0) k3
      have zf1 := free_laid (i := 1) k3
      have zf2 := free_laid (i := 2) k3
      have g0 := cell_laid (i := 0) k4 rfl
      have gf0 := free_laid (i := 0) k4
      have g1 := cell_laid (i := 1) k4 rfl
      have gf1 := free_laid (i := 1) k4
      have g2 := cell_laid (i := 2) k4 rfl
      have gf2 := free_laid (i := 2) k4
      have g3 := cell_laid (i := 3) k4 rfl
      have gf3 := free_laid (i := 3) k4
      have g4 := cell_laid (i := 4) k4 rfl
      have gf4 := free_laid (i := 4) k4
      have g5 := cell_laid (i := 5) k4 rfl
      have gf5 := free_laid (i := 5) k4
      have g6 := cell_laid (i := 6) k4 rfl
      have gf6 := free_laid (i := 6) k4
      have g7 := cell_laid (i := 7) k4 rfl
      have gf7 := free_laid (i := 7) k4
      have HV6 := hid hV6
      have HV7 := hid hV7
      have A3 := hid a3
      have A4 := hid a4
      have HB7 := hid (a5 V.heap.size V hZV hGV HB5)
      clear k3 k4 HB5 hb5 hV6 hV7 a3 a4 a5
      go_wp2
      rw [← HV6.out, ← HV7.out]
      refine bodyPost_ret (dstep_result A3.out A4.out rfl rfl rfl) rfl ?_
      rw [HR.out]
      exact ⟨none, 0, none, 0, rfl, ⟨World.ownsRow_nil _ _ _ _, World.ownsRow_nil _ _ _ _⟩, HB7.out⟩
    have t1 : decide (10 < ph) = false := decide_eq_false h10
    have HR : Hid (dstepP M ⟨ph, cuts, head, pl, key, val, prev, next⟩ = ((stepE M ⟨ph, cuts, head, pl, key, val, prev, next⟩).1, (stepE M ⟨ph, cuts, head, pl, key, val, prev, next⟩).2, 0)) := hid (by unfold dstepP; rw [hok, if_neg (by decide), if_neg (by dsimp only; omega)])
    have hn4 : n ≤ 4096 := by have := okM_spec hok; rw [HNN.out] at this; omega
    have hmn : m = n := by have := okM_spec hok; rw [HNN.out, HMM.out] at this; exact this.2.2.1
    subst hmn
    have hph : 0 ≤ ph ∧ ph ≤ 10 := by omega
    clear hok h0 h10
    go_wp2_with fail
    refine HCK1.out.mono ?_
    rintro e V5 ⟨rfl, hb5⟩
    have y0 := cell_laid (i := 0) (keep_laid HY.out hb5) rfl
    go_upto_region 5 with (fail)
    obtain ⟨D, hD⟩ : ∃ D, V5.drew = D := ⟨_, rfl⟩
    have hbD : Below V5.heap.size V5 D := by rw [← hD]; exact (Below.refl _ _).drew
    have HBD := hid (step hb5 hbD)
    have HD := hid hD
    have HXD := hid (keep_laid HX.out (step hb5 hbD))
    have HYD := hid (keep_laid HY.out (step hb5 hbD))
    have HMD := hid (HM.out.grow (step hb5 hbD))
    have r0 : ∀ z : Ext D, z.v.cell? ⟨X, 0, none⟩ = some (.slice wa m wc) := fun z => by have := cell_laid (i := 0) (keep_laid HXD.out z.b) rfl; rw [HNN.out] at this; exact this
    have r1 : ∀ z : Ext D, z.v.cell? ⟨X, 1, none⟩ = some (.slice la m lc) := fun z => by have := cell_laid (i := 1) (keep_laid HXD.out z.b) rfl; rw [HMM.out] at this; exact this
    have r2 : ∀ z : Ext D, z.v.cell? ⟨X, 2, none⟩ = some (.bool F) := fun z => by have := cell_laid (i := 2) (keep_laid HXD.out z.b) rfl; rw [HFF.out] at this; exact this
    have s0 : ∀ z : Ext D, z.v.cell? ⟨Y, 0, none⟩ = some (.int .i64 ph) := fun z => cell_laid (i := 0) (keep_laid HYD.out z.b) rfl
    have s1 : ∀ z : Ext D, z.v.cell? ⟨Y, 1, none⟩ = some (.bool cuts) := fun z => cell_laid (i := 1) (keep_laid HYD.out z.b) rfl
    have s2 : ∀ z : Ext D, z.v.cell? ⟨Y, 2, none⟩ = some (.int .u64 ((head : Nat) : Int)) := fun z => cell_laid (i := 2) (keep_laid HYD.out z.b) rfl
    have s3 : ∀ z : Ext D, z.v.cell? ⟨Y, 3, none⟩ = some (.int .u64 ((pl : Nat) : Int)) := fun z => cell_laid (i := 3) (keep_laid HYD.out z.b) rfl
    have s4 : ∀ z : Ext D, z.v.cell? ⟨Y, 4, none⟩ = some (.int .u64 ((key : Nat) : Int)) := fun z => cell_laid (i := 4) (keep_laid HYD.out z.b) rfl
    have s5 : ∀ z : Ext D, z.v.cell? ⟨Y, 5, none⟩ = some (.int .u64 ((val : Nat) : Int)) := fun z => cell_laid (i := 5) (keep_laid HYD.out z.b) rfl
    have s6 : ∀ z : Ext D, z.v.cell? ⟨Y, 6, none⟩ = some (.int .u64 ((prev : Nat) : Int)) := fun z => cell_laid (i := 6) (keep_laid HYD.out z.b) rfl
    have s7 : ∀ z : Ext D, z.v.cell? ⟨Y, 7, none⟩ = some (.int .u64 ((next : Nat) : Int)) := fun z => cell_laid (i := 7) (keep_laid HYD.out z.b) rfl
    have HCW := hid (CloneW_any wa m wc (wcells M.W) D (by have := HMD.out.w; rw [HNN.out] at this; exact this) (by rw [wcells_len, HNN.out, Nat.mul_one]) (by omega) (wcells_one _))
    have HCB := hid (fun W (hb : Below D.heap.size D W) => CloneB_any la m lc (bcells M.L) W (by have := (HMD.out.grow hb).l; rw [HMM.out] at this; exact this) (by rw [bcells_len, HMM.out, Nat.mul_one]) (by omega) (bcells_one _))
    have HB5 := hid (step HB4.out hb5)
    clear hD hbD y0 hb5
    refine wp_region_mix2 (fun V => ∃ z : Ext D, V = z.v) 13 (.q 0 (.q 1 (.q 2 (.q 4 (.q 5 (.q 7 (.q 8 (.h 3 (.h 6 (.q 9 (.q 10 (.h 11 (.q 12 .done))))))))))))) (by kernel_rfl) (by kernel_rfl) (by rw [HD.out]; exact ⟨⟨D, Below.refl _ _⟩, rfl⟩) ?_
    rw [HD.out]
    repeat (refine wpMix2_q rfl rfl ?_; go_big_quiet_step (fail); refine wpQuiet_nil ?_)
    refine wpMix2_h rfl fun R' hR' hO => ?_
    go_wp2_with fail
    refine HCW.out.mono ?_
    rintro e W1 ⟨v1, rfl, ho1, hb1⟩
    obtain ⟨wa', wc', rfl, -⟩ := Leads.of_own ho1
    have HO1 := hid ho1
    have HB1 := hid hb1
    clear ho1 hb1
    go_wp2
    refine hR' _ _ ⟨⟨W1, HB1.out⟩, rfl⟩ ?_
    clear hR' hO R'
    refine wpMix2_h rfl fun R' hR' hO => ?_
    go_wp2_with fail
    refine (HCB.out W1 HB1.out).mono ?_
    rintro e W2 ⟨v2, rfl, ho2, hb2⟩
    obtain ⟨la', lc', rfl, -⟩ := Leads.of_own ho2
    have hVD : V.heap.size ≤ D.heap.size := (step HB4.out HBD.out).size
    have hVW : V.heap.size ≤ W1.heap.size := Nat.le_trans hVD HB1.out.size
    have HO2 : Hid (MemO V.heap.size wa' wc' la' lc' M W2) := hid (by
      refine ⟨?_, ?_⟩
      · rw [HNN.out]; exact own_grow (own_base HO1.out hVD) hb2
      · rw [HMM.out]; exact own_base ho2 hVW)
    have HB2 := hid (step HB1.out hb2)
    clear ho2 hb2
    go_wp2
    refine hR' _ _ ⟨⟨W2, HB2.out⟩, rfl⟩ ?_
    clear hR' hO R'
    repeat (refine wpMix2_q rfl rfl ?_; go_big_quiet_step (fail); refine wpQuiet_nil ?_)
    refine wpMix2_h rfl fun R' hR' hO => ?_
    obtain ⟨W3, hW3, hb3, hs3, hl3⟩ := laid W2 (edCells ⟨ph, cuts, head, pl, key, val, prev, next⟩ false wa' m wc' la' m lc' F) 89
    obtain ⟨E, hE⟩ : ∃ X, W2.heap.size = X := ⟨_, rfl⟩
    rw [hE] at hl3
    have HB3 := hid (step HB2.out hb3)
    have HVE : Hid (V.heap.size < E ∧ G < E) := hid (by
      have q1 := HB2.out.size
      have q2 := (lt_laid (keep_laid HG.out HBD.out))
      omega)
    have HE3 : Hid (EdL V.heap.size true E ⟨ph, cuts, head, pl, key, val, prev, next⟩ false M W3) := hid (by
      have hmo := HO2.out.grow hb3
      have hap : apartA wa' E ∧ apartA la' E := by
        constructor
        · rintro b off rfl rfl
          have := (HO2.out.w.lt b rfl).2; omega
        · rintro b off rfl rfl
          have := (HO2.out.l.lt b rfl).2; omega
      refine ⟨wa', wc', la', lc', ?_, hmo.memL, hap.1, hap.2, fun _ => hmo, fun e => by cases e⟩
      rw [HNN.out, HMM.out, HFF.out]
      exact hl3)
    unfold edCells at hW3
    dsimp only at hW3
    clear hb3 hs3 hl3
    go_wp2
    refine hR' _ _ ⟨⟨W3, HB3.out⟩, rfl⟩ ?_
    clear hR' hO R'
    repeat (refine wpMix2_q rfl rfl ?_; go_big_quiet_step (fail); refine wpQuiet_nil ?_)
    refine wpMix2_done ?_
    simp only [List.drop_succ_cons, List.drop_zero]
    have hVW3 : V.heap.size ≤ W3.heap.size := Nat.le_trans hVD HB3.out.size
    have HST := hid (estep_any E ⟨ph, cuts, head, pl, key, val, prev, next⟩ false M W3 HE3.out hVW3 HOK.out HS.out hph.1)
    go_wp2_with fail
    refine HST.out.mono ?_
    rintro e W4 ⟨rfl, hg4, lost', hE4⟩
    obtain ⟨⟨M', s'⟩, hR'⟩ : ∃ R, stepE M ⟨ph, cuts, head, pl, key, val, prev, next⟩ = R := ⟨_, rfl⟩
    rw [hR'] at HR hE4
    dsimp only at HR hE4
    obtain ⟨wx, wcx, lx, lcx, hC⟩ := hE4
    have HOW := hid (hC.ow rfl)
    obtain ⟨ph', cuts', head', pl', key', val', prev', next'⟩ := s'
    obtain ⟨D4, hD4⟩ : ∃ D, W4.drew = D := ⟨_, rfl⟩
    have HD4 := hid hD4
    have hbD4 : Below W4.heap.size W4 D4 := by rw [← hD4]; exact (Below.refl _ _).drew
    have HOD := hid (HOW.out.grow hbD4)
    have HED := hid (keep_laid hC.blk hbD4)
    have HZD := hid (keep_laid (keep_grown (keep_laid (keep_laid HZ.out HBD.out) HB3.out) hg4 (fun e => absurd (Option.some.inj e) (by have := HVE.out; omega))) hbD4)
    have HGD := hid (keep_laid (keep_grown (keep_laid (keep_laid HG.out HBD.out) HB3.out) hg4 (fun e => absurd (Option.some.inj e) (by have := HVE.out; omega))) hbD4)
    have HBVD := hid ((below_grown ((step HB4.out HBD.out).trans (HB3.out.mono hVD)) hg4 (Nat.le_of_lt HVE.out.1) hVW3).trans (hbD4.mono (Nat.le_trans hVW3 hg4.size)))
    have hZE : Z ≠ E := by have := HVE.out; omega
    have hGE : G ≠ E := by have := HVE.out; omega
    have hEZ : E ≠ Z := Ne.symm hZE
    have hEG : E ≠ G := Ne.symm hGE
    obtain ⟨V6, V7, hV6, hV7, a1, a2, a3, a4, k6, k7, a5, a6⟩ := put_me HZD.out HGD.out hGZ (.slice wx M'.W.length wcx) (.slice lx M'.L.length lcx) (.bool M'.F) (.int .i64 ph') (.bool cuts') (.int .u64 ((head' : Nat) : Int)) (.int .u64 ((pl' : Nat) : Int)) (.int .u64 ((key' : Nat) : Int)) (.int .u64 ((val' : Nat) : Int)) (.int .u64 ((prev' : Nat) : Int)) (.int .u64 ((next' : Nat) : Int))
    have HE6 := hid (k6 E _ hEZ HED.out)
    have HE7 := hid (k7 E _ hEZ hEG HED.out)
    have HG6 := hid a2
    have A3 := hid a3
    have A4 := hid a4
    have HB7 := hid (a5 V.heap.size V hZV hGV HBVD.out)
    have HM7 := hid (a6 _ _ _ _ _ _ HOD.out)
    have HV6 := hid hV6
    have HV7 := hid hV7
    clear hR' hC hD4 hbD4 hg4 hV6 hV7 a1 a2 a3 a4 k6 k7 a5 a6
    obtain ⟨z0, z1, z2⟩ := cells3 HZD.out
    have zf0 := free_laid (i := 0) HZD.out
    have zf1 := free_laid (i := 1) HZD.out
    have zf2 := free_laid (i := 2) HZD.out
    have g0 := cell_laid (i := 0) HG6.out rfl
    have gf0 := free_laid (i := 0) HG6.out
    have g1 := cell_laid (i := 1) HG6.out rfl
    have gf1 := free_laid (i := 1) HG6.out
    have g2 := cell_laid (i := 2) HG6.out rfl
    have gf2 := free_laid (i := 2) HG6.out
    have g3 := cell_laid (i := 3) HG6.out rfl
    have gf3 := free_laid (i := 3) HG6.out
    have g4 := cell_laid (i := 4) HG6.out rfl
    have gf4 := free_laid (i := 4) HG6.out
    have g5 := cell_laid (i := 5) HG6.out rfl
    have gf5 := free_laid (i := 5) HG6.out
    have g6 := cell_laid (i := 6) HG6.out rfl
    have gf6 := free_laid (i := 6) HG6.out
    have g7 := cell_laid (i := 7) HG6.out rfl
    have gf7 := free_laid (i := 7) HG6.out

    haveI : Nonempty (RBk E (edCells ⟨ph', cuts', head', pl', key', val', prev', next'⟩ lost' wx M'.W.length wcx lx M'.L.length lcx M'.F) 89) := ⟨⟨D4, HED.out⟩⟩
    have q0 : ∀ z : RBk E (edCells ⟨ph', cuts', head', pl', key', val', prev', next'⟩ lost' wx M'.W.length wcx lx M'.L.length lcx M'.F) 89, z.w.cell? ⟨E, 0, none⟩ = some (.int .i64 ph') := fun z => cell_laid (i := 0) z.b rfl
    have q1 : ∀ z : RBk E (edCells ⟨ph', cuts', head', pl', key', val', prev', next'⟩ lost' wx M'.W.length wcx lx M'.L.length lcx M'.F) 89, z.w.cell? ⟨E, 1, none⟩ = some (.bool cuts') := fun z => cell_laid (i := 1) z.b rfl
    have q2 : ∀ z : RBk E (edCells ⟨ph', cuts', head', pl', key', val', prev', next'⟩ lost' wx M'.W.length wcx lx M'.L.length lcx M'.F) 89, z.w.cell? ⟨E, 2, none⟩ = some (.int .u64 ((head' : Nat) : Int)) := fun z => cell_laid (i := 2) z.b rfl
    have q3 : ∀ z : RBk E (edCells ⟨ph', cuts', head', pl', key', val', prev', next'⟩ lost' wx M'.W.length wcx lx M'.L.length lcx M'.F) 89, z.w.cell? ⟨E, 3, none⟩ = some (.int .u64 ((pl' : Nat) : Int)) := fun z => cell_laid (i := 3) z.b rfl
    have q4 : ∀ z : RBk E (edCells ⟨ph', cuts', head', pl', key', val', prev', next'⟩ lost' wx M'.W.length wcx lx M'.L.length lcx M'.F) 89, z.w.cell? ⟨E, 4, none⟩ = some (.int .u64 ((key' : Nat) : Int)) := fun z => cell_laid (i := 4) z.b rfl
    have q5 : ∀ z : RBk E (edCells ⟨ph', cuts', head', pl', key', val', prev', next'⟩ lost' wx M'.W.length wcx lx M'.L.length lcx M'.F) 89, z.w.cell? ⟨E, 5, none⟩ = some (.int .u64 ((val' : Nat) : Int)) := fun z => cell_laid (i := 5) z.b rfl
    have q6 : ∀ z : RBk E (edCells ⟨ph', cuts', head', pl', key', val', prev', next'⟩ lost' wx M'.W.length wcx lx M'.L.length lcx M'.F) 89, z.w.cell? ⟨E, 6, none⟩ = some (.int .u64 ((prev' : Nat) : Int)) := fun z => cell_laid (i := 6) z.b rfl
    have q7 : ∀ z : RBk E (edCells ⟨ph', cuts', head', pl', key', val', prev', next'⟩ lost' wx M'.W.length wcx lx M'.L.length lcx M'.F) 89, z.w.cell? ⟨E, 7, none⟩ = some (.int .u64 ((next' : Nat) : Int)) := fun z => cell_laid (i := 7) z.b rfl
    have q8 : ∀ z : RBk E (edCells ⟨ph', cuts', head', pl', key', val', prev', next'⟩ lost' wx M'.W.length wcx lx M'.L.length lcx M'.F) 89, z.w.cell? ⟨E, 8, none⟩ = some (.slice wx M'.W.length wcx) := fun z => cell_laid (i := 8) z.b rfl
    have q9 : ∀ z : RBk E (edCells ⟨ph', cuts', head', pl', key', val', prev', next'⟩ lost' wx M'.W.length wcx lx M'.L.length lcx M'.F) 89, z.w.cell? ⟨E, 9, none⟩ = some (.slice lx M'.L.length lcx) := fun z => cell_laid (i := 9) z.b rfl
    have q10 : ∀ z : RBk E (edCells ⟨ph', cuts', head', pl', key', val', prev', next'⟩ lost' wx M'.W.length wcx lx M'.L.length lcx M'.F) 89, z.w.cell? ⟨E, 10, none⟩ = some (.bool M'.F) := fun z => cell_laid (i := 10) z.b rfl

    clear x0 x1 x2 r0 r1 r2 s0 s1 s2 s3 s4 s5 s6 s7
    go_wp2_with fail
    refine wp_region_mix2 (fun V => ∃ z : RBk E (edCells ⟨ph', cuts', head', pl', key', val', prev', next'⟩ lost' wx M'.W.length wcx lx M'.L.length lcx M'.F) 89, V = z.w) 11 (.q 0 (.q 1 (.q 2 (.q 3 (.q 4 (.q 5 (.q 6 (.q 7 (.h 8 (.h 9 (.q 10 .done))))))))))) (by kernel_rfl) (by kernel_rfl) (by rw [HD4.out]; exact ⟨⟨D4, HED.out⟩, rfl⟩) ?_
    rw [HD4.out]
    repeat (refine wpMix2_q rfl rfl ?_; go_big_quiet_step (fail); refine wpQuiet_nil ?_)
    refine wpMix2_h rfl fun R' hR' hO => ?_
    go_wp2
    rw [← HV6.out]
    refine hR' _ _ ⟨⟨V6, HE6.out⟩, rfl⟩ ?_
    clear hR' hO R'
    refine wpMix2_h rfl fun R' hR' hO => ?_
    go_wp2
    rw [← HV7.out]
    refine hR' _ _ ⟨⟨V7, HE7.out⟩, rfl⟩ ?_
    clear hR' hO R'
    repeat (refine wpMix2_q rfl rfl ?_; go_big_quiet_step (fail); refine wpQuiet_nil ?_)
    refine wpMix2_done ?_
    simp only [List.drop_succ_cons, List.drop_zero]
    go_wp2
    refine bodyPost_ret (dstep_result A3.out A4.out rfl rfl rfl) rfl ?_
    rw [HR.out]
    exact ⟨_, _, _, _, rfl, HM7.out, HB7.out⟩
-- END
end Go.Proofs.Ytoihjmdpbbcbjaa
