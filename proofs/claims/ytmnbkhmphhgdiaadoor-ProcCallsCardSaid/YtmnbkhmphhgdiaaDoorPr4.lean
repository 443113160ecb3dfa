/- Processes: Find, Runs, Kids (printed by gen_pr4.py). -/
import Derived.Test.YtmnbkhmphhgdiaaDoorPr3
namespace Go.Proofs.YtmnbkhmphhgdiaaDoor
open Go.RowKit Go.Shelf
open Go.Proofs
set_option linter.unusedVariables false
attribute [local go_sem] Oper.semAt_some
theorem Find_result {W : World} {b : Nat} {v0 v1 v2 v3 u5 : Value} {tmps : Array Value} (h : W.heap[b]? = some (.cells #[v0, v1, v2, v3] 45 (0, 0))) (hp : tmps[4]?.getD undef = .pointer (some ⟨b, 0, none⟩)) (hq : tmps[5]?.getD undef = u5) :
    (results Tryd.f20 tmps).run Tryd.prog W = .ok (.tuple #[.agg #[v0, v1, v2, v3], u5]) W := by
  have e0 := cell_laid (i := 0) (v := v0) h rfl
  have e1 := cell_laid (i := 1) (v := v1) h rfl
  have e2 := cell_laid (i := 2) (v := v2) h rfl
  have e3 := cell_laid (i := 3) (v := v3) h rfl
  simp [results, Tryd.results20, go_sem, hp, hq, e0, e1, e2, e3]
/-- The process of a pid, of processes that may be. -/
def findP (G : Nat → Int) (L : List Pr) (pid : Nat) : Pr × Bool := if okP G L = true then (match findB L pid with
  | some x => (x, true)
  | none => ((0, 0, false, 0), false)) else ((0, 0, false, 0), false)
set_option maxRecDepth 100000 in
set_option maxHeartbeats 4000000 in
theorem Find_any (n c pid : Nat) (a : Option Addr) (G : Nat → Int) (L : List Pr) (V : World) (hg : Glob V) (hl : Leads V a n c (prcells L)) (hn : L.length = n) (hn5 : n ≤ 1000) (hG : GOk G) (hL : PrsOk L) :
    Calls Tryd.prog 20 #[.agg #[.int .i64 (G 0), .int .i64 (G 1), .int .i64 (G 2), .int .i64 (G 3), .int .i64 (G 4), .int .i64 (G 5), .int .i64 (G 6), .int .i64 (G 7), .int .i64 (G 8), .int .i64 (G 9), .int .i64 (G 10), .int .i64 (G 11), .int .i64 (G 12), .int .i64 (G 13), .int .i64 (G 14), .int .i64 (G 15), .slice a n c], .int .u64 ((pid : Nat) : Int)] V (Ret (.tuple #[prV (findP G L pid).1, .bool (findP G L pid).2]) V) := by
  obtain ⟨V1, hV1, hbV1, hsV1, hlV1⟩ := laid V #[.int .i64 (G 0), .int .i64 (G 1), .int .i64 (G 2), .int .i64 (G 3), .int .i64 (G 4), .int .i64 (G 5), .int .i64 (G 6), .int .i64 (G 7), .int .i64 (G 8), .int .i64 (G 9), .int .i64 (G 10), .int .i64 (G 11), .int .i64 (G 12), .int .i64 (G 13), .int .i64 (G 14), .int .i64 (G 15), .slice a n c] 25
  obtain ⟨V2, hV2, hbV2, hsV2, hlV2⟩ := laid V1 #[.int .u64 0, .int .u64 0, .bool false, .int .u64 0] 45
  obtain ⟨X, hX⟩ : ∃ X, V.heap.size = X := ⟨_, rfl⟩
  rw [hX] at hlV1
  obtain ⟨Z, hZ⟩ : ∃ X, V1.heap.size = X := ⟨_, rfl⟩
  rw [hZ] at hlV2
  have KX := hid (keep_laid hlV1 hbV2)
  have KZ := hid hlV2
  have HB := hid (step hbV1 hbV2)
  have hVX : V.heap.size ≤ X := by omega
  have hVZ : V.heap.size ≤ Z := by omega
  have nXZ : X < Z := by omega
  clear hbV1 hsV1 hlV1 hbV2 hsV2 hlV2
  have HL := hid hl
  have HN := hid hn
  have HCK := hid (fun (W : World) (hb : Below V.heap.size V W) => Check_any n c a G L W (hg.grow hb) (hl.grow hb) hn hn5 hG hL)
  have HOF := hid (fun (T : Nat) (W : World) (hb : Below V.heap.size V W) h => of_any T n c pid a G 65 L W h (hl.grow hb) hn hn5)
  have hlen := hl.len
  obtain ⟨RV, hRV⟩ : ∃ r, findP G L pid = r := ⟨_, rfl⟩
  rw [hRV]
  have HRV := hid hRV
  clear hg hl hn hG hL hRV
  go_enter Tryd.func20, Tryd.ntmps20
  obtain ⟨x0, x1, x2, x3, x4, x5, x6, x7, x8, x9, x10, x11, x12, x13, x14, x15, x16⟩ := ncl17 (KX.out)
  cases hok : okP G L with
  | false =>
    have HCK2 := hid (HCK.out V2 HB.out)
    rw [hok, if_neg (by decide)] at HCK2
    have HOK := hid hok
    clear hok
    go_wp2_with fail
    refine (HCK2.out).mono ?_
    rintro e w1_46 ⟨rfl, hbn⟩
    have KX_1 := hid (keep_laid KX.out hbn)
    have KZ_2 := hid (keep_laid KZ.out hbn)
    have HB_3 := hid (HB.out.trans (hbn.mono HB.out.size))
    clear KX KZ HB hbn x0 x1 x2 x3 x4 x5 x6 x7 x8 x9 x10 x11 x12 x13 x14 x15 x16 HCK2 hX hZ
    have KZ_2_o := KZ_2.out
    obtain ⟨u2_54, hu2_54, a1, a2, a3, a4⟩ := putN4 KZ_2.out (.int .u64 0) (.int .u64 0) (.bool false) (.int .u64 0)
    obtain ⟨z0, zf0, z1, zf1, z2, zf2, z3, zf3⟩ := fcl4 (KZ_2.out)
    have E3_54 := hid hu2_54
    have KX_4 := hid (a2 X _ (by omega) KX_1.out)
    have KZ_5 := hid (a1)
    have HB_6 := hid (a3 _ _ (by omega) HB_3.out)
    clear KX_1 KZ_2 HB_3 hu2_54 a1 a2 a3 a4
    clear KZ_2_o
    go_wp2
    rw [← E3_54.out]
    refine bodyPost_ret (Find_result KZ_5.out rfl rfl) rfl ⟨?_, HB_6.out⟩
    rw [← HRV.out]
    unfold findP prV
    rw [HOK.out, if_neg (by decide)]
    rfl
  | true =>
    have HCK2 := hid (HCK.out V2 HB.out)
    rw [hok, if_pos rfl] at HCK2
    have HOK := hid hok
    clear hok
    go_wp2_with fail
    refine (HCK2.out).mono ?_
    rintro e w1_74 ⟨rfl, hbn⟩
    have KX_1 := hid (keep_laid KX.out hbn)
    have KZ_2 := hid (keep_laid KZ.out hbn)
    have HB_3 := hid (HB.out.trans (hbn.mono HB.out.size))
    clear KX KZ HB hbn x0 x1 x2 x3 x4 x5 x6 x7 x8 x9 x10 x11 x12 x13 x14 x15 x16 HCK2 hX hZ
    obtain ⟨x0, x1, x2, x3, x4, x5, x6, x7, x8, x9, x10, x11, x12, x13, x14, x15, x16⟩ := ncl17 (KX_1.out)
    obtain ⟨w2_82, hw2_82, hbn, hsn, hln⟩ := laid w1_74 #[.int .i64 (G 0), .int .i64 (G 1), .int .i64 (G 2), .int .i64 (G 3), .int .i64 (G 4), .int .i64 (G 5), .int .i64 (G 6), .int .i64 (G 7), .int .i64 (G 8), .int .i64 (G 9), .int .i64 (G 10), .int .i64 (G 11), .int .i64 (G 12), .int .i64 (G 13), .int .i64 (G 14), .int .i64 (G 15), .slice a n c] 65
    obtain ⟨T, hNMT⟩ : ∃ X, w1_74.heap.size = X := ⟨_, rfl⟩
    rw [hNMT] at hln
    have nXT : X < T := by have := lt_laid KX_1.out; omega
    have nZT : Z < T := by have := lt_laid KZ_2.out; omega
    have hVT : V.heap.size ≤ T := by have := HB_3.out.size; omega
    have KX_4 := hid (keep_laid KX_1.out hbn)
    have KZ_5 := hid (keep_laid KZ_2.out hbn)
    have HB_6 := hid (HB_3.out.trans (hbn.mono HB_3.out.size))
    clear KX_1 KZ_2 HB_3 hbn hsn
    have KT_7 := hid (hln)
    clear hln
    have HOF2 := hid (HOF.out T w2_82 HB_6.out KT_7.out)
    go_wp2_with fail
    refine HOF2.out.mono ?_
    rintro e w9 ⟨r, rfl, hr, hbn⟩
    have HR := hid hr.find
    clear hr
    have KX_8 := hid (keep_laid KX_4.out hbn)
    have KZ_9 := hid (keep_laid KZ_5.out hbn)
    have HB_10 := hid (HB_6.out.trans (hbn.mono HB_6.out.size))
    have KT_11 := hid (keep_laid KT_7.out hbn)
    clear KX_4 KZ_5 HB_6 KT_7 hbn x0 x1 x2 x3 x4 x5 x6 x7 x8 x9 x10 x11 x12 x13 x14 x15 x16 HOF2
    rcases HR.out with ⟨rfl, hf⟩ | ⟨k, x, b, off, hk, hx, hf, hab, rfl⟩
    · skip
      have HF := hid hf
      clear hf HR
      have KZ_9_o := KZ_9.out
      obtain ⟨u3_110, hu3_110, a1, a2, a3, a4⟩ := putN4 KZ_9.out (.int .u64 0) (.int .u64 0) (.bool false) (.int .u64 0)
      obtain ⟨z0, zf0, z1, zf1, z2, zf2, z3, zf3⟩ := fcl4 (KZ_9.out)
      have E4_110 := hid hu3_110
      have KX_12 := hid (a2 X _ (by omega) KX_8.out)
      have KZ_13 := hid (a1)
      have HB_14 := hid (a3 _ _ (by omega) HB_10.out)
      have KT_15 := hid (a2 T _ (by omega) KT_11.out)
      clear KX_8 KZ_9 HB_10 KT_11 hu3_110 a1 a2 a3 a4
      clear KZ_9_o
      go_wp2
      rw [← E4_110.out]
      refine bodyPost_ret (Find_result KZ_13.out rfl rfl) rfl ⟨?_, HB_14.out⟩
      rw [← HRV.out]
      unfold findP prV
      rw [HOK.out, if_pos rfl, HF.out]
      rfl
    · obtain ⟨x0, x1, x2, x3⟩ := x
      have HF := hid hf
      obtain ⟨b', off', hab', -, hcx⟩ := HL.out.pr (by rw [← HN.out]; exact (List.getElem?_eq_some_iff.1 hk).1) hk
      rw [hab] at hab'
      simp only [Option.some.injEq, Addr.mk.injEq, and_true] at hab'
      obtain ⟨rfl, rfl⟩ := hab'
      obtain ⟨f0, f1, f2, f3⟩ := hcx w9 HB_10.out
      clear hf HR hk hx hab hcx
      have KZ_9_o := KZ_9.out
      obtain ⟨u3_135, hu3_135, a1, a2, a3, a4⟩ := putN4 KZ_9.out (.int .u64 ((x0 : Nat) : Int)) (.int .u64 ((x1 : Nat) : Int)) (.bool x2) (.int .u64 ((x3 : Nat) : Int))
      obtain ⟨z0, zf0, z1, zf1, z2, zf2, z3, zf3⟩ := fcl4 (KZ_9.out)
      have E4_135 := hid hu3_135
      have KX_12 := hid (a2 X _ (by omega) KX_8.out)
      have KZ_13 := hid (a1)
      have HB_14 := hid (a3 _ _ (by omega) HB_10.out)
      have KT_15 := hid (a2 T _ (by omega) KT_11.out)
      clear KX_8 KZ_9 HB_10 KT_11 hu3_135 a1 a2 a3 a4
      clear KZ_9_o
      go_wp2
      rw [← E4_135.out]
      refine bodyPost_ret (Find_result KZ_13.out rfl rfl) rfl ⟨?_, HB_14.out⟩
      rw [← HRV.out]
      unfold findP prV
      rw [HOK.out, if_pos rfl, HF.out]
      rfl
/-- Does a process run, of processes that may be? -/
def runsP (G : Nat → Int) (L : List Pr) (pid : Nat) : Bool := okP G L && runsB L pid
theorem findP_runs (G : Nat → Int) (L : List Pr) (pid : Nat) : ((findP G L pid).2 && !(findP G L pid).1.2.2.1) = runsP G L pid := by
  unfold findP runsP runsB
  cases okP G L with
  | false => rfl
  | true =>
    rw [if_pos rfl]
    cases findB L pid with
    | none => rfl
    | some x => rfl
set_option maxRecDepth 100000 in
set_option maxHeartbeats 4000000 in
theorem Runs_any (n c pid : Nat) (a : Option Addr) (G : Nat → Int) (L : List Pr) (V : World) (hg : Glob V) (hl : Leads V a n c (prcells L)) (hn : L.length = n) (hn5 : n ≤ 1000) (hG : GOk G) (hL : PrsOk L) :
    Calls Tryd.prog 19 #[.agg #[.int .i64 (G 0), .int .i64 (G 1), .int .i64 (G 2), .int .i64 (G 3), .int .i64 (G 4), .int .i64 (G 5), .int .i64 (G 6), .int .i64 (G 7), .int .i64 (G 8), .int .i64 (G 9), .int .i64 (G 10), .int .i64 (G 11), .int .i64 (G 12), .int .i64 (G 13), .int .i64 (G 14), .int .i64 (G 15), .slice a n c], .int .u64 ((pid : Nat) : Int)] V (Ret (.bool (runsP G L pid)) V) := by
  obtain ⟨V1, hV1, hbV1, hsV1, hlV1⟩ := laid V #[.int .i64 (G 0), .int .i64 (G 1), .int .i64 (G 2), .int .i64 (G 3), .int .i64 (G 4), .int .i64 (G 5), .int .i64 (G 6), .int .i64 (G 7), .int .i64 (G 8), .int .i64 (G 9), .int .i64 (G 10), .int .i64 (G 11), .int .i64 (G 12), .int .i64 (G 13), .int .i64 (G 14), .int .i64 (G 15), .slice a n c] 25
  obtain ⟨X, hX⟩ : ∃ X, V.heap.size = X := ⟨_, rfl⟩
  rw [hX] at hlV1
  have KX := hid hlV1
  have HB := hid hbV1
  have hVX : V.heap.size ≤ X := by omega
  clear hbV1 hsV1 hlV1
  have HFI := hid (Find_any n c pid a G L V1 (hg.grow HB.out) (hl.grow HB.out) hn hn5 hG hL)
  have hlen := hl.len
  have HE := hid (findP_runs G L pid)
  obtain ⟨⟨⟨y0, y1, y2, y3⟩, y4⟩, hRV⟩ : ∃ r, findP G L pid = r := ⟨_, rfl⟩
  rw [hRV] at HFI HE
  dsimp only at HFI HE
  unfold prV at HFI
  clear hg hl hn hG hL hRV
  go_enter Tryd.func19, Tryd.ntmps19
  obtain ⟨x0, x1, x2, x3, x4, x5, x6, x7, x8, x9, x10, x11, x12, x13, x14, x15, x16⟩ := ncl17 (KX.out)
  go_wp2_with fail
  refine (HFI.out).mono ?_
  rintro e w1_183 ⟨rfl, hbn⟩
  have KX_1 := hid (keep_laid KX.out hbn)
  have HB_2 := hid (HB.out.trans (hbn.mono HB.out.size))
  clear KX HB hbn x0 x1 x2 x3 x4 x5 x6 x7 x8 x9 x10 x11 x12 x13 x14 x15 x16 HFI hX
  obtain ⟨w2_189, hw2_189, hbn, hsn, hln⟩ := laid w1_183 #[.int .u64 0, .int .u64 0, .bool false, .int .u64 0] 45
  obtain ⟨Z, hNMZ⟩ : ∃ X, w1_183.heap.size = X := ⟨_, rfl⟩
  rw [hNMZ] at hln
  have nXZ : X < Z := by have := lt_laid KX_1.out; omega
  have hVZ : V.heap.size ≤ Z := by have := HB_2.out.size; omega
  have KX_3 := hid (keep_laid KX_1.out hbn)
  have HB_4 := hid (HB_2.out.trans (hbn.mono HB_2.out.size))
  clear KX_1 HB_2 hbn hsn
  have KZ_5 := hid (hln)
  clear hln
  have KZ_5_o := KZ_5.out
  obtain ⟨u3_200, hu3_200, a1, a2, a3, a4⟩ := putN4 KZ_5.out (.int .u64 ((y0 : Nat) : Int)) (.int .u64 ((y1 : Nat) : Int)) (.bool y2) (.int .u64 ((y3 : Nat) : Int))
  obtain ⟨z0, zf0, z1, zf1, z2, zf2, z3, zf3⟩ := fcl4 (KZ_5.out)
  have E4_200 := hid hu3_200
  have KX_6 := hid (a2 X _ (by omega) KX_3.out)
  have HB_7 := hid (a3 _ _ (by omega) HB_4.out)
  have KZ_8 := hid (a1)
  clear KX_3 HB_4 KZ_5 hu3_200 a1 a2 a3 a4
  clear KZ_5_o
  go_upto_region 2 with (fail)
  rw [← E4_200.out]
  clear z0 z1 z2 z3 zf0 zf1 zf2 zf3 hNMZ
  obtain ⟨z0, z1, z2, z3⟩ := ncl4 (KZ_8.out)
  cases y4 with
  | false =>
    go_wp2
    go_ret
    exact ⟨retb HE.out, HB_7.out⟩
  | true =>
    go_wp2
    go_ret
    exact ⟨retb HE.out, HB_7.out⟩
theorem kids1_any (t : Pr) (p X : Nat) (V : World) (h : V.cell? ⟨X, 0, none⟩ = some (.int .u64 ((p : Nat) : Int))) (hX : X < V.heap.size) :
    Calls Tryd.prog 50 #[prV t, .pointer (some ⟨X, 0, none⟩)] V (Ret (.bool (decide (t.2.1 = p))) V) := by
  obtain ⟨q, q1, q2, q3⟩ := t
  obtain ⟨V1, hV1, hb1, hs1, hl1⟩ := laid V #[.int .u64 ((q : Nat) : Int), .int .u64 ((q1 : Nat) : Int), .bool q2, .int .u64 ((q3 : Nat) : Int)] 45
  have x0 : V1.cell? ⟨X, 0, none⟩ = some (.int .u64 ((p : Nat) : Int)) := (hb1.cell (p := ⟨X, 0, none⟩) hX).trans h
  have t0 := cell_laid (i := 1) hl1 rfl
  have HB1 := hid hb1
  unfold prV
  have HE : Hid ((((q1 : Nat) : Int) == ((p : Nat) : Int)) = decide (q1 = p)) := hid (by rw [Bool.eq_iff_iff]; simp; omega)
  clear h hl1 hb1 hs1
  go_enter Tryd.func50, Tryd.ntmps50
  go_wp2
  go_ret
  exact ⟨retb HE.out, HB1.out⟩
theorem elemW : Elem Tryd.prog 50 29 1 8 := Elem.mk' (z := .int .u64 0) Tryd.underlying50 (by kernel_rfl) rfl (by decide) (by decide)
def kidsP (G : Nat → Int) (L : List Pr) (pid : Nat) : List Nat := if pid ≠ 0 ∧ okP G L = true then (L.filter fun x => decide (x.2.1 = pid)).map (·.1) else []
def GivesW (xs : List Nat) (V : World) (e : Ending) (W : World) : Prop := ∃ v, e = .returned v ∧ W.ownsRow V.heap.size 29 1 v xs.length (wcells xs) ∧ Below V.heap.size V W
theorem wcells_snoc (ps : List Nat) (p : Nat) : wcells (ps ++ [p]) = wcells ps ++ [.int .u64 ((p : Nat) : Int)] := by simp [wcells]
set_option maxRecDepth 100000 in
set_option maxHeartbeats 4000000 in
theorem Kids_any (n c pid : Nat) (a : Option Addr) (G : Nat → Int) (L : List Pr) (V : World) (hg : Glob V) (hl : Leads V a n c (prcells L)) (hn : L.length = n) (hn5 : n ≤ 1000) (hG : GOk G) (hL : PrsOk L) (hp : pid < 18446744073709551616) :
    Calls Tryd.prog 22 #[.agg #[.int .i64 (G 0), .int .i64 (G 1), .int .i64 (G 2), .int .i64 (G 3), .int .i64 (G 4), .int .i64 (G 5), .int .i64 (G 6), .int .i64 (G 7), .int .i64 (G 8), .int .i64 (G 9), .int .i64 (G 10), .int .i64 (G 11), .int .i64 (G 12), .int .i64 (G 13), .int .i64 (G 14), .int .i64 (G 15), .slice a n c], .int .u64 ((pid : Nat) : Int)] V (GivesW (kidsP G L pid) V) := by
  obtain ⟨V1, hV1, hbV1, hsV1, hlV1⟩ := laid V #[.int .i64 (G 0), .int .i64 (G 1), .int .i64 (G 2), .int .i64 (G 3), .int .i64 (G 4), .int .i64 (G 5), .int .i64 (G 6), .int .i64 (G 7), .int .i64 (G 8), .int .i64 (G 9), .int .i64 (G 10), .int .i64 (G 11), .int .i64 (G 12), .int .i64 (G 13), .int .i64 (G 14), .int .i64 (G 15), .slice a n c] 25
  obtain ⟨V2, hV2, hbV2, hsV2, hlV2⟩ := laid V1 #[.int .u64 ((pid : Nat) : Int)] 29
  obtain ⟨X, hX⟩ : ∃ X, V.heap.size = X := ⟨_, rfl⟩
  rw [hX] at hlV1
  obtain ⟨P, hP⟩ : ∃ X, V1.heap.size = X := ⟨_, rfl⟩
  rw [hP] at hlV2
  have KX := hid (keep_laid hlV1 hbV2)
  have KP := hid hlV2
  have HB := hid (step hbV1 hbV2)
  have hVX : V.heap.size ≤ X := by omega
  have hVP : V.heap.size ≤ P := by omega
  have nXP : X < P := by omega
  clear hbV1 hsV1 hlV1 hbV2 hsV2 hlV2
  have HCK := hid (Check_any n c a G L V2 (hg.grow HB.out) (hl.grow HB.out) hn hn5 hG hL)
  have HL := hid hl
  have HN := hid hn
  have hlen := hl.len
  have hmf : ∀ (fn : Fn) (first cap : Array Value) (w : World), (Instr.makeFunc fn first cap).run Tryd.prog w = .ok (.func fn first cap) w := fun _ _ _ _ => rfl
  clear hg hl hn hG hL
  go_enter Tryd.func22, Tryd.ntmps22
  have p0 := cell_laid (i := 0) KP.out rfl
  by_cases h0 : pid = 0
  · have t0 : (((pid : Nat) : Int) == 0) = true := by simp; omega
    have HE : Hid (kidsP G L pid = []) := hid (by unfold kidsP; rw [if_neg (fun h => h.1 h0)])
    clear h0
    go_wp2
    go_ret
    exact ⟨_, rfl, by rw [HE.out]; exact World.ownsRow_nil _ _ _ _, HB.out⟩
  · have t0 : (((pid : Nat) : Int) == 0) = false := by simp; omega
    obtain ⟨x0, x1, x2, x3, x4, x5, x6, x7, x8, x9, x10, x11, x12, x13, x14, x15, x16⟩ := ncl17 (KX.out)
    have HP0 := hid h0
    clear h0
    cases hok : okP G L with
    | false =>
      rw [hok, if_neg (by decide)] at HCK
      have HE : Hid (kidsP G L pid = []) := hid (by unfold kidsP; rw [if_neg (fun h => by rw [hok] at h; cases h.2)])
      clear hok
      go_wp2_with fail
      refine (HCK.out).mono ?_
      rintro e w1_280 ⟨rfl, hbn⟩
      have KX_1 := hid (keep_laid KX.out hbn)
      have KP_2 := hid (keep_laid KP.out hbn)
      have HB_3 := hid (HB.out.trans (hbn.mono HB.out.size))
      clear KX KP HB hbn x0 x1 x2 x3 x4 x5 x6 x7 x8 x9 x10 x11 x12 x13 x14 x15 x16 HCK p0 hX hP
      go_wp2
      go_ret
      exact ⟨_, rfl, by rw [HE.out]; exact World.ownsRow_nil _ _ _ _, HB_3.out⟩
    | true =>
      rw [hok, if_pos rfl] at HCK
      obtain ⟨ks, hks⟩ : ∃ ks, L.filter (fun x => decide (x.2.1 = pid)) = ks := ⟨_, rfl⟩
      have HE : Hid (kidsP G L pid = ks.map (·.1)) := hid (by unfold kidsP; rw [if_pos ⟨HP0.out, hok⟩, hks])
      have HKS := hid hks
      clear hok hks
      go_wp2_with fail
      refine (HCK.out).mono ?_
      rintro e w1_296 ⟨rfl, hbn⟩
      have KX_1 := hid (keep_laid KX.out hbn)
      have KP_2 := hid (keep_laid KP.out hbn)
      have HB_3 := hid (HB.out.trans (hbn.mono HB.out.size))
      clear KX KP HB hbn x0 x1 x2 x3 x4 x5 x6 x7 x8 x9 x10 x11 x12 x13 x14 x15 x16 HCK p0 hX hP
      have x16 := cell_laid (i := 16) KX_1.out rfl
      have HKE := hid (KeptKids L (fun x => decide (x.2.1 = pid)) a n c P w1_296 (HL.out.grow HB_3.out) HN.out hn5 (fun t W hb => kids1_any t pid P W (cell_laid (keep_laid KP_2.out hb) rfl) (lt_laid (keep_laid KP_2.out hb))))
      rw [HKS.out] at HKE
      obtain ⟨m, hm⟩ : ∃ m, ks.length = m := ⟨_, rfl⟩
      have hm1 : m ≤ 1000 := by rw [← hm, ← HKS.out]; exact Nat.le_trans (List.length_filter_le _ _) (by rw [HN.out]; exact hn5)
      unfold GivesPr at HKE
      rw [hm] at HKE
      have HM := hid hm
      clear hm
      go_wp2_with fail
      refine (HKE.out).mono ?_
      rintro e w2_312 ⟨vk, rfl, hok2, hbn⟩
      clear HKE x16
      have hVk := Nat.le_trans HB_3.out.size hbn.size
      have KX_4 := hid (keep_laid KX_1.out hbn)
      have KP_5 := hid (keep_laid KP_2.out hbn)
      have HB_6 := hid (HB_3.out.trans (hbn.mono HB_3.out.size))
      clear KX_1 KP_2 HB_3 hbn
      obtain ⟨ka, kc, rfl, hlk⟩ := Leads.of_own hok2
      have hkl := hlk.len
      have HLK := hid hlk
      clear hok2 hlk hmf
      go_wp2
      go_loopg [20, 5] m (fun g i t5 wr => ∃ (k : Nat) (v : Value), g + k = m ∧ i = .int .i64 ((k : Nat) : Int) ∧ t5 = v ∧ Hid (wr.ownsRow w2_312.heap.size 29 1 v k (wcells ((ks.map (·.1)).take k))) ∧ Hid (Below w2_312.heap.size w2_312 wr))
      case atStart => exact ⟨0, _, rfl, rfl, rfl, hid (World.ownsRow_nil _ _ _ _), hid (Below.refl _ _)⟩
      case round =>
        obtain ⟨k, v, hk, rfl, hv, ho, hbw⟩ := hrel
        obtain ⟨va, vc, rfl, -⟩ := Leads.of_own ho.out
        subst hv
        have HK := hid hk
        clear hk
        by_cases hlt : k < m
        · skip
          obtain ⟨⟨x0, x1, x2, x3⟩, hx⟩ : ∃ x, ks[k]? = some x := ⟨_, List.getElem?_eq_getElem (by rw [HM.out]; exact hlt)⟩
          obtain ⟨b, off, rfl, -, hcc⟩ := HLK.out.pr hlt hx
          obtain ⟨f0, f1, f2, f3⟩ := hcc _ hbw.out
          have HX := hid hx
          have HT : Hid ((ks.map (·.1)).take (k + 1) = (ks.map (·.1)).take k ++ [x0]) := hid (take_snoc (by rw [List.getElem?_map, hx]; rfl))
          clear hcc hx
          have HBW := hbw
          have HOW := ho
          clear ho hbw
          obtain ⟨w3_345, hw3_345, hbn, hsn, hln⟩ := laid wr #[.int .u64 0, .int .u64 0, .bool false, .int .u64 0] 45
          obtain ⟨Z, hNMZ⟩ : ∃ X, wr.heap.size = X := ⟨_, rfl⟩
          rw [hNMZ] at hln
          have hVZ : w2_312.heap.size ≤ Z := by have := HBW.out.size; omega
          have HBW_7 := hid (HBW.out.trans (hbn.mono HBW.out.size))
          have HOW_8 := hid (own_grow HOW.out hbn)
          clear HBW HOW hbn hsn
          have KZ_9 := hid (hln)
          clear hln
          have KZ_9_o := KZ_9.out
          obtain ⟨u4_355, hu4_355, a1, a2, a3, a4⟩ := putN4 KZ_9.out (.int .u64 ((x0 : Nat) : Int)) (.int .u64 ((x1 : Nat) : Int)) (.bool x2) (.int .u64 ((x3 : Nat) : Int))
          obtain ⟨z0, zf0, z1, zf1, z2, zf2, z3, zf3⟩ := fcl4 (KZ_9.out)
          have E5_355 := hid hu4_355
          have HBW_10 := hid (a3 _ _ (by omega) HBW_7.out)
          have HOW_11 := hid (own_keep HOW_8.out fun k o hk ho => a2 k o (fun e => own_neP HOW_8.out KZ_9_o (by decide) (by rw [← e]; exact hk)) ho)
          have KZ_12 := hid (a1)
          clear HBW_7 HOW_8 KZ_9 hu4_355 a1 a2 a3 a4
          clear KZ_9_o
          go_upto_region 7 with (fail)
          rw [← E5_355.out]
          clear z0 z1 z2 z3 zf0 zf1 zf2 zf3 hNMZ f0 f1 f2 f3
          obtain ⟨z0, z1, z2, z3⟩ := ncl4 (KZ_12.out)
          obtain ⟨w6, hw6, hb6, hs6, hl6⟩ := laid u4_355 #[.int .u64 ((x0 : Nat) : Int)] 29
          have HL6 := hid hl6
          have HO6 := hid (own_grow HOW_11.out hb6)
          have HB6 := hid (HBW_10.out.trans (hb6.mono HBW_10.out.size))
          have hV6 : w2_312.heap.size ≤ w6.heap.size := HB6.out.size
          have hk6 : k ≤ 1000000 := by omega
          clear hb6 hs6 hl6
          go_wp2_with ((with_reducible show wpList _ _ _ _ _ _); refine wp_append1 elemW rfl (.tmp 24) (.tmp 27) rfl w2_312.heap.size (.slice va k vc) k _ rfl HO6.out u4_355.heap.size [.int .u64 ((x0 : Nat) : Int)] rfl rfl ?c1 ?c2 hk6 hV6 ?c3)
          case c1 =>
            intro i u hi
            exact cell_laid HL6.out (by simpa using hi)
          case c2 => first | (intro u hu; simp at hu; subst hu; rfl) | rfl | exact hk6
          case c3 =>
            intro v' w7 hown' hb7 hg7
            obtain ⟨a', cap', rfl, -⟩ := Leads.of_own hown'
            have HO7 : Hid (w7.ownsRow w2_312.heap.size 29 1 (.slice a' (k + 1) cap') (k + 1) (wcells ((ks.map (·.1)).take (k + 1)))) := hid (by rw [HT.out, wcells_snoc]; exact hown')
            have HB7 := hid (HB6.out.trans hb7)
            clear hown' hb7 hg7
            go_wp2
            go_roundg (gk - 1)
            case measure => have := HK.out; omega
            case rel => exact ⟨k + 1, _, by have := HK.out; omega, by go_num, rfl, HO7, HB7⟩
        · have e := HK.out
          obtain rfl : k = m := by omega
          have HT : Hid ((ks.map (·.1)).take k = ks.map (·.1)) := hid (List.take_of_length_le (by rw [List.length_map, HM.out]; exact Nat.le_refl _))
          clear e HK
          go_wp2
          go_ret
          exact ⟨_, rfl, by have h1 := own_base ho.out HB_6.out.size; rw [HT.out] at h1; rw [HE.out, List.length_map, HM.out]; exact h1, HB_6.out.trans (hbw.out.mono HB_6.out.size)⟩
end Go.Proofs.YtmnbkhmphhgdiaaDoor
