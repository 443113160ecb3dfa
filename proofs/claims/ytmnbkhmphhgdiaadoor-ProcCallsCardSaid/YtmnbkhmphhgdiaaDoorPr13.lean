/- The document's Index, of, Runs, taken (printed by gen_pr13.py). -/
import Derived.Test.YtmnbkhmphhgdiaaDoorPrPlain3
namespace Go.Proofs.YtmnbkhmphhgdiaaDoor
open Go.RowKit Go.Shelf
open Go.Proofs
set_option linter.unusedVariables false
attribute [local go_sem] Oper.semAt_some
theorem rIndex_any (p : Nat) (V : World) (hp : p < 18446744073709551616) : Calls Tryd.prog 28 #[.int .u64 ((p : Nat) : Int)] V (Ret (.int .i64 ((p % 64 : Nat) : Int)) V) := by
  obtain ⟨q, hq⟩ : ∃ q, p % 64 = q := ⟨_, rfl⟩
  have hq64 : q < 64 := by omega
  have hm : ((p : Nat) : Int).tmod 64 = ((q : Nat) : Int) := by rw [← hq]; rfl
  rw [hq]
  clear hq
  go_enter Tryd.func28, Tryd.ntmps28
  go_wp2
  go_ret
  exact ⟨rfl, Below.refl _ _⟩
theorem rof_result {W : World} {b4 : Nat} {v4_0 v4_1 v4_2 v4_3 u5 : Value} {tmps : Array Value} (h4 : W.heap[b4]? = some (.cells #[v4_0, v4_1, v4_2, v4_3] 45 (0, 0))) (q4 : tmps[4]?.getD undef = .pointer (some ⟨b4, 0, none⟩)) (q5 : tmps[5]?.getD undef = u5) :
    (results Tryd.f45 tmps).run Tryd.prog W = .ok (.tuple #[.agg #[v4_0, v4_1, v4_2, v4_3], u5]) W := by
  have e4_0 := cell_laid (i := 0) (v := v4_0) h4 rfl
  have e4_1 := cell_laid (i := 1) (v := v4_1) h4 rfl
  have e4_2 := cell_laid (i := 2) (v := v4_2) h4 rfl
  have e4_3 := cell_laid (i := 3) (v := v4_3) h4 rfl
  simp [results, Tryd.results45, go_sem, e4_0, e4_1, e4_2, e4_3, q4, q5]
/-- The process of a pid, and whether there is one. -/
def findR (L : List Pr) (pid : Nat) : Pr × Bool := match findB L pid with
  | some x => (x, true)
  | none => ((0, 0, false, 0), false)
theorem findR_runs (L : List Pr) (pid : Nat) : ((findR L pid).2 && !(findR L pid).1.2.2.1) = runsB L pid := by
  unfold findR runsB
  cases findB L pid with
  | none => rfl
  | some x => rfl
theorem findB_at {L : List Pr} {pid k : Nat} {x : Pr} (hx : L[k]? = some x) (he : x.1 = pid) (h : ∀ y ∈ L.take k, y.1 ≠ pid) : findB L pid = some x := by
  have hk := (List.getElem?_eq_some_iff.1 hx).1
  have e : L = L.take k ++ x :: L.drop (k + 1) := by
    rw [← (List.getElem?_eq_some_iff.1 hx).2, List.getElem_cons_drop hk, List.take_append_drop]
  unfold findB
  rw [e, List.find?_append, List.find?_eq_none.2 (fun y hy => by simpa using h y hy), Option.none_or, List.find?_cons, decide_eq_true he]
set_option maxRecDepth 100000 in
set_option maxHeartbeats 4000000 in
theorem rOf_any (n c pid : Nat) (a : Option Addr) (L : List Pr) (V : World) (hl : Leads V a n c (prcells L)) (hn : L.length = n) (hn5 : n ≤ 1000) :
    Calls Tryd.prog 45 #[.slice a n c, .int .u64 ((pid : Nat) : Int)] V (Ret (.tuple #[prV (findR L pid).1, .bool (findR L pid).2]) V) := by
  obtain ⟨V1, hV1, hbV1, hsV1, hlV1⟩ := laid V #[.int .u64 0, .int .u64 0, .bool false, .int .u64 0] 45
  obtain ⟨Z, hZ⟩ : ∃ X, V.heap.size = X := ⟨_, rfl⟩
  rw [hZ] at hlV1
  have KZ := hid hlV1
  have HB := hid hbV1
  have hVZ : V.heap.size ≤ Z := by omega
  clear hbV1 hsV1 hlV1
  have HL := hid hl
  have HN := hid hn
  have hlen := hl.len
  obtain ⟨RV, hRV⟩ : ∃ r, findR L pid = r := ⟨_, rfl⟩
  rw [hRV]
  have HRV := hid hRV
  clear hl hn hRV
  go_enter Tryd.func45, Tryd.ntmps45
  go_wp2
  go_loopg [10, 7] n (fun g t10 t7 wr => ∃ (k : Nat) (v7 : Value), g + k = n ∧ t10 = .int .i64 ((k : Nat) : Int) ∧ t7 = v7 ∧ Hid (∀ y ∈ L.take k, y.1 ≠ pid) ∧ Hid (wr.heap[Z]? = some (.cells #[.int .u64 0, .int .u64 0, .bool false, .int .u64 0] 45 (0, 0))) ∧ Hid (Below V.heap.size V wr))
  case atStart => exact ⟨0, _, rfl, rfl, rfl, hid (by simp), KZ, HB⟩
  case round =>
    clear KZ HB hZ hV1
    obtain ⟨k, v7, hk, rfl, hv7, HA, KZ, HB⟩ := hrel
    subst hv7
    have HK := hid hk
    clear hk
    by_cases hlt : k < n
    · obtain ⟨⟨x0, x1, x2, x3⟩, hx⟩ : ∃ x, L[k]? = some x := ⟨_, List.getElem?_eq_getElem (by rw [HN.out]; exact hlt)⟩
      obtain ⟨b, off, rfl, -, hcx⟩ := HL.out.pr hlt hx
      obtain ⟨f0, f1, f2, f3⟩ := hcx wr HB.out
      have HX := hid hx
      dsimp only at f0 f1 f2 f3
      clear hcx hx
      obtain ⟨w1_69, hw1_69, hbn, hsn, hln⟩ := laid wr #[.int .u64 0, .int .u64 0, .bool false, .int .u64 0] 45
      obtain ⟨Y, hNMY⟩ : ∃ X, wr.heap.size = X := ⟨_, rfl⟩
      rw [hNMY] at hln
      have nZY : Z < Y := by have := lt_laid KZ.out; omega
      have hVY : V.heap.size ≤ Y := by have := HB.out.size; omega
      have KZ_1 := hid (keep_laid KZ.out hbn)
      have HB_2 := hid (HB.out.trans (hbn.mono HB.out.size))
      clear KZ HB hbn hsn
      have KY_3 := hid (hln)
      clear hln
      have KY_3_o := KY_3.out
      obtain ⟨u2_80, hu2_80, a1, a2, a3, a4⟩ := putN4 KY_3.out (.int .u64 ((x0 : Nat) : Int)) (.int .u64 ((x1 : Nat) : Int)) (.bool x2) (.int .u64 ((x3 : Nat) : Int))
      obtain ⟨z0, zf0, z1, zf1, z2, zf2, z3, zf3⟩ := fcl4 (KY_3.out)
      have E3_80 := hid hu2_80
      have KZ_4 := hid (a2 Z _ (by omega) KZ_1.out)
      have HB_5 := hid (a3 _ _ (by omega) HB_2.out)
      have KY_6 := hid (a1)
      clear KZ_1 HB_2 KY_3 hu2_80 a1 a2 a3 a4
      clear KY_3_o
      go_upto_region 4 with (fail)
      rw [← E3_80.out]
      clear z0 z1 z2 z3 zf0 zf1 zf2 zf3 hNMY hw1_69 f0 f1 f2 f3
      obtain ⟨f0, f1, f2, f3⟩ := ncl4 (KY_6.out)
      by_cases he : x0 = pid
      · have te : (((x0 : Nat) : Int) == ((pid : Nat) : Int)) = true := by simp; omega
        have HE : Hid (RV = ((x0, x1, x2, x3), true)) := hid (by rw [← HRV.out]; unfold findR; rw [findB_at HX.out he HA.out])
        clear he
        have KZ_4_o := KZ_4.out
        obtain ⟨u4_97, hu4_97, a1, a2, a3, a4⟩ := putN4 KZ_4.out (.int .u64 ((x0 : Nat) : Int)) (.int .u64 ((x1 : Nat) : Int)) (.bool x2) (.int .u64 ((x3 : Nat) : Int))
        obtain ⟨z0, zf0, z1, zf1, z2, zf2, z3, zf3⟩ := fcl4 (KZ_4.out)
        have E5_97 := hid hu4_97
        have KZ_7 := hid (a1)
        have HB_8 := hid (a3 _ _ (by omega) HB_5.out)
        have KY_9 := hid (a2 Y _ (by omega) KY_6.out)
        clear KZ_4 HB_5 KY_6 hu4_97 a1 a2 a3 a4
        clear KZ_4_o
        go_wp2
        rw [← E5_97.out]
        refine bodyPost_ret (rof_result KZ_7.out rfl rfl) rfl ⟨?_, HB_8.out⟩
        rw [HE.out]
        rfl
      · have te : (((x0 : Nat) : Int) == ((pid : Nat) : Int)) = false := by simp; omega
        have HT : Hid (∀ y ∈ L.take (k + 1), y.1 ≠ pid) := hid (by
          intro y hy
          rw [take_pr HX.out, List.mem_append, List.mem_singleton] at hy
          rcases hy with hy | rfl
          · exact HA.out y hy
          · exact he)
        clear he f1 f2 f3
        go_wp2
        go_roundg (gk - 1)
        case measure => have := HK.out; omega
        case rel => exact ⟨k + 1, _, by have := HK.out; omega, by go_num, rfl, HT, KZ_4, HB_5⟩
    · have hkn : k = n := by have := HK.out; omega
      have HE : Hid (RV = ((0, 0, false, 0), false)) := hid (by
        rw [← HRV.out]
        unfold findR
        have hf : findB L pid = none := List.find?_eq_none.2 (fun y hy => by
          have := HA.out y (by rw [List.take_of_length_le (by rw [HN.out]; omega)]; exact hy)
          simpa using this)
        rw [hf])
      have KZ_o := KZ.out
      obtain ⟨u1_131, hu1_131, a1, a2, a3, a4⟩ := putN4 KZ.out (.int .u64 0) (.int .u64 0) (.bool false) (.int .u64 0)
      obtain ⟨z0, zf0, z1, zf1, z2, zf2, z3, zf3⟩ := fcl4 (KZ.out)
      have E2_131 := hid hu1_131
      have KZ_1 := hid (a1)
      have HB_2 := hid (a3 _ _ (by omega) HB.out)
      clear KZ HB hu1_131 a1 a2 a3 a4
      clear KZ_o
      go_wp2
      rw [← E2_131.out]
      refine bodyPost_ret (rof_result KZ_1.out rfl rfl) rfl ⟨?_, HB_2.out⟩
      rw [HE.out]
      rfl
set_option maxRecDepth 100000 in
theorem rRuns_any (n c pid : Nat) (a : Option Addr) (L : List Pr) (V : World) (hl : Leads V a n c (prcells L)) (hn : L.length = n) (hn5 : n ≤ 1000) :
    Calls Tryd.prog 34 #[.slice a n c, .int .u64 ((pid : Nat) : Int)] V (Ret (.bool (runsB L pid)) V) := by
  have HFI := hid (rOf_any n c pid a L V hl hn hn5)
  have HE := hid (findR_runs L pid)
  obtain ⟨⟨⟨y0, y1, y2, y3⟩, y4⟩, hRV⟩ : ∃ r, findR L pid = r := ⟨_, rfl⟩
  rw [hRV] at HFI HE
  dsimp only at HFI HE
  unfold prV at HFI
  have HB := hid (Below.refl V.heap.size V)
  clear hl hn hRV
  go_enter Tryd.func34, Tryd.ntmps34
  go_wp2_with fail
  refine (HFI.out).mono ?_
  rintro e w1_155 ⟨rfl, hbn⟩
  have HB_1 := hid (HB.out.trans (hbn.mono HB.out.size))
  clear HB hbn HFI
  obtain ⟨w2_160, hw2_160, hbn, hsn, hln⟩ := laid w1_155 #[.int .u64 0, .int .u64 0, .bool false, .int .u64 0] 45
  obtain ⟨Z, hNMZ⟩ : ∃ X, w1_155.heap.size = X := ⟨_, rfl⟩
  rw [hNMZ] at hln
  have hVZ : V.heap.size ≤ Z := by have := HB_1.out.size; omega
  have HB_2 := hid (HB_1.out.trans (hbn.mono HB_1.out.size))
  clear HB_1 hbn hsn
  have KZ_3 := hid (hln)
  clear hln
  have KZ_3_o := KZ_3.out
  obtain ⟨u3_169, hu3_169, a1, a2, a3, a4⟩ := putN4 KZ_3.out (.int .u64 ((y0 : Nat) : Int)) (.int .u64 ((y1 : Nat) : Int)) (.bool y2) (.int .u64 ((y3 : Nat) : Int))
  obtain ⟨z0, zf0, z1, zf1, z2, zf2, z3, zf3⟩ := fcl4 (KZ_3.out)
  have E4_169 := hid hu3_169
  have HB_4 := hid (a3 _ _ (by omega) HB_2.out)
  have KZ_5 := hid (a1)
  clear HB_2 KZ_3 hu3_169 a1 a2 a3 a4
  clear KZ_3_o
  go_upto_region 2 with (fail)
  rw [← E4_169.out]
  clear z0 z1 z2 z3 zf0 zf1 zf2 zf3 hNMZ hw2_160
  obtain ⟨z0, z1, z2, z3⟩ := ncl4 (KZ_5.out)
  cases y4 with
  | false =>
    go_wp2
    go_ret
    exact ⟨retb HE.out, HB_4.out⟩
  | true =>
    go_wp2
    go_ret
    exact ⟨retb HE.out, HB_4.out⟩
set_option maxRecDepth 100000 in
set_option maxHeartbeats 4000000 in
theorem rTaken_any (n c i : Nat) (a : Option Addr) (L : List Pr) (V : World) (hl : Leads V a n c (prcells L)) (hn : L.length = n) (hn5 : n ≤ 1000) (hL : PrsOk L) (hi : i ≤ 1000) :
    Calls Tryd.prog 35 #[.slice a n c, .int .i64 ((i : Nat) : Int)] V (Ret (.bool (L.any fun x => decide (x.1 % 64 = i))) V) := by
  have HL := hid hl
  have HN := hid hn
  have HPL := hid hL
  have hlen := hl.len
  have HB := hid (Below.refl V.heap.size V)
  obtain ⟨RV, hRV⟩ : ∃ r, (L.any fun x => decide (x.1 % 64 = i)) = r := ⟨_, rfl⟩
  rw [hRV]
  have HRV := hid hRV
  clear hl hn hL hRV
  go_enter Tryd.func35, Tryd.ntmps35
  go_wp2
  go_loopg [9, 6] n (fun g t9 t6 wr => ∃ (k : Nat) (v6 : Value), g + k = n ∧ t9 = .int .i64 ((k : Nat) : Int) ∧ t6 = v6 ∧ Hid (∀ y ∈ L.take k, y.1 % 64 ≠ i) ∧ Hid (Below V.heap.size V wr))
  case atStart => exact ⟨0, _, rfl, rfl, rfl, hid (by simp), HB⟩
  case round =>
    clear HB
    obtain ⟨k, v6, hk, rfl, hv6, HA, HB⟩ := hrel
    subst hv6
    have HK := hid hk
    clear hk
    by_cases hlt : k < n
    · obtain ⟨⟨x0, x1, x2, x3⟩, hx⟩ : ∃ x, L[k]? = some x := ⟨_, List.getElem?_eq_getElem (by rw [HN.out]; exact hlt)⟩
      obtain ⟨b, off, rfl, -, hcx⟩ := HL.out.pr hlt hx
      obtain ⟨f0, f1, f2, f3⟩ := hcx wr HB.out
      have HX := hid hx
      dsimp only at f0 f1 f2 f3
      clear hcx hx
      obtain ⟨w1_220, hw1_220, hbn, hsn, hln⟩ := laid wr #[.int .u64 0, .int .u64 0, .bool false, .int .u64 0] 45
      obtain ⟨Y, hNMY⟩ : ∃ X, wr.heap.size = X := ⟨_, rfl⟩
      rw [hNMY] at hln
      have hVY : V.heap.size ≤ Y := by have := HB.out.size; omega
      have HB_1 := hid (HB.out.trans (hbn.mono HB.out.size))
      clear HB hbn hsn
      have KY_2 := hid (hln)
      clear hln
      have KY_2_o := KY_2.out
      obtain ⟨u2_229, hu2_229, a1, a2, a3, a4⟩ := putN4 KY_2.out (.int .u64 ((x0 : Nat) : Int)) (.int .u64 ((x1 : Nat) : Int)) (.bool x2) (.int .u64 ((x3 : Nat) : Int))
      obtain ⟨z0, zf0, z1, zf1, z2, zf2, z3, zf3⟩ := fcl4 (KY_2.out)
      have E3_229 := hid hu2_229
      have HB_3 := hid (a3 _ _ (by omega) HB_1.out)
      have KY_4 := hid (a1)
      clear HB_1 KY_2 hu2_229 a1 a2 a3 a4
      clear KY_2_o
      go_upto_region 4 with (fail)
      rw [← E3_229.out]
      clear z0 z1 z2 z3 zf0 zf1 zf2 zf3 hNMY hw1_220 f0 f1 f2 f3
      obtain ⟨f0, f1, f2, f3⟩ := ncl4 (KY_4.out)
      clear f1 f2 f3
      have HIX := hid (rIndex_any x0 u2_229 (HPL.out _ (List.mem_of_getElem? HX.out)).1)
      obtain ⟨r, hr⟩ : ∃ r, x0 % 64 = r := ⟨_, rfl⟩
      rw [hr] at HIX
      have HR := hid hr
      clear hr
      go_wp2_with fail
      refine (HIX.out).mono ?_
      rintro e w4_246 ⟨rfl, hbn⟩
      have HB_5 := hid (HB_3.out.trans (hbn.mono HB_3.out.size))
      have KY_6 := hid (keep_laid KY_4.out hbn)
      clear HB_3 KY_4 hbn HIX f0
      by_cases he : r = i
      · have te : (((r : Nat) : Int) == ((i : Nat) : Int)) = true := by simp; omega
        have HE : Hid (true = RV) := hid (by rw [← HRV.out]; exact (List.any_eq_true.2 ⟨_, List.mem_of_getElem? HX.out, by simp [HR.out, he]⟩).symm)
        clear he
        go_wp2
        go_ret
        exact ⟨retb HE.out, HB_5.out⟩
      · have te : (((r : Nat) : Int) == ((i : Nat) : Int)) = false := by simp; omega
        have HT : Hid (∀ y ∈ L.take (k + 1), y.1 % 64 ≠ i) := hid (by
          intro y hy
          rw [take_pr HX.out, List.mem_append, List.mem_singleton] at hy
          rcases hy with hy | rfl
          · exact HA.out y hy
          · show x0 % 64 ≠ i
            rw [HR.out]
            exact he)
        clear he
        go_wp2
        go_roundg (gk - 1)
        case measure => have := HK.out; omega
        case rel => exact ⟨k + 1, _, by have := HK.out; omega, by go_num, rfl, HT, HB_5⟩
    · have hkn : k = n := by have := HK.out; omega
      have HE : Hid (false = RV) := hid (by
        rw [← HRV.out]
        refine (List.any_eq_false.2 fun y hy => ?_).symm
        have := HA.out y (by rw [List.take_of_length_le (by rw [HN.out]; omega)]; exact hy)
        simpa using this)
      go_wp2
      go_ret
      exact ⟨retb HE.out, HB.out⟩
end Go.Proofs.YtmnbkhmphhgdiaaDoor
