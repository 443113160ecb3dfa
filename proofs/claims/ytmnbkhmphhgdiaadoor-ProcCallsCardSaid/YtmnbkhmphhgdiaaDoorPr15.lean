/- The document's Same and put; the law's spoil (printed by gen_pr15.py). -/
import Derived.Test.YtmnbkhmphhgdiaaDoorPr14
import Derived.Test.YtmnbkhmphhgdiaaDoorGuard
namespace Go.Proofs.YtmnbkhmphhgdiaaDoor
open Go.RowKit Go.Shelf
open Go.Proofs
set_option linter.unusedVariables false
attribute [local go_sem] Oper.semAt_some
/-- Are they the same? -/
def sameB (G H : Nat → Int) (L K : List Pr) : Bool := gEq G H && decide (L = K)
set_option maxRecDepth 100000 in
set_option maxHeartbeats 16000000 in
theorem rSame_any (n c n' c' : Nat) (a a' : Option Addr) (G H : Nat → Int) (L K : List Pr) (V : World) (hl : Leads V a n c (prcells L)) (hn : L.length = n) (hl' : Leads V a' n' c' (prcells K)) (hn' : K.length = n') (hn5 : n ≤ 1000 ∧ n' ≤ 1000) (hG : GOk G) (hH : GOk H) (hL : PrsOk L) (hK : PrsOk K) :
    Calls Tryd.prog 16 #[.agg #[.int .i64 (G 0), .int .i64 (G 1), .int .i64 (G 2), .int .i64 (G 3), .int .i64 (G 4), .int .i64 (G 5), .int .i64 (G 6), .int .i64 (G 7), .int .i64 (G 8), .int .i64 (G 9), .int .i64 (G 10), .int .i64 (G 11), .int .i64 (G 12), .int .i64 (G 13), .int .i64 (G 14), .int .i64 (G 15), .slice a n c], .agg #[.int .i64 (H 0), .int .i64 (H 1), .int .i64 (H 2), .int .i64 (H 3), .int .i64 (H 4), .int .i64 (H 5), .int .i64 (H 6), .int .i64 (H 7), .int .i64 (H 8), .int .i64 (H 9), .int .i64 (H 10), .int .i64 (H 11), .int .i64 (H 12), .int .i64 (H 13), .int .i64 (H 14), .int .i64 (H 15), .slice a' n' c']] V (Ret (.bool (sameB G H L K)) V) := by
  obtain ⟨V1, hV1, hbV1, hsV1, hlV1⟩ := laid V #[.int .i64 (G 0), .int .i64 (G 1), .int .i64 (G 2), .int .i64 (G 3), .int .i64 (G 4), .int .i64 (G 5), .int .i64 (G 6), .int .i64 (G 7), .int .i64 (G 8), .int .i64 (G 9), .int .i64 (G 10), .int .i64 (G 11), .int .i64 (G 12), .int .i64 (G 13), .int .i64 (G 14), .int .i64 (G 15), .slice a n c] 25
  obtain ⟨V2, hV2, hbV2, hsV2, hlV2⟩ := laid V1 #[.int .i64 (H 0), .int .i64 (H 1), .int .i64 (H 2), .int .i64 (H 3), .int .i64 (H 4), .int .i64 (H 5), .int .i64 (H 6), .int .i64 (H 7), .int .i64 (H 8), .int .i64 (H 9), .int .i64 (H 10), .int .i64 (H 11), .int .i64 (H 12), .int .i64 (H 13), .int .i64 (H 14), .int .i64 (H 15), .slice a' n' c'] 25
  obtain ⟨X2, hX2⟩ : ∃ X, V.heap.size = X := ⟨_, rfl⟩
  rw [hX2] at hlV1
  obtain ⟨X3, hX3⟩ : ∃ X, V1.heap.size = X := ⟨_, rfl⟩
  rw [hX3] at hlV2
  have KX2 := hid (keep_laid hlV1 hbV2)
  have KX3 := hid hlV2
  have HB := hid (step hbV1 hbV2)
  have hVX2 : V.heap.size ≤ X2 := by omega
  have hVX3 : V.heap.size ≤ X3 := by omega
  have nX2X3 : X2 < X3 := by omega
  clear hbV1 hsV1 hlV1 hbV2 hsV2 hlV2
  have HL := hid hl
  have HL2 := hid hl'
  have HN := hid hn
  have HN2 := hid hn'
  have HPL := hid hL
  have HPK := hid hK
  have hlen := hl.len
  have hlen' := hl'.len
  have hge := gens_eq G H hG hH
  obtain ⟨GB, hGB⟩ : ∃ b, gEq G H = b := ⟨_, rfl⟩
  rw [hGB] at hge
  obtain ⟨RV, hRV⟩ : ∃ r, sameB G H L K = r := ⟨_, rfl⟩
  rw [hRV]
  have HRV : Hid (RV = (GB && decide (L = K))) := hid (by rw [← hRV, ← hGB]; rfl)
  clear hl hn hl' hn' hG hH hL hK hRV hGB
  go_enter Tryd.func16, Tryd.ntmps16
  obtain ⟨x0, x1, x2, x3, x4, x5, x6, x7, x8, x9, x10, x11, x12, x13, x14, x15, x16⟩ := ncl17 (KX2.out)
  obtain ⟨y0, y1, y2, y3, y4, y5, y6, y7, y8, y9, y10, y11, y12, y13, y14, y15, y16⟩ := ncl17 (KX3.out)
  cases GB with
  | false =>
    have HE : Hid (false = RV) := hid (by rw [HRV.out]; rfl)
    go_wp2
    go_ret
    exact ⟨retb HE.out, HB.out⟩
  | true =>
    by_cases hnn : n = n'
    · have u1 : (((n : Nat) : Int) != ((n' : Nat) : Int)) = false := by simp; omega
      have HNN := hid hnn
      clear hnn
      go_wp2
      clear hge hX2 hX3 hV1 hV2 x0 x1 x2 x3 x4 x5 x6 x7 x8 x9 x10 x11 x12 x13 x14 x15 x16 y0 y1 y2 y3 y4 y5 y6 y7 y8 y9 y10 y11 y12 y13 y14 y15 y16
      go_loopg [24, 5, 6] n (fun g t24 t5 t6 wr => ∃ (k : Nat) (v5 v6 : Value), g + k = n ∧ t24 = .int .i64 ((k : Nat) : Int) ∧ t5 = v5 ∧ t6 = v6 ∧ Hid (L.take k = K.take k) ∧ Hid (wr.heap[X2]? = some (.cells #[.int .i64 (G 0), .int .i64 (G 1), .int .i64 (G 2), .int .i64 (G 3), .int .i64 (G 4), .int .i64 (G 5), .int .i64 (G 6), .int .i64 (G 7), .int .i64 (G 8), .int .i64 (G 9), .int .i64 (G 10), .int .i64 (G 11), .int .i64 (G 12), .int .i64 (G 13), .int .i64 (G 14), .int .i64 (G 15), .slice a n c] 25 (0, 0))) ∧ Hid (wr.heap[X3]? = some (.cells #[.int .i64 (H 0), .int .i64 (H 1), .int .i64 (H 2), .int .i64 (H 3), .int .i64 (H 4), .int .i64 (H 5), .int .i64 (H 6), .int .i64 (H 7), .int .i64 (H 8), .int .i64 (H 9), .int .i64 (H 10), .int .i64 (H 11), .int .i64 (H 12), .int .i64 (H 13), .int .i64 (H 14), .int .i64 (H 15), .slice a' n' c'] 25 (0, 0))) ∧ Hid (Below V.heap.size V wr))
      case atStart => exact ⟨0, _, _, rfl, rfl, rfl, rfl, hid rfl, KX2, KX3, HB⟩
      case round =>
        clear KX2 KX3 HB
        obtain ⟨k, v5, v6, hk, rfl, hv5, hv6, HA, KX2, KX3, HB⟩ := hrel
        subst hv5 hv6
        have HJ := hid hk
        clear hk
        by_cases hlt : k < n
        · obtain ⟨⟨x0, x1, x2, x3⟩, hx⟩ : ∃ x, L[k]? = some x := ⟨_, List.getElem?_eq_getElem (by rw [HN.out]; exact hlt)⟩
          obtain ⟨⟨y0, y1, y2, y3⟩, hy⟩ : ∃ x, K[k]? = some x := ⟨_, List.getElem?_eq_getElem (by rw [HN2.out]; have := HNN.out; omega)⟩
          have hlt' : k < n' := by have := HNN.out; omega
          obtain ⟨b, off, rfl, -, hcx⟩ := HL.out.pr hlt hx
          obtain ⟨b', off', rfl, -, hcy⟩ := HL2.out.pr hlt' hy
          obtain ⟨f0, f1, f2, f3⟩ := hcx wr HB.out
          have HX := hid hx
          have HY := hid hy
          have HCY := hid hcy
          obtain ⟨q1, q2, q3⟩ := HPL.out _ (List.mem_of_getElem? hx)
          obtain ⟨r1, r2, r3⟩ := HPK.out _ (List.mem_of_getElem? hy)
          have hpe : ∀ w, (Op.equalIn 10000 45 (.agg #[.int .u64 ((x0 : Nat) : Int), .int .u64 ((x1 : Nat) : Int), .bool x2, .int .u64 ((x3 : Nat) : Int)]) (.agg #[.int .u64 ((y0 : Nat) : Int), .int .u64 ((y1 : Nat) : Int), .bool y2, .int .u64 ((y3 : Nat) : Int)])).run Tryd.prog w = .ok (decide ((x0, x1, x2, x3) = (y0, y1, y2, y3))) w := fun w => pr_eq x0 x1 x3 y0 y1 y3 x2 y2 ⟨q1, q2, q3⟩ ⟨r1, r2, r3⟩ w
          dsimp only at f0 f1 f2 f3
          clear hcx hcy hx hy q1 q2 q3 r1 r2 r3
          obtain ⟨w1_75, hw1_75, hbn, hsn, hln⟩ := laid wr #[.int .u64 0, .int .u64 0, .bool false, .int .u64 0] 45
          obtain ⟨X6, hNMX6⟩ : ∃ X, wr.heap.size = X := ⟨_, rfl⟩
          rw [hNMX6] at hln
          have nX2X6 : X2 < X6 := by have := lt_laid KX2.out; omega
          have nX3X6 : X3 < X6 := by have := lt_laid KX3.out; omega
          have hVX6 : V.heap.size ≤ X6 := by have := HB.out.size; omega
          have KX2_1 := hid (keep_laid KX2.out hbn)
          have KX3_2 := hid (keep_laid KX3.out hbn)
          have HB_3 := hid (HB.out.trans (hbn.mono HB.out.size))
          clear KX2 KX3 HB hbn hsn
          have KX6_4 := hid (hln)
          clear hln
          have KX6_4_o := KX6_4.out
          obtain ⟨u2_88, hu2_88, a1, a2, a3, a4⟩ := putN4 KX6_4.out (.int .u64 ((x0 : Nat) : Int)) (.int .u64 ((x1 : Nat) : Int)) (.bool x2) (.int .u64 ((x3 : Nat) : Int))
          obtain ⟨z0, zf0, z1, zf1, z2, zf2, z3, zf3⟩ := fcl4 (KX6_4.out)
          have E3_88 := hid hu2_88
          have KX2_5 := hid (a2 X2 _ (by omega) KX2_1.out)
          have KX3_6 := hid (a2 X3 _ (by omega) KX3_2.out)
          have HB_7 := hid (a3 _ _ (by omega) HB_3.out)
          have KX6_8 := hid (a1)
          clear KX2_1 KX3_2 HB_3 KX6_4 hu2_88 a1 a2 a3 a4
          clear KX6_4_o
          go_upto_region 6 with (fail)
          rw [← E3_88.out]
          clear z0 z1 z2 z3 zf0 zf1 zf2 zf3 hNMX6 hw1_75 f0 f1 f2 f3
          have g0 : ∀ z : Ext u2_88, z.v.cell? ⟨X6, 0, none⟩ = some (.int .u64 ((x0 : Nat) : Int)) := fun z => cell_laid (keep_laid KX6_8.out z.b) rfl
          have g1 : ∀ z : Ext u2_88, z.v.cell? ⟨X6, 1, none⟩ = some (.int .u64 ((x1 : Nat) : Int)) := fun z => cell_laid (keep_laid KX6_8.out z.b) rfl
          have g2 : ∀ z : Ext u2_88, z.v.cell? ⟨X6, 2, none⟩ = some (.bool x2) := fun z => cell_laid (keep_laid KX6_8.out z.b) rfl
          have g3 : ∀ z : Ext u2_88, z.v.cell? ⟨X6, 3, none⟩ = some (.int .u64 ((x3 : Nat) : Int)) := fun z => cell_laid (keep_laid KX6_8.out z.b) rfl
          have g16 : ∀ z : Ext u2_88, z.v.cell? ⟨X3, 16, none⟩ = some (.slice (some ⟨b', off', none⟩) n' c') := fun z => cell_laid (keep_laid KX3_6.out z.b) rfl
          have p0 : ∀ z : Ext u2_88, z.v.cell? ⟨b', off' + k * 4, none⟩ = some (.int .u64 ((y0 : Nat) : Int)) := fun z => (HCY.out z.v (HB_7.out.trans (z.b.mono HB_7.out.size))).1
          have p1 : ∀ z : Ext u2_88, z.v.cell? ⟨b', off' + k * 4 + 1, none⟩ = some (.int .u64 ((y1 : Nat) : Int)) := fun z => (HCY.out z.v (HB_7.out.trans (z.b.mono HB_7.out.size))).2.1
          have p2 : ∀ z : Ext u2_88, z.v.cell? ⟨b', off' + k * 4 + 2, none⟩ = some (.bool y2) := fun z => (HCY.out z.v (HB_7.out.trans (z.b.mono HB_7.out.size))).2.2.1
          have p3 : ∀ z : Ext u2_88, z.v.cell? ⟨b', off' + k * 4 + 3, none⟩ = some (.int .u64 ((y3 : Nat) : Int)) := fun z => (HCY.out z.v (HB_7.out.trans (z.b.mono HB_7.out.size))).2.2.2
          by_cases he : (x0, x1, x2, x3) = (y0, y1, y2, y3)
          · have HE : Hid (L.take (k + 1) = K.take (k + 1)) := hid (eq_take L K k _ _ HA.out HX.out HY.out he)
            simp only [decide_eq_true he] at hpe
            clear he
            refine wp_region_ext (by kernel_rfl) (by kernel_rfl) ?_
            repeat (go_big_quiet_step (fail))
            refine wpQuiet_nil ?_
            rintro _ ⟨⟨wz, hbn⟩, rfl⟩
            have KX2_9 := hid (keep_laid KX2_5.out hbn)
            have KX3_10 := hid (keep_laid KX3_6.out hbn)
            have HB_11 := hid (HB_7.out.trans (hbn.mono HB_7.out.size))
            have KX6_12 := hid (keep_laid KX6_8.out hbn)
            clear KX2_5 KX3_6 HB_7 KX6_8 hbn g0 g1 g2 g3 g16 p0 p1 p2 p3 hpe
            go_wp2
            go_roundg (gk - 1)
            case measure => have := HJ.out; omega
            case rel => exact ⟨k + 1, _, _, by have := HJ.out; omega, by go_num, rfl, rfl, HE, KX2_9, KX3_10, HB_11⟩
          · have HE : Hid (false = RV) := hid (by rw [HRV.out, decide_eq_false (ne_at L K k _ _ HX.out HY.out he)]; rfl)
            simp only [decide_eq_false he] at hpe
            clear he
            refine wp_region_ext (by kernel_rfl) (by kernel_rfl) ?_
            repeat (go_big_quiet_step (fail))
            refine wpQuiet_nil ?_
            rintro _ ⟨⟨wz, hbn⟩, rfl⟩
            have KX2_9 := hid (keep_laid KX2_5.out hbn)
            have KX3_10 := hid (keep_laid KX3_6.out hbn)
            have HB_11 := hid (HB_7.out.trans (hbn.mono HB_7.out.size))
            have KX6_12 := hid (keep_laid KX6_8.out hbn)
            clear KX2_5 KX3_6 HB_7 KX6_8 hbn g0 g1 g2 g3 g16 p0 p1 p2 p3 hpe
            go_wp2
            go_ret
            exact ⟨retb HE.out, HB_11.out⟩
        · have hkn : k = n := by have := HJ.out; omega
          have HE : Hid (true = RV) := hid (by
            have := HA.out
            rw [List.take_of_length_le (by rw [HN.out]; omega), List.take_of_length_le (by rw [HN2.out]; have := HNN.out; omega)] at this
            rw [HRV.out, decide_eq_true this]
            rfl)
          go_wp2
          go_ret
          exact ⟨retb HE.out, HB.out⟩
    · have u1 : (((n : Nat) : Int) != ((n' : Nat) : Int)) = true := by simp; omega
      have HE : Hid (false = RV) := hid (by rw [HRV.out, decide_eq_false (fun h => hnn (by rw [← HN.out, ← HN2.out, h]))]; rfl)
      go_wp2
      go_ret
      exact ⟨retb HE.out, HB.out⟩
end Go.Proofs.YtmnbkhmphhgdiaaDoor
