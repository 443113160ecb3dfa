/- The document's put (printed by gen_pr16.py). -/
import Derived.Test.YtmnbkhmphhgdiaaDoorPr15
namespace Go.Proofs.YtmnbkhmphhgdiaaDoor
open Go.RowKit Go.Shelf
open Go.Proofs
set_option linter.unusedVariables false
attribute [local go_sem] Oper.semAt_some
theorem below_block {B : Nat} {w w' : World} {k : Nat} {o : Obj} (h : Below B w w') (hk : k < B) (ho : w.heap[k]? = some o) : w'.heap[k]? = some o := (h.block k hk).trans ho
/-- The document's row with one more. -/
def insR (L : List Pr) (x : Pr) : List Pr := (L.filter (fun y => decide (y.1 % 64 < x.1 % 64)) ++ [x]) ++ L.filter (fun y => decide (x.1 % 64 < y.1 % 64))
theorem filter_hit {q : Pr → Bool} {L : List Pr} {k : Nat} {x : Pr} (h : L[k]? = some x) (hq : q x = true) : (L.take (k + 1)).filter q = (L.take k).filter q ++ [x] := by
  rw [take_pr h, List.filter_append, List.filter_cons, if_pos hq]
  rfl
theorem filter_miss {q : Pr → Bool} {L : List Pr} {k : Nat} {x : Pr} (h : L[k]? = some x) (hq : q x = false) : (L.take (k + 1)).filter q = (L.take k).filter q := by
  rw [take_pr h, List.filter_append, List.filter_cons, if_neg (by rw [hq]; decide), List.filter_nil, List.append_nil]
set_option maxRecDepth 100000 in
set_option maxHeartbeats 16000000 in
theorem rPut_any (n c : Nat) (a : Option Addr) (L : List Pr) (p0 p1 : Nat) (p2 : Bool) (p3 : Nat) (V : World) (hl : Leads V a n c (prcells L)) (hn : L.length = n) (hn5 : n ≤ 1000) (hL : PrsOk L) (hp : p0 < 18446744073709551616) :
    Calls Tryd.prog 36 #[.slice a n c, .agg #[.int .u64 ((p0 : Nat) : Int), .int .u64 ((p1 : Nat) : Int), .bool p2, .int .u64 ((p3 : Nat) : Int)]] V (GivesPr (insR L (p0, p1, p2, p3)) V) := by
  obtain ⟨V1, hV1, hbV1, hsV1, hlV1⟩ := laid V #[.int .u64 ((p0 : Nat) : Int), .int .u64 ((p1 : Nat) : Int), .bool p2, .int .u64 ((p3 : Nat) : Int)] 45
  obtain ⟨X3, hX3⟩ : ∃ X, V.heap.size = X := ⟨_, rfl⟩
  rw [hX3] at hlV1
  have KX3 := hid hlV1
  have HB := hid hbV1
  have hVX3 : V.heap.size ≤ X3 := by omega
  clear hbV1 hsV1 hlV1
  have HL := hid hl
  have HN := hid hn
  have HPL := hid hL
  have hlen := hl.len
  obtain ⟨B0, hB0⟩ : ∃ b, V1.heap.size = b := ⟨_, rfl⟩
  have hX3B : X3 < B0 := by have := lt_laid KX3.out; omega
  have hVB : V.heap.size ≤ B0 := by have := HB.out.size; omega
  have HB0 := hid hB0
  obtain ⟨pm, hpm⟩ : ∃ m, p0 % 64 = m := ⟨_, rfl⟩
  have HPM := hid hpm
  have hpm64 : pm < 64 := by omega
  have HPI := fun W => rIndex_any p0 W hp
  rw [hpm] at HPI
  obtain ⟨Q1, hQ1⟩ : ∃ q : Pr → Bool, q = (fun y => decide (y.1 % 64 < p0 % 64)) := ⟨_, rfl⟩
  obtain ⟨Q2, hQ2⟩ : ∃ q : Pr → Bool, q = (fun y => decide (p0 % 64 < y.1 % 64)) := ⟨_, rfl⟩
  have HQ1 : Hid (∀ y, Q1 y = decide (y.1 % 64 < pm)) := hid (fun y => by rw [hQ1, hpm])
  have HQ2 : Hid (∀ y, Q2 y = decide (pm < y.1 % 64)) := hid (fun y => by rw [hQ2, hpm])
  have HIN : Hid (insR L (p0, p1, p2, p3) = (L.filter Q1 ++ [(p0, p1, p2, p3)]) ++ L.filter Q2) := hid (by rw [hQ1, hQ2]; rfl)
  clear hl hn hL hpm hB0 hQ1 hQ2
  go_enter Tryd.func36, Tryd.ntmps36
  go_wp2
  clear hX3 hV1
  go_loopg [12, 7, 5] n (fun g ti tb t5 wr => ∃ (k m : Nat) (vb v5 : Value), g + k = n ∧ ti = .int .i64 ((k : Nat) : Int) ∧ tb = vb ∧ t5 = v5 ∧ m ≤ 0 + k ∧ Hid (((L.take k).filter Q1).length = m) ∧ Hid (wr.ownsRow B0 45 4 v5 m (prcells ((L.take k).filter Q1))) ∧ Hid (wr.heap[X3]? = some (.cells #[.int .u64 ((p0 : Nat) : Int), .int .u64 ((p1 : Nat) : Int), .bool p2, .int .u64 ((p3 : Nat) : Int)] 45 (0, 0))) ∧ Hid (Below V.heap.size V wr) ∧ B0 ≤ wr.heap.size)
  case atStart => exact ⟨0, 0, _, _, rfl, rfl, rfl, rfl, Nat.le_refl _, hid rfl, hid (World.ownsRow_nil _ _ _ _), KX3, HB, Nat.le_of_eq HB0.out.symm⟩
  case round =>
    clear KX3 HB
    obtain ⟨k, m, vb, v5, hk, rfl, hvb, hv5, hmk, HM, HRO, KX3, HB, hBw⟩ := hrel
    obtain ⟨va, vc, rfl, -⟩ := Leads.of_own HRO.out
    have hlm := (Leads.of_own1 HRO.out).len
    subst hvb hv5
    have HK := hid hk
    clear hk
    by_cases hlt : k < n
    · obtain ⟨⟨x0, x1, x2, x3⟩, hx⟩ : ∃ x, L[k]? = some x := ⟨_, List.getElem?_eq_getElem (by rw [HN.out]; exact hlt)⟩
      obtain ⟨b, off, rfl, -, hcx⟩ := HL.out.pr hlt hx
      obtain ⟨f0, f1, f2, f3⟩ := hcx wr HB.out
      have HX := hid hx
      have hx0b : x0 < 18446744073709551616 := (HPL.out _ (List.mem_of_getElem? hx)).1
      dsimp only at f0 f1 f2 f3
      clear hcx hx
      have LTX7_HRO := hid (fun k hk => own_lt HRO.out k hk)
      obtain ⟨w1_62, hw1_62, hbn, hsn, hln⟩ := laid wr #[.int .u64 0, .int .u64 0, .bool false, .int .u64 0] 45
      obtain ⟨X7, hNMX7⟩ : ∃ X, wr.heap.size = X := ⟨_, rfl⟩
      rw [hNMX7] at hln
      have nX3X7 : X3 < X7 := by have := lt_laid KX3.out; omega
      have hVX7 : V.heap.size ≤ X7 := by have := HB.out.size; omega
      have KX3_1 := hid (keep_laid KX3.out hbn)
      have HB_2 := hid (HB.out.trans (hbn.mono HB.out.size))
      have HRO_3 := hid (own_grow HRO.out hbn)
      clear KX3 HB HRO hbn hsn
      have KX7_4 := hid (hln)
      clear hln
      have KX7_4_o := KX7_4.out
      obtain ⟨u2_74, hu2_74, a1, a2, a3, a4⟩ := putN4 KX7_4.out (.int .u64 ((x0 : Nat) : Int)) (.int .u64 ((x1 : Nat) : Int)) (.bool x2) (.int .u64 ((x3 : Nat) : Int))
      obtain ⟨z0, zf0, z1, zf1, z2, zf2, z3, zf3⟩ := fcl4 (KX7_4.out)
      have E3_74 := hid hu2_74
      have KX3_5 := hid (a2 X3 _ (by omega) KX3_1.out)
      have HB_6 := hid (a3 _ _ (by omega) HB_2.out)
      have HRO_7 := hid (own_keep HRO_3.out fun k o hk ho => a2 k o (by have := LTX7_HRO.out k hk; omega) ho)
      have KX7_8 := hid (a1)
      clear KX3_1 HB_2 HRO_3 KX7_4 hu2_74 a1 a2 a3 a4
      clear KX7_4_o
      have hBu : B0 ≤ u2_74.heap.size := by have := lt_laid KX7_8.out; omega
      go_upto_region 5 with (fail)
      rw [← E3_74.out]
      clear z0 z1 z2 z3 zf0 zf1 zf2 zf3 hNMX7 hw1_62 f0 f1 f2 f3
      have g0 : ∀ z : Ext u2_74, z.v.cell? ⟨X7, 0, none⟩ = some (.int .u64 ((x0 : Nat) : Int)) := fun z => cell_laid (keep_laid KX7_8.out z.b) rfl
      have g3 : ∀ z : Ext u2_74, z.v.cell? ⟨X3, 0, none⟩ = some (.int .u64 ((p0 : Nat) : Int)) := fun z => cell_laid (keep_laid KX3_5.out z.b) rfl
      have HXI := fun W => rIndex_any x0 W hx0b
      obtain ⟨r, hr⟩ : ∃ r, x0 % 64 = r := ⟨_, rfl⟩
      rw [hr] at HXI
      have HR := hid hr
      have hr64 : r < 64 := by omega
      clear hr
      refine wp_region_ext (by kernel_rfl) (by kernel_rfl) ?_
      repeat (go_big_quiet_step ((go_at_call 28; first | exact ext_of (HXI _) | exact ext_of (HPI _))))
      refine wpQuiet_nil ?_
      rintro wz ⟨⟨wz2, hbn⟩, hwz⟩
      obtain rfl : wz = wz2 := hwz
      have hBz := Nat.le_trans hBu hbn.size
      have KX3_9 := hid (keep_laid KX3_5.out hbn)
      have HB_10 := hid (HB_6.out.trans (hbn.mono HB_6.out.size))
      have HRO_11 := hid (own_grow HRO_7.out hbn)
      have KX7_12 := hid (keep_laid KX7_8.out hbn)
      clear KX3_5 HB_6 HRO_7 KX7_8 hbn g0 g3 HXI hBu
      by_cases ht : r < pm
      · have HT : Hid (Q1 (x0, x1, x2, x3) = true) := hid (by rw [HQ1.out]; show decide (_) = true; rw [HR.out]; exact decide_eq_true ht)
        have u1 : decide (r < pm) = true := by simp; omega
        have u2 : decide (((r : Nat) : Int) < ((pm : Nat) : Int)) = true := by simp; omega
        obtain ⟨z0, z1, z2, z3⟩ := ncl4 (KX7_12.out)
        go_upto_region 6 with (fail)
        have LTAB_HRO := hid (fun k hk => own_lt HRO_11.out k hk)
        obtain ⟨w4_115, hw4_115, hbn, hsn, hln⟩ := laid wz #[.int .u64 ((x0 : Nat) : Int), .int .u64 ((x1 : Nat) : Int), .bool x2, .int .u64 ((x3 : Nat) : Int)] 45
        obtain ⟨AB, hNMAB⟩ : ∃ X, wz.heap.size = X := ⟨_, rfl⟩
        rw [hNMAB] at hln
        have nX3AB : X3 < AB := by have := lt_laid KX3_9.out; omega
        have nX7AB : X7 < AB := by have := lt_laid KX7_12.out; omega
        have hVAB : V.heap.size ≤ AB := by have := HB_10.out.size; omega
        have KX3_13 := hid (keep_laid KX3_9.out hbn)
        have HB_14 := hid (HB_10.out.trans (hbn.mono HB_10.out.size))
        have HRO_15 := hid (own_grow HRO_11.out hbn)
        have KX7_16 := hid (keep_laid KX7_12.out hbn)
        clear KX3_9 HB_10 HRO_11 KX7_12 hbn hsn
        have KAB_17 := hid (hln)
        clear hln
        have hm6 : m ≤ 1000000 := by omega
        have hV6 : B0 ≤ w4_115.heap.size := by have := lt_laid KAB_17.out; have := HB_14.out.size; omega
        go_wp2_with ((with_reducible show wpList _ _ _ _ _ _); refine wp_append1 elemPr rfl (.tmp 23) (.tmp 25) rfl B0 (.slice va m vc) m _ rfl HRO_15.out AB [.int .u64 ((x0 : Nat) : Int), .int .u64 ((x1 : Nat) : Int), .bool x2, .int .u64 ((x3 : Nat) : Int)] rfl rfl ?c1 ?c2 hm6 hV6 ?c3)
        case c1 =>
          intro i u hi
          exact cell_laid KAB_17.out (by simpa using hi)
        case c2 => exact pr4_one (x0, x1, x2, x3)
        case c3 =>
          intro v' w7 hown' hb7 hg7
          obtain ⟨a', cap', rfl, -⟩ := Leads.of_own hown'
          have hl7 := (Leads.of_own1 hown').len
          have HO7 : Hid (w7.ownsRow B0 45 4 (.slice a' (m + 1) cap') (m + 1) (prcells (((L.take k).filter Q1) ++ [(x0, x1, x2, x3)]))) := hid (by rw [prcells_append]; exact hown')
          have KX3_18 := hid (below_block hb7 hX3B KX3_13.out)
          have HB_19 := hid (HB_14.out.trans (hb7.mono hVB))
          have hB7 : B0 ≤ w7.heap.size := Nat.le_trans hV6 hg7
          clear hown' hb7 hg7 hm6 hV6 KX3_13 HB_14 HRO_15 KX7_16 KAB_17
          clear hNMAB hw4_115
          go_wp2
          go_roundg (gk - 1)
          case measure => have := HK.out; omega
          case rel => exact ⟨k + 1, m + 1, _, _, by have := HK.out; omega, by go_num, rfl, rfl, by omega, hid (by rw [filter_hit HX.out HT.out, List.length_append, HM.out]; rfl), hid (by rw [filter_hit HX.out HT.out]; exact HO7.out), KX3_18, HB_19, hB7⟩
      · have HT : Hid (Q1 (x0, x1, x2, x3) = false) := hid (by rw [HQ1.out]; show decide (_) = false; rw [HR.out]; exact decide_eq_false ht)
        have u1 : decide (r < pm) = false := by simp; omega
        have u2 : decide (((r : Nat) : Int) < ((pm : Nat) : Int)) = false := by simp; omega
        go_wp2
        go_roundg (gk - 1)
        case measure => have := HK.out; omega
        case rel => exact ⟨k + 1, m, _, _, by have := HK.out; omega, by go_num, rfl, rfl, by omega, hid (by rw [filter_miss HX.out HT.out]; exact HM.out), hid (by rw [filter_miss HX.out HT.out]; exact HRO_11.out), KX3_9, HB_10, hBz⟩
    · have hkn : k = n := by have := HK.out; omega
      have hall : (L.take k).filter Q1 = L.filter Q1 := by rw [List.take_of_length_le (by rw [HN.out]; omega)]
      rw [hall] at HM HRO
      have hmk2 : m ≤ 0 + n := by omega
      clear hall HK hlt hmk
      obtain ⟨z0, z1, z2, z3⟩ := ncl4 (KX3.out)
      go_upto_region 8 with (fail)
      have LTAB_HRO := hid (fun k hk => own_lt HRO.out k hk)
      obtain ⟨w1_164, hw1_164, hbn, hsn, hln⟩ := laid wr #[.int .u64 ((p0 : Nat) : Int), .int .u64 ((p1 : Nat) : Int), .bool p2, .int .u64 ((p3 : Nat) : Int)] 45
      obtain ⟨AB, hNMAB⟩ : ∃ X, wr.heap.size = X := ⟨_, rfl⟩
      rw [hNMAB] at hln
      have nX3AB : X3 < AB := by have := lt_laid KX3.out; omega
      have hVAB : V.heap.size ≤ AB := by have := HB.out.size; omega
      have KX3_1 := hid (keep_laid KX3.out hbn)
      have HB_2 := hid (HB.out.trans (hbn.mono HB.out.size))
      have HRO_3 := hid (own_grow HRO.out hbn)
      clear KX3 HB HRO hbn hsn
      have KAB_4 := hid (hln)
      clear hln
      have hm6 : m ≤ 1000000 := by omega
      have hV6 : B0 ≤ w1_164.heap.size := by have := lt_laid KAB_4.out; have := HB_2.out.size; omega
      go_wp2_with ((with_reducible show wpList _ _ _ _ _ _); refine wp_append1 elemPr rfl (.tmp 28) (.tmp 30) rfl B0 (.slice va m vc) m _ rfl HRO_3.out AB [.int .u64 ((p0 : Nat) : Int), .int .u64 ((p1 : Nat) : Int), .bool p2, .int .u64 ((p3 : Nat) : Int)] rfl rfl ?c1 ?c2 hm6 hV6 ?c3)
      case c1 =>
        intro i u hi
        exact cell_laid KAB_4.out (by simpa using hi)
      case c2 => exact pr4_one (p0, p1, p2, p3)
      case c3 =>
        intro v' w7 hown' hb7 hg7
        obtain ⟨a', cap', rfl, -⟩ := Leads.of_own hown'
        have hl7 := (Leads.of_own1 hown').len
        have HO7 : Hid (w7.ownsRow B0 45 4 (.slice a' (m + 1) cap') (m + 1) (prcells (L.filter Q1 ++ [(p0, p1, p2, p3)]))) := hid (by rw [prcells_append]; exact hown')
        have KX3_5 := hid (below_block hb7 hX3B KX3_1.out)
        have HB_6 := hid (HB_2.out.trans (hb7.mono hVB))
        have hB7 : B0 ≤ w7.heap.size := Nat.le_trans hV6 hg7
        clear hown' hb7 hg7 hm6 hV6 KX3_1 HB_2 HRO_3 KAB_4
        clear hNMAB hw1_164
        have hm1 : m + 1 ≤ 1001 := by omega
        have HM7 : Hid ((L.filter Q1 ++ [(p0, p1, p2, p3)]).length = m + 1) := hid (by rw [List.length_append, HM.out]; rfl)
        obtain ⟨F1, hF1⟩ : ∃ l, L.filter Q1 ++ [(p0, p1, p2, p3)] = l := ⟨_, rfl⟩
        rw [hF1] at HM7 HO7
        have HF1 := hid hF1
        obtain ⟨m1, hm1e⟩ : ∃ x, m + 1 = x := ⟨_, rfl⟩
        rw [hm1e] at HM7 HO7 hl7 hm1 ⊢
        clear hF1 hm1e HM
        have KX3 := KX3_5
        have HB := HB_6
        clear KX3_5 HB_6 z0 z1 z2 z3 hBw
        go_wp2
        go_loopg [34, 9, 5] n (fun g ti tb t5 wr => ∃ (k m : Nat) (vb v5 : Value), g + k = n ∧ ti = .int .i64 ((k : Nat) : Int) ∧ tb = vb ∧ t5 = v5 ∧ m ≤ 1001 + k ∧ Hid ((F1 ++ (L.take k).filter Q2).length = m) ∧ Hid (wr.ownsRow B0 45 4 v5 m (prcells (F1 ++ (L.take k).filter Q2))) ∧ Hid (wr.heap[X3]? = some (.cells #[.int .u64 ((p0 : Nat) : Int), .int .u64 ((p1 : Nat) : Int), .bool p2, .int .u64 ((p3 : Nat) : Int)] 45 (0, 0))) ∧ Hid (Below V.heap.size V wr) ∧ B0 ≤ wr.heap.size)
        case atStart => exact ⟨0, m1, _, _, rfl, rfl, rfl, rfl, hm1, hid (by rw [List.take_zero, List.filter_nil, List.append_nil]; exact HM7.out), hid (by rw [List.take_zero, List.filter_nil, List.append_nil]; exact HO7.out), KX3, HB, hB7⟩
        case round =>
          clear KX3 HB
          obtain ⟨k, m, vb, v5, hk, rfl, hvb, hv5, hmk, HM, HRO, KX3, HB, hBw⟩ := hrel
          obtain ⟨va, vc, rfl, -⟩ := Leads.of_own HRO.out
          have hlm := (Leads.of_own1 HRO.out).len
          subst hvb hv5
          have HK := hid hk
          clear hk
          by_cases hlt : k < n
          · obtain ⟨⟨x0, x1, x2, x3⟩, hx⟩ : ∃ x, L[k]? = some x := ⟨_, List.getElem?_eq_getElem (by rw [HN.out]; exact hlt)⟩
            obtain ⟨b, off, rfl, -, hcx⟩ := HL.out.pr hlt hx
            obtain ⟨f0, f1, f2, f3⟩ := hcx wr HB.out
            have HX := hid hx
            have hx0b : x0 < 18446744073709551616 := (HPL.out _ (List.mem_of_getElem? hx)).1
            dsimp only at f0 f1 f2 f3
            clear hcx hx
            have LTX7_HRO := hid (fun k hk => own_lt HRO.out k hk)
            obtain ⟨w2_225, hw2_225, hbn, hsn, hln⟩ := laid wr #[.int .u64 0, .int .u64 0, .bool false, .int .u64 0] 45
            obtain ⟨X7, hNMX7⟩ : ∃ X, wr.heap.size = X := ⟨_, rfl⟩
            rw [hNMX7] at hln
            have nX3X7 : X3 < X7 := by have := lt_laid KX3.out; omega
            have hVX7 : V.heap.size ≤ X7 := by have := HB.out.size; omega
            have KX3_7 := hid (keep_laid KX3.out hbn)
            have HB_8 := hid (HB.out.trans (hbn.mono HB.out.size))
            have HRO_9 := hid (own_grow HRO.out hbn)
            clear KX3 HB HRO hbn hsn
            have KX7_10 := hid (hln)
            clear hln
            have KX7_10_o := KX7_10.out
            obtain ⟨u3_237, hu3_237, a1, a2, a3, a4⟩ := putN4 KX7_10.out (.int .u64 ((x0 : Nat) : Int)) (.int .u64 ((x1 : Nat) : Int)) (.bool x2) (.int .u64 ((x3 : Nat) : Int))
            obtain ⟨z0, zf0, z1, zf1, z2, zf2, z3, zf3⟩ := fcl4 (KX7_10.out)
            have E4_237 := hid hu3_237
            have KX3_11 := hid (a2 X3 _ (by omega) KX3_7.out)
            have HB_12 := hid (a3 _ _ (by omega) HB_8.out)
            have HRO_13 := hid (own_keep HRO_9.out fun k o hk ho => a2 k o (by have := LTX7_HRO.out k hk; omega) ho)
            have KX7_14 := hid (a1)
            clear KX3_7 HB_8 HRO_9 KX7_10 hu3_237 a1 a2 a3 a4
            clear KX7_10_o
            have hBu : B0 ≤ u3_237.heap.size := by have := lt_laid KX7_14.out; omega
            go_upto_region 12 with (fail)
            rw [← E4_237.out]
            clear z0 z1 z2 z3 zf0 zf1 zf2 zf3 hNMX7 hw2_225 f0 f1 f2 f3
            have g0 : ∀ z : Ext u3_237, z.v.cell? ⟨X7, 0, none⟩ = some (.int .u64 ((x0 : Nat) : Int)) := fun z => cell_laid (keep_laid KX7_14.out z.b) rfl
            have g3 : ∀ z : Ext u3_237, z.v.cell? ⟨X3, 0, none⟩ = some (.int .u64 ((p0 : Nat) : Int)) := fun z => cell_laid (keep_laid KX3_11.out z.b) rfl
            have HXI := fun W => rIndex_any x0 W hx0b
            obtain ⟨r, hr⟩ : ∃ r, x0 % 64 = r := ⟨_, rfl⟩
            rw [hr] at HXI
            have HR := hid hr
            have hr64 : r < 64 := by omega
            clear hr
            refine wp_region_ext (by kernel_rfl) (by kernel_rfl) ?_
            repeat (go_big_quiet_step ((go_at_call 28; first | exact ext_of (HXI _) | exact ext_of (HPI _))))
            refine wpQuiet_nil ?_
            rintro wz ⟨⟨wz2, hbn⟩, hwz⟩
            obtain rfl : wz = wz2 := hwz
            have hBz := Nat.le_trans hBu hbn.size
            have KX3_15 := hid (keep_laid KX3_11.out hbn)
            have HB_16 := hid (HB_12.out.trans (hbn.mono HB_12.out.size))
            have HRO_17 := hid (own_grow HRO_13.out hbn)
            have KX7_18 := hid (keep_laid KX7_14.out hbn)
            clear KX3_11 HB_12 HRO_13 KX7_14 hbn g0 g3 HXI hBu
            by_cases ht : pm < r
            · have HT : Hid (Q2 (x0, x1, x2, x3) = true) := hid (by rw [HQ2.out]; show decide (_) = true; rw [HR.out]; exact decide_eq_true ht)
              have u1 : decide (pm < r) = true := by simp; omega
              have u2 : decide (((pm : Nat) : Int) < ((r : Nat) : Int)) = true := by simp; omega
              obtain ⟨z0, z1, z2, z3⟩ := ncl4 (KX7_18.out)
              go_upto_region 13 with (fail)
              have LTAB_HRO := hid (fun k hk => own_lt HRO_17.out k hk)
              obtain ⟨w5_278, hw5_278, hbn, hsn, hln⟩ := laid wz #[.int .u64 ((x0 : Nat) : Int), .int .u64 ((x1 : Nat) : Int), .bool x2, .int .u64 ((x3 : Nat) : Int)] 45
              obtain ⟨AB, hNMAB⟩ : ∃ X, wz.heap.size = X := ⟨_, rfl⟩
              rw [hNMAB] at hln
              have nX3AB : X3 < AB := by have := lt_laid KX3_15.out; omega
              have nX7AB : X7 < AB := by have := lt_laid KX7_18.out; omega
              have hVAB : V.heap.size ≤ AB := by have := HB_16.out.size; omega
              have KX3_19 := hid (keep_laid KX3_15.out hbn)
              have HB_20 := hid (HB_16.out.trans (hbn.mono HB_16.out.size))
              have HRO_21 := hid (own_grow HRO_17.out hbn)
              have KX7_22 := hid (keep_laid KX7_18.out hbn)
              clear KX3_15 HB_16 HRO_17 KX7_18 hbn hsn
              have KAB_23 := hid (hln)
              clear hln
              have hm6 : m ≤ 1000000 := by omega
              have hV6 : B0 ≤ w5_278.heap.size := by have := lt_laid KAB_23.out; have := HB_20.out.size; omega
              go_wp2_with ((with_reducible show wpList _ _ _ _ _ _); refine wp_append1 elemPr rfl (.tmp 45) (.tmp 47) rfl B0 (.slice va m vc) m _ rfl HRO_21.out AB [.int .u64 ((x0 : Nat) : Int), .int .u64 ((x1 : Nat) : Int), .bool x2, .int .u64 ((x3 : Nat) : Int)] rfl rfl ?c1 ?c2 hm6 hV6 ?c3)
              case c1 =>
                intro i u hi
                exact cell_laid KAB_23.out (by simpa using hi)
              case c2 => exact pr4_one (x0, x1, x2, x3)
              case c3 =>
                intro v' w7 hown' hb7 hg7
                obtain ⟨a', cap', rfl, -⟩ := Leads.of_own hown'
                have hl7 := (Leads.of_own1 hown').len
                have HO7 : Hid (w7.ownsRow B0 45 4 (.slice a' (m + 1) cap') (m + 1) (prcells ((F1 ++ (L.take k).filter Q2) ++ [(x0, x1, x2, x3)]))) := hid (by rw [prcells_append]; exact hown')
                have KX3_24 := hid (below_block hb7 hX3B KX3_19.out)
                have HB_25 := hid (HB_20.out.trans (hb7.mono hVB))
                have hB7 : B0 ≤ w7.heap.size := Nat.le_trans hV6 hg7
                clear hown' hb7 hg7 hm6 hV6 KX3_19 HB_20 HRO_21 KX7_22 KAB_23
                clear hNMAB hw5_278
                go_wp2
                go_roundg (gk - 1)
                case measure => have := HK.out; omega
                case rel => exact ⟨k + 1, m + 1, _, _, by have := HK.out; omega, by go_num, rfl, rfl, by omega, hid (by rw [filter_hit HX.out HT.out, ← List.append_assoc, List.length_append, HM.out]; rfl), hid (by rw [filter_hit HX.out HT.out, ← List.append_assoc]; exact HO7.out), KX3_24, HB_25, hB7⟩
            · have HT : Hid (Q2 (x0, x1, x2, x3) = false) := hid (by rw [HQ2.out]; show decide (_) = false; rw [HR.out]; exact decide_eq_false ht)
              have u1 : decide (pm < r) = false := by simp; omega
              have u2 : decide (((pm : Nat) : Int) < ((r : Nat) : Int)) = false := by simp; omega
              go_wp2
              go_roundg (gk - 1)
              case measure => have := HK.out; omega
              case rel => exact ⟨k + 1, m, _, _, by have := HK.out; omega, by go_num, rfl, rfl, by omega, hid (by rw [filter_miss HX.out HT.out]; exact HM.out), hid (by rw [filter_miss HX.out HT.out]; exact HRO_17.out), KX3_15, HB_16, hBz⟩
          · have hkn : k = n := by have := HK.out; omega
            have hall : (L.take k).filter Q2 = L.filter Q2 := by rw [List.take_of_length_le (by rw [HN.out]; omega)]
            rw [hall] at HM HRO
            have hmk2 : m ≤ 1001 + n := by omega
            clear hall HK hlt hmk
            go_wp2
            go_ret
            refine ⟨_, rfl, ?_, HB.out⟩
            rw [HIN.out, HF1.out, HM.out]
            exact own_base HRO.out hVB
end Go.Proofs.YtmnbkhmphhgdiaaDoor
