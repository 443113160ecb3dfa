/- The document's one, Right, Same (printed by gen_pr14.py). -/
import Derived.Test.YtmnbkhmphhgdiaaDoorPr13
import Derived.Test.YtmnbkhmphhgdiaaDoorPrPlain6
namespace Go.Proofs.YtmnbkhmphhgdiaaDoor
open Go.RowKit Go.Shelf
open Go.Proofs
set_option linter.unusedVariables false
attribute [local go_sem] Oper.semAt_some
theorem gens_of {G : Nat → Int} (h : gensB G = true) (i : Nat) (hi : i < 16) : ∃ g : Nat, G i = (g : Int) ∧ g ≤ 65536 := by
  unfold gensB at h
  have := List.all_eq_true.1 h i (List.mem_range.2 hi)
  simp at this
  exact ⟨(G i).toNat, by omega, by omega⟩
set_option maxRecDepth 100000 in
set_option maxHeartbeats 8000000 in
theorem rOne_any (n c : Nat) (a : Option Addr) (G : Nat → Int) (L : List Pr) (x0 x1 : Nat) (x2 : Bool) (x3 : Nat) (V : World) (hl : Leads V a n c (prcells L)) (hn : L.length = n) (hn5 : n ≤ 1000) (hg : gensB G = true) (hx0 : x0 < 18446744073709551616) (hx1 : x1 < 18446744073709551616) :
    Calls Tryd.prog 27 #[.agg #[.int .i64 (G 0), .int .i64 (G 1), .int .i64 (G 2), .int .i64 (G 3), .int .i64 (G 4), .int .i64 (G 5), .int .i64 (G 6), .int .i64 (G 7), .int .i64 (G 8), .int .i64 (G 9), .int .i64 (G 10), .int .i64 (G 11), .int .i64 (G 12), .int .i64 (G 13), .int .i64 (G 14), .int .i64 (G 15), .slice a n c], .agg #[.int .u64 ((x0 : Nat) : Int), .int .u64 ((x1 : Nat) : Int), .bool x2, .int .u64 ((x3 : Nat) : Int)]] V (Ret (.bool (oneB G L (x0, x1, x2, x3))) V) := by
  obtain ⟨V1, hV1, hbV1, hsV1, hlV1⟩ := laid V #[.int .i64 (G 0), .int .i64 (G 1), .int .i64 (G 2), .int .i64 (G 3), .int .i64 (G 4), .int .i64 (G 5), .int .i64 (G 6), .int .i64 (G 7), .int .i64 (G 8), .int .i64 (G 9), .int .i64 (G 10), .int .i64 (G 11), .int .i64 (G 12), .int .i64 (G 13), .int .i64 (G 14), .int .i64 (G 15), .slice a n c] 25
  obtain ⟨V2, hV2, hbV2, hsV2, hlV2⟩ := laid V1 #[.int .u64 ((x0 : Nat) : Int), .int .u64 ((x1 : Nat) : Int), .bool x2, .int .u64 ((x3 : Nat) : Int)] 45
  obtain ⟨X2, hX2⟩ : ∃ X, V.heap.size = X := ⟨_, rfl⟩
  rw [hX2] at hlV1
  obtain ⟨X3, hX3⟩ : ∃ X, V1.heap.size = X := ⟨_, rfl⟩
  rw [hX3] at hlV2
  have KX2 := hid (keep_laid hlV1 hbV2)
  have KX3 := hid hlV2
  have HB := hid (step hbV1 hbV2)
  have hVX2 : V.heap.size ≤ X2 := by omega
  have hVX3 : V.heap.size ≤ X3 := by omega
  have nX2X3 : X2 < X3 := by omega
  clear hbV1 hsV1 hlV1 hbV2 hsV2 hlV2
  have HL := hid hl
  have HN := hid hn
  have HGB := hid hg
  have hlen := hl.len
  have HIX := hid (rIndex_any x0 V2 hx0)
  obtain ⟨m, hm⟩ : ∃ m, x0 % 64 = m := ⟨_, rfl⟩
  rw [hm] at HIX
  have HM := hid hm
  have hm64 : m < 64 := by omega
  obtain ⟨RV, hRV⟩ : ∃ r, oneB G L (x0, x1, x2, x3) = r := ⟨_, rfl⟩
  rw [hRV]
  have HRV := hid hRV
  unfold oneB at hRV
  dsimp only at hRV
  rw [hm] at hRV
  have HRW := hid hRV
  obtain ⟨qd, hqd⟩ : ∃ q, x0 / 64 = q := ⟨_, rfl⟩
  have hdv : ((x0 : Nat) : Int).tdiv 64 = ((qd : Nat) : Int) := by rw [← hqd]; rfl
  have hqb : qd < 288230376151711744 := by omega
  rw [hqd] at HRW
  have HQD := hid hqd
  clear hl hn hg hm hRV hqd
  go_enter Tryd.func27, Tryd.ntmps27
  have t0 := cell_laid (i := 0) KX3.out rfl
  go_wp2_with fail
  refine (HIX.out).mono ?_
  rintro e w1_47 ⟨rfl, hbn⟩
  have KX2_1 := hid (keep_laid KX2.out hbn)
  have KX3_2 := hid (keep_laid KX3.out hbn)
  have HB_3 := hid (HB.out.trans (hbn.mono HB.out.size))
  clear KX2 KX3 HB hbn HIX t0 hX2 hX3 hV1 hV2
  go_upto_region 2 with (fail)
  have g0 : ∀ z : Ext w1_47, z.v.cell? ⟨X3, 0, none⟩ = some (.int .u64 ((x0 : Nat) : Int)) := fun z => cell_laid (keep_laid KX3_2.out z.b) rfl
  have g1 : ∀ z : Ext w1_47, z.v.cell? ⟨X3, 1, none⟩ = some (.int .u64 ((x1 : Nat) : Int)) := fun z => cell_laid (keep_laid KX3_2.out z.b) rfl
  by_cases c1 : m < 1
  · have u1 : decide (((m : Nat) : Int) < 1) = true := by simp; omega
    have C1 := hid c1
    clear c1
    refine wp_region_ext (by kernel_rfl) (by kernel_rfl) ?_
    repeat (go_big_quiet_step (fail))
    refine wpQuiet_nil ?_
    rintro _ ⟨⟨wz, hbn⟩, rfl⟩
    have KX2_4 := hid (keep_laid KX2_1.out hbn)
    have KX3_5 := hid (keep_laid KX3_2.out hbn)
    have HB_6 := hid (HB_3.out.trans (hbn.mono HB_3.out.size))
    clear KX2_1 KX3_2 HB_3 hbn g0 g1
    go_wp2
    go_ret
    exact ⟨retb (by rw [← HRW.out, if_pos (.inl C1.out)]), HB_6.out⟩
  · have u1 : decide (((m : Nat) : Int) < 1) = false := by simp; omega
    by_cases c2 : 16 < m
    · have u2 : decide (16 < ((m : Nat) : Int)) = true := by simp; omega
      have C2 := hid c2
      clear c1 c2
      refine wp_region_ext (by kernel_rfl) (by kernel_rfl) ?_
      repeat (go_big_quiet_step (fail))
      refine wpQuiet_nil ?_
      rintro _ ⟨⟨wz, hbn⟩, rfl⟩
      have KX2_4 := hid (keep_laid KX2_1.out hbn)
      have KX3_5 := hid (keep_laid KX3_2.out hbn)
      have HB_6 := hid (HB_3.out.trans (hbn.mono HB_3.out.size))
      clear KX2_1 KX3_2 HB_3 hbn g0 g1
      go_wp2
      go_ret
      exact ⟨retb (by rw [← HRW.out, if_pos (.inr (.inl C2.out))]), HB_6.out⟩
    · have u2 : decide (16 < ((m : Nat) : Int)) = false := by simp; omega
      have C1 := hid c1
      have C2 := hid c2
      obtain ⟨k, hk⟩ : ∃ k, k = m - 1 := ⟨_, rfl⟩
      have hk16 : k < 16 := by omega
      have e1 : IntKind.i64.wrap (((m : Nat) : Int) - 1) = ((k : Nat) : Int) := by rw [IntKind.wrap_i64]; omega
      obtain ⟨g, hgk, hg5⟩ := gens_of HGB.out k hk16
      rw [← hk, hgk] at HRW
      have gi : ∀ z : Ext w1_47, z.v.cell? ⟨X2, k, none⟩ = some (.int .i64 ((g : Nat) : Int)) := fun z => by rw [← hgk]; exact cells16 (keep_laid KX2_1.out z.b) k hk16
      have e2 : IntKind.i64.wrap (((g : Nat) : Int) - 1) = ((g : Nat) : Int) - 1 := by rw [IntKind.wrap_i64]; omega
      obtain ⟨U, hU⟩ : ∃ U : Nat, IntKind.u64.wrap (((g : Nat) : Int) - 1) = (U : Int) ∧ ((qd + 1 = g) ↔ qd = U) := by
        by_cases hg0 : g = 0
        · exact ⟨18446744073709551615, by subst hg0; decide, by omega⟩
        · exact ⟨g - 1, by rw [IntKind.wrap_u64]; omega, by omega⟩
      obtain ⟨e3, hUi⟩ := hU
      have HUI := hid hUi
      clear c1 c2 hk hgk hUi
      by_cases c3 : qd = U
      · have u3 : (((qd : Nat) : Int) != ((U : Nat) : Int)) = false := by simp; omega
        have C3 := hid (HUI.out.2 c3)
        clear c3
        by_cases c4 : x1 = x0
        · have u4 : (((x1 : Nat) : Int) == ((x0 : Nat) : Int)) = true := by simp; omega
          have C4 := hid c4
          clear c4
          refine wp_region_ext (by kernel_rfl) (by kernel_rfl) ?_
          repeat (go_big_quiet_step (fail))
          refine wpQuiet_nil ?_
          rintro _ ⟨⟨wz, hbn⟩, rfl⟩
          have KX2_4 := hid (keep_laid KX2_1.out hbn)
          have KX3_5 := hid (keep_laid KX3_2.out hbn)
          have HB_6 := hid (HB_3.out.trans (hbn.mono HB_3.out.size))
          clear KX2_1 KX3_2 HB_3 hbn g0 g1 gi
          go_wp2
          go_ret
          exact ⟨retb (by rw [← HRW.out, if_pos (.inr (.inr (.inr C4.out)))]), HB_6.out⟩
        · have u4 : (((x1 : Nat) : Int) == ((x0 : Nat) : Int)) = false := by simp; omega
          have C4 := hid c4
          clear c4
          rw [if_neg (by
            rintro (h | h | h | h)
            · exact C1.out h
            · exact C2.out h
            · exact h (by have := C3.out; omega)
            · exact C4.out h)] at HRW
          refine wp_region_ext (by kernel_rfl) (by kernel_rfl) ?_
          repeat (go_big_quiet_step (fail))
          refine wpQuiet_nil ?_
          rintro _ ⟨⟨wz, hbn⟩, rfl⟩
          have KX2_4 := hid (keep_laid KX2_1.out hbn)
          have KX3_5 := hid (keep_laid KX3_2.out hbn)
          have HB_6 := hid (HB_3.out.trans (hbn.mono HB_3.out.size))
          clear KX2_1 KX3_2 HB_3 hbn g0 g1 gi
          obtain ⟨t0, t1, t2, t3⟩ := ncl4 (KX3_5.out)
          have x16 := cell_laid (i := 16) KX2_4.out rfl
          by_cases c5 : x1 = 0
          · have u5 : (((x1 : Nat) : Int) != 0) = false := by simp; omega
            rw [if_neg (by rintro ⟨h, -⟩; exact h c5)] at HRW
            rw [decide_eq_false (show ¬ (x1 ≠ 0) from fun h => h c5)] at HRW
            clear c5
            cases x2 with
            | true =>
              rw [if_pos rfl] at HRW
              go_wp2
              go_ret
              exact ⟨retb HRW.out, HB_6.out⟩
            | false =>
              rw [if_neg (by decide)] at HRW
              by_cases c6 : x3 = 0
              · have u6 : (((x3 : Nat) : Int) == 0) = true := by simp; omega
                rw [decide_eq_true c6] at HRW
                clear c6
                go_wp2
                go_ret
                exact ⟨retb HRW.out, HB_6.out⟩
              · have u6 : (((x3 : Nat) : Int) == 0) = false := by simp; omega
                rw [decide_eq_false c6] at HRW
                clear c6
                go_wp2
                go_ret
                exact ⟨retb HRW.out, HB_6.out⟩
          · have u5 : (((x1 : Nat) : Int) != 0) = true := by simp; omega
            have HRU := hid (rRuns_any n c x1 a L _ (HL.out.grow HB_6.out) HN.out hn5)
            cases hr : runsB L x1 with
            | false =>
              rw [hr] at HRU
              rw [if_pos ⟨c5, hr⟩] at HRW
              clear hr c5
              go_wp2_with fail
              refine (HRU.out).mono ?_
              rintro e w2_177 ⟨rfl, hbn⟩
              have KX2_7 := hid (keep_laid KX2_4.out hbn)
              have KX3_8 := hid (keep_laid KX3_5.out hbn)
              have HB_9 := hid (HB_6.out.trans (hbn.mono HB_6.out.size))
              clear KX2_4 KX3_5 HB_6 hbn HRU
              go_wp2
              go_ret
              exact ⟨retb HRW.out, HB_9.out⟩
            | true =>
              rw [hr] at HRU
              rw [if_neg (by rintro ⟨-, h⟩; rw [hr] at h; cases h), decide_eq_true c5] at HRW
              clear hr c5
              go_wp2_with fail
              refine (HRU.out).mono ?_
              rintro e w2_191 ⟨rfl, hbn⟩
              have KX2_7 := hid (keep_laid KX2_4.out hbn)
              have KX3_8 := hid (keep_laid KX3_5.out hbn)
              have HB_9 := hid (HB_6.out.trans (hbn.mono HB_6.out.size))
              clear KX2_4 KX3_5 HB_6 hbn HRU t0 t1 t2 t3 x16
              obtain ⟨t0, t1, t2, t3⟩ := ncl4 (KX3_8.out)
              cases x2 with
              | true =>
                rw [if_pos rfl] at HRW
                go_wp2
                go_ret
                exact ⟨retb HRW.out, HB_9.out⟩
              | false =>
                rw [if_neg (by decide)] at HRW
                by_cases c6 : x3 = 0
                · have u6 : (((x3 : Nat) : Int) == 0) = true := by simp; omega
                  rw [decide_eq_true c6] at HRW
                  clear c6
                  go_wp2
                  go_ret
                  exact ⟨retb HRW.out, HB_9.out⟩
                · have u6 : (((x3 : Nat) : Int) == 0) = false := by simp; omega
                  rw [decide_eq_false c6] at HRW
                  clear c6
                  go_wp2
                  go_ret
                  exact ⟨retb HRW.out, HB_9.out⟩
      · have u3 : (((qd : Nat) : Int) != ((U : Nat) : Int)) = true := by simp; omega
        have C3 := hid (fun h => c3 (HUI.out.1 h))
        clear c3
        refine wp_region_ext (by kernel_rfl) (by kernel_rfl) ?_
        repeat (go_big_quiet_step (fail))
        refine wpQuiet_nil ?_
        rintro _ ⟨⟨wz, hbn⟩, rfl⟩
        have KX2_4 := hid (keep_laid KX2_1.out hbn)
        have KX3_5 := hid (keep_laid KX3_2.out hbn)
        have HB_6 := hid (HB_3.out.trans (hbn.mono HB_3.out.size))
        clear KX2_1 KX3_2 HB_3 hbn g0 g1 gi
        go_wp2
        go_ret
        exact ⟨retb (by rw [← HRW.out, if_pos (.inr (.inr (.inl (fun h => C3.out (by omega)))))]), HB_6.out⟩
theorem index16 (G : Nat → Int) : ∀ k, k < 16 → ∀ W, (Instr.index 22 (.agg #[.int .i64 (G 0), .int .i64 (G 1), .int .i64 (G 2), .int .i64 (G 3), .int .i64 (G 4), .int .i64 (G 5), .int .i64 (G 6), .int .i64 (G 7), .int .i64 (G 8), .int .i64 (G 9), .int .i64 (G 10), .int .i64 (G 11), .int .i64 (G 12), .int .i64 (G 13), .int .i64 (G 14), .int .i64 (G 15)]) (.int .i64 ((k : Nat) : Int))).run Tryd.prog W = .ok (.int .i64 (G k)) W
  | 0, _ => fun W => by kernel_rfl
  | 1, _ => fun W => by kernel_rfl
  | 2, _ => fun W => by kernel_rfl
  | 3, _ => fun W => by kernel_rfl
  | 4, _ => fun W => by kernel_rfl
  | 5, _ => fun W => by kernel_rfl
  | 6, _ => fun W => by kernel_rfl
  | 7, _ => fun W => by kernel_rfl
  | 8, _ => fun W => by kernel_rfl
  | 9, _ => fun W => by kernel_rfl
  | 10, _ => fun W => by kernel_rfl
  | 11, _ => fun W => by kernel_rfl
  | 12, _ => fun W => by kernel_rfl
  | 13, _ => fun W => by kernel_rfl
  | 14, _ => fun W => by kernel_rfl
  | 15, _ => fun W => by kernel_rfl
  | i + 16, h => absurd h (by omega)
set_option maxRecDepth 100000 in
set_option maxHeartbeats 16000000 in
theorem Right_any (n c : Nat) (a : Option Addr) (G : Nat → Int) (L : List Pr) (V : World) (hl : Leads V a n c (prcells L)) (hn : L.length = n) (hn5 : n ≤ 1000) (hG : GOk G) (hL : PrsOk L) :
    Calls Tryd.prog 9 #[.agg #[.int .i64 (G 0), .int .i64 (G 1), .int .i64 (G 2), .int .i64 (G 3), .int .i64 (G 4), .int .i64 (G 5), .int .i64 (G 6), .int .i64 (G 7), .int .i64 (G 8), .int .i64 (G 9), .int .i64 (G 10), .int .i64 (G 11), .int .i64 (G 12), .int .i64 (G 13), .int .i64 (G 14), .int .i64 (G 15), .slice a n c]] V (Ret (.bool (okP G L)) V) := by
  obtain ⟨V1, hV1, hbV1, hsV1, hlV1⟩ := laid V #[.int .i64 (G 0), .int .i64 (G 1), .int .i64 (G 2), .int .i64 (G 3), .int .i64 (G 4), .int .i64 (G 5), .int .i64 (G 6), .int .i64 (G 7), .int .i64 (G 8), .int .i64 (G 9), .int .i64 (G 10), .int .i64 (G 11), .int .i64 (G 12), .int .i64 (G 13), .int .i64 (G 14), .int .i64 (G 15), .slice a n c] 25
  obtain ⟨X1, hX1⟩ : ∃ X, V.heap.size = X := ⟨_, rfl⟩
  rw [hX1] at hlV1
  have KX1 := hid hlV1
  have HB := hid hbV1
  have hVX1 : V.heap.size ≤ X1 := by omega
  clear hbV1 hsV1 hlV1
  have HL := hid hl
  have HN := hid hn
  have HGG := hid hG
  have HPL := hid hL
  have hlen := hl.len
  obtain ⟨RV, hRV⟩ : ∃ r, okP G L = r := ⟨_, rfl⟩
  rw [hRV]
  have HRV := hid hRV
  clear hl hn hG hL hRV
  go_enter Tryd.func9, Tryd.ntmps9
  obtain ⟨x0, x1, x2, x3, x4, x5, x6, x7, x8, x9, x10, x11, x12, x13, x14, x15, x16⟩ := ncl17 (KX1.out)
  go_wp2
  clear x0 x1 x2 x3 x4 x5 x6 x7 x8 x9 x10 x11 x12 x13 x14 x15 x16 hX1 hV1
  go_loopg [9, 4] 16 (fun g t9 t4 wr => ∃ (k : Nat) (v4 : Value), g + k = 16 ∧ t9 = .int .i64 ((k : Nat) : Int) ∧ t4 = v4 ∧ Hid (∀ i, i < k → 0 ≤ G i ∧ G i ≤ 65536) ∧ wr = V1)
  case atStart => exact ⟨0, _, rfl, rfl, rfl, hid (fun i hi => absurd hi (Nat.not_lt_zero i)), rfl⟩
  case round =>
    obtain ⟨k, v4, hk, rfl, hv4, HA, hwr⟩ := hrel
    subst hv4 hwr
    have HK := hid hk
    clear hk
    by_cases hlt : k < 16
    · have hix := index16 G k hlt
      obtain ⟨z, hz⟩ : ∃ z, G k = z := ⟨_, rfl⟩
      rw [hz] at hix
      have hzb := HGG.out k
      rw [hz] at hzb
      have HZ := hid hz
      clear hz
      by_cases c1 : z < 0
      · have u1 : decide (z < 0) = true := decide_eq_true c1
        have HE : Hid (false = RV) := hid (by
          rw [← HRV.out]
          refine (okP_gens ?_).symm
          cases hgb : gensB G with
          | false => rfl
          | true =>
            obtain ⟨g, h1, h2⟩ := gens_of hgb k hlt
            rw [HZ.out] at h1
            omega)
        go_wp2
        go_ret
        exact ⟨retb HE.out, HB.out⟩
      · have u1 : decide (z < 0) = false := decide_eq_false c1
        by_cases c2 : 65536 < z
        · have u2 : decide (65536 < z) = true := decide_eq_true c2
          have HE : Hid (false = RV) := hid (by
            rw [← HRV.out]
            refine (okP_gens ?_).symm
            cases hgb : gensB G with
            | false => rfl
            | true =>
              obtain ⟨g, h1, h2⟩ := gens_of hgb k hlt
              rw [HZ.out] at h1
              omega)
          go_wp2
          go_ret
          exact ⟨retb HE.out, HB.out⟩
        · have u2 : decide (65536 < z) = false := decide_eq_false c2
          have HT : Hid (∀ i, i < k + 1 → 0 ≤ G i ∧ G i ≤ 65536) := hid (by
            intro i hi
            rcases Nat.lt_or_eq_of_le (Nat.lt_succ_iff.1 hi) with h | h
            · exact HA.out i h
            · rw [h, HZ.out]; omega)
          clear c1 c2
          go_wp2
          go_roundg (gk - 1)
          case measure => have := HK.out; omega
          case rel => exact ⟨k + 1, _, by have := HK.out; omega, by go_num, rfl, HT, rfl⟩
    · have hk16 : k = 16 := by have := HK.out; omega
      have HGB : Hid (gensB G = true) := hid (by
        unfold gensB
        rw [List.all_eq_true]
        intro i hi
        simpa using HA.out i (by rw [hk16]; exact List.mem_range.1 hi))
      clear HA HK hlt
      have x16 := cell_laid (i := 16) KX1.out rfl
      go_wp2
      clear x16
      go_loopg [22, 5, 6] n (fun g t22 t5 t6 wr => ∃ (j : Nat) (v5 v6 : Value), g + j = n ∧ t22 = .int .i64 ((j : Nat) : Int) ∧ t5 = v5 ∧ t6 = v6 ∧ Hid (∀ i, i < j → goodAt G L i) ∧ Hid (wr.heap[X1]? = some (.cells #[.int .i64 (G 0), .int .i64 (G 1), .int .i64 (G 2), .int .i64 (G 3), .int .i64 (G 4), .int .i64 (G 5), .int .i64 (G 6), .int .i64 (G 7), .int .i64 (G 8), .int .i64 (G 9), .int .i64 (G 10), .int .i64 (G 11), .int .i64 (G 12), .int .i64 (G 13), .int .i64 (G 14), .int .i64 (G 15), .slice a n c] 25 (0, 0))) ∧ Hid (Below V.heap.size V wr))
      case atStart => exact ⟨0, _, _, rfl, rfl, rfl, rfl, hid (fun i hi => absurd hi (Nat.not_lt_zero i)), KX1, HB⟩
      case round =>
        clear KX1 HB
        obtain ⟨j, v5, v6, hj, rfl, hv5, hv6, HA, KX1, HB⟩ := hrel
        subst hv5 hv6
        have HJ := hid hj
        clear hj
        by_cases hlt : j < n
        · obtain ⟨⟨x0, x1, x2, x3⟩, hx⟩ : ∃ x, L[j]? = some x := ⟨_, List.getElem?_eq_getElem (by rw [HN.out]; exact hlt)⟩
          obtain ⟨b, off, rfl, hbb, hcx⟩ := HL.out.pr hlt hx
          obtain ⟨f0, f1, f2, f3⟩ := hcx wr HB.out
          have HX := hid hx
          have hxb := HPL.out _ (List.mem_of_getElem? hx)
          have hx0b : x0 < 18446744073709551616 := hxb.1
          have hx1b : x1 < 18446744073709551616 := hxb.2.1
          dsimp only at f0 f1 f2 f3
          clear hcx hx hxb
          obtain ⟨w1_362, hw1_362, hbn, hsn, hln⟩ := laid wr #[.int .u64 0, .int .u64 0, .bool false, .int .u64 0] 45
          obtain ⟨X6, hNMX6⟩ : ∃ X, wr.heap.size = X := ⟨_, rfl⟩
          rw [hNMX6] at hln
          have nX1X6 : X1 < X6 := by have := lt_laid KX1.out; omega
          have hVX6 : V.heap.size ≤ X6 := by have := HB.out.size; omega
          have KX1_1 := hid (keep_laid KX1.out hbn)
          have HB_2 := hid (HB.out.trans (hbn.mono HB.out.size))
          clear KX1 HB hbn hsn
          have KX6_3 := hid (hln)
          clear hln
          have KX6_3_o := KX6_3.out
          obtain ⟨u2_373, hu2_373, a1, a2, a3, a4⟩ := putN4 KX6_3.out (.int .u64 ((x0 : Nat) : Int)) (.int .u64 ((x1 : Nat) : Int)) (.bool x2) (.int .u64 ((x3 : Nat) : Int))
          obtain ⟨z0, zf0, z1, zf1, z2, zf2, z3, zf3⟩ := fcl4 (KX6_3.out)
          have E3_373 := hid hu2_373
          have KX1_4 := hid (a2 X1 _ (by omega) KX1_1.out)
          have HB_5 := hid (a3 _ _ (by omega) HB_2.out)
          have KX6_6 := hid (a1)
          clear KX1_1 HB_2 KX6_3 hu2_373 a1 a2 a3 a4
          clear KX6_3_o
          go_upto_region 10 with (fail)
          rw [← E3_373.out]
          clear z0 z1 z2 z3 zf0 zf1 zf2 zf3 hNMX6 hw1_362 f0 f1 f2 f3
          have g0 : ∀ z : Ext u2_373, z.v.cell? ⟨X6, 0, none⟩ = some (.int .u64 ((x0 : Nat) : Int)) := fun z => cell_laid (keep_laid KX6_6.out z.b) rfl
          have g1 : ∀ z : Ext u2_373, z.v.cell? ⟨X6, 1, none⟩ = some (.int .u64 ((x1 : Nat) : Int)) := fun z => cell_laid (keep_laid KX6_6.out z.b) rfl
          have g2 : ∀ z : Ext u2_373, z.v.cell? ⟨X6, 2, none⟩ = some (.bool x2) := fun z => cell_laid (keep_laid KX6_6.out z.b) rfl
          have g3 : ∀ z : Ext u2_373, z.v.cell? ⟨X6, 3, none⟩ = some (.int .u64 ((x3 : Nat) : Int)) := fun z => cell_laid (keep_laid KX6_6.out z.b) rfl
          have g16 : ∀ z : Ext u2_373, z.v.cell? ⟨X1, 16, none⟩ = some (.slice (some ⟨b, off, none⟩) n c) := fun z => cell_laid (keep_laid KX1_4.out z.b) rfl
          have HON := fun (z : Ext u2_373) => rOne_any n c (some ⟨b, off, none⟩) G L x0 x1 x2 x3 z.v (HL.out.grow (HB_5.out.trans (z.b.mono HB_5.out.size))) HN.out hn5 HGB.out hx0b hx1b
          have HIX := fun (z : Ext u2_373) => rIndex_any x0 z.v hx0b
          obtain ⟨m, hm⟩ : ∃ m, x0 % 64 = m := ⟨_, rfl⟩
          rw [hm] at HIX
          have HM := hid hm
          have hm64 : m < 64 := by omega
          obtain ⟨O, hO⟩ : ∃ o, oneB G L (x0, x1, x2, x3) = o := ⟨_, rfl⟩
          rw [hO] at HON
          have HO := hid hO
          clear hm hO
          have HLD : Hid (∀ W, Below u2_373.heap.size u2_373 W → W.heap[X1]? = some (.cells #[.int .i64 (G 0), .int .i64 (G 1), .int .i64 (G 2), .int .i64 (G 3), .int .i64 (G 4), .int .i64 (G 5), .int .i64 (G 6), .int .i64 (G 7), .int .i64 (G 8), .int .i64 (G 9), .int .i64 (G 10), .int .i64 (G 11), .int .i64 (G 12), .int .i64 (G 13), .int .i64 (G 14), .int .i64 (G 15), .slice (some ⟨b, off, none⟩) n c] 25 (0, 0))) := hid (fun W hW => keep_laid KX1_4.out hW)
          cases O with
          | false =>
            have HE : Hid (false = RV) := hid (by rw [← HRV.out]; exact (okP_bad HX.out (.inl HO.out)).symm)
            refine wp_region_ext (by kernel_rfl) (by kernel_rfl) ?_
            refine wpQuiet_loadW rfl 25 (.tmp 1) rfl X1 _ rfl _ (by rintro w ⟨z, rfl⟩; exact HLD.out _ z.b) _ Tryd.underlying25 rfl (by kernel_rfl) ?_
            intro v hv
            subst hv
            simp only [Act.put, List.setIfInBounds_toArray, List.set_cons_succ, List.set_cons_zero]
            repeat (go_big_quiet_step (first | (go_at_call 27; exact ext_of (HON _)) | (go_at_call 28; first | exact ext_of (HIX _) | exact ext_of (HJX _))))
            refine wpQuiet_nil ?_
            rintro _ ⟨⟨wz, hbn⟩, rfl⟩
            have KX1_7 := hid (keep_laid KX1_4.out hbn)
            have HB_8 := hid (HB_5.out.trans (hbn.mono HB_5.out.size))
            have KX6_9 := hid (keep_laid KX6_6.out hbn)
            clear KX1_4 HB_5 KX6_6 hbn g0 g1 g2 g3 g16 HON HIX
            go_wp2
            go_ret
            exact ⟨retb HE.out, HB_8.out⟩
          | true =>
            by_cases hj0 : j = 0
            · have u1 : decide (0 < ((j : Nat) : Int)) = false := by simp; omega
              have u1n : decide (0 < j) = false := by simp; omega
              have HT : Hid (∀ i, i < j + 1 → goodAt G L i) := hid (by
                intro i hi
                rcases Nat.lt_or_eq_of_le (Nat.lt_succ_iff.1 hi) with h | h
                · exact HA.out i h
                · intro y hy
                  rw [h, HX.out] at hy
                  cases hy
                  exact ⟨HO.out, .inl (by rw [h, hj0])⟩)
              clear hj0
              refine wp_region_ext (by kernel_rfl) (by kernel_rfl) ?_
              refine wpQuiet_loadW rfl 25 (.tmp 1) rfl X1 _ rfl _ (by rintro w ⟨z, rfl⟩; exact HLD.out _ z.b) _ Tryd.underlying25 rfl (by kernel_rfl) ?_
              intro v hv
              subst hv
              simp only [Act.put, List.setIfInBounds_toArray, List.set_cons_succ, List.set_cons_zero]
              repeat (go_big_quiet_step (first | (go_at_call 27; exact ext_of (HON _)) | (go_at_call 28; first | exact ext_of (HIX _) | exact ext_of (HJX _))))
              refine wpQuiet_nil ?_
              rintro _ ⟨⟨wz, hbn⟩, rfl⟩
              have KX1_7 := hid (keep_laid KX1_4.out hbn)
              have HB_8 := hid (HB_5.out.trans (hbn.mono HB_5.out.size))
              have KX6_9 := hid (keep_laid KX6_6.out hbn)
              clear KX1_4 HB_5 KX6_6 hbn g0 g1 g2 g3 g16 HON HIX
              go_wp2
              go_roundg (gk - 1)
              case measure => have := HJ.out; omega
              case rel => exact ⟨j + 1, _, _, by have := HJ.out; omega, by go_num, rfl, rfl, HT, KX1_7, HB_8⟩
            · have u1 : decide (0 < ((j : Nat) : Int)) = true := by simp; omega
              have u1n : decide (0 < j) = true := by simp; omega
              obtain ⟨i, hi⟩ : ∃ i, j = i + 1 := ⟨j - 1, by omega⟩
              have e1 : IntKind.i64.wrap (((j : Nat) : Int) - 1) = ((i : Nat) : Int) := by rw [IntKind.wrap_i64]; omega
              obtain ⟨⟨y0, y1, y2, y3⟩, hy⟩ : ∃ y, L[i]? = some y := ⟨_, List.getElem?_eq_getElem (by rw [HN.out]; omega)⟩
              obtain ⟨b2, off2, hab, -, hcy⟩ := HL.out.pr (show i < n by omega) hy
              simp only [Option.some.injEq, Addr.mk.injEq, and_true] at hab
              obtain ⟨rfl, rfl⟩ := hab
              have p0 : ∀ z : Ext u2_373, z.v.cell? ⟨b, off + i * 4, none⟩ = some (.int .u64 ((y0 : Nat) : Int)) := fun z => (hcy z.v (HB_5.out.trans (z.b.mono HB_5.out.size))).1
              have hin : i < n := by omega
              have HJX := fun (z : Ext u2_373) => rIndex_any y0 z.v (HPL.out _ (List.mem_of_getElem? hy)).1
              obtain ⟨r, hr⟩ : ∃ r, y0 % 64 = r := ⟨_, rfl⟩
              rw [hr] at HJX
              have hr64 : r < 64 := by omega
              have HR := hid hr
              have HY := hid hy
              have HI := hid hi
              have hgd : (L.getD (j - 1) (0, 0, false, 0)).1 % 64 = r := by rw [hi, Nat.add_sub_cancel, List.getD_eq_getElem?_getD, hy]; exact hr
              have HGD := hid hgd
              have HJ0 := hid hj0
              clear hcy hy hr hi hgd hj0
              by_cases c1 : r < m
              · have u2 : decide (((m : Nat) : Int) ≤ ((r : Nat) : Int)) = false := by simp; omega
                have u2n : decide (m ≤ r) = false := by simp; omega
                have HT : Hid (∀ i, i < j + 1 → goodAt G L i) := hid (by
                  intro i hi
                  rcases Nat.lt_or_eq_of_le (Nat.lt_succ_iff.1 hi) with h | h
                  · exact HA.out i h
                  · intro y hy
                    rw [h, HX.out] at hy
                    cases hy
                    refine ⟨HO.out, .inr ?_⟩
                    rw [h, HGD.out]
                    show r < x0 % 64
                    rw [HM.out]
                    exact c1)
                clear c1
                refine wp_region_ext (by kernel_rfl) (by kernel_rfl) ?_
                refine wpQuiet_loadW rfl 25 (.tmp 1) rfl X1 _ rfl _ (by rintro w ⟨z, rfl⟩; exact HLD.out _ z.b) _ Tryd.underlying25 rfl (by kernel_rfl) ?_
                intro v hv
                subst hv
                simp only [Act.put, List.setIfInBounds_toArray, List.set_cons_succ, List.set_cons_zero]
                repeat (go_big_quiet_step (first | (go_at_call 27; exact ext_of (HON _)) | (go_at_call 28; first | exact ext_of (HIX _) | exact ext_of (HJX _))))
                refine wpQuiet_nil ?_
                rintro _ ⟨⟨wz, hbn⟩, rfl⟩
                have KX1_7 := hid (keep_laid KX1_4.out hbn)
                have HB_8 := hid (HB_5.out.trans (hbn.mono HB_5.out.size))
                have KX6_9 := hid (keep_laid KX6_6.out hbn)
                clear KX1_4 HB_5 KX6_6 hbn g0 g1 g2 g3 g16 HON HIX p0 HJX
                go_wp2
                go_roundg (gk - 1)
                case measure => have := HJ.out; omega
                case rel => exact ⟨j + 1, _, _, by have := HJ.out; omega, by go_num, rfl, rfl, HT, KX1_7, HB_8⟩
              · have u2 : decide (((m : Nat) : Int) ≤ ((r : Nat) : Int)) = true := by simp; omega
                have u2n : decide (m ≤ r) = true := by simp; omega
                have HE : Hid (false = RV) := hid (by
                  rw [← HRV.out]
                  refine (okP_bad HX.out (.inr ⟨HJ0.out, ?_⟩)).symm
                  rw [HGD.out]
                  show ¬ r < x0 % 64
                  rw [HM.out]
                  exact c1)
                clear c1
                refine wp_region_ext (by kernel_rfl) (by kernel_rfl) ?_
                refine wpQuiet_loadW rfl 25 (.tmp 1) rfl X1 _ rfl _ (by rintro w ⟨z, rfl⟩; exact HLD.out _ z.b) _ Tryd.underlying25 rfl (by kernel_rfl) ?_
                intro v hv
                subst hv
                simp only [Act.put, List.setIfInBounds_toArray, List.set_cons_succ, List.set_cons_zero]
                repeat (go_big_quiet_step (first | (go_at_call 27; exact ext_of (HON _)) | (go_at_call 28; first | exact ext_of (HIX _) | exact ext_of (HJX _))))
                refine wpQuiet_nil ?_
                rintro _ ⟨⟨wz, hbn⟩, rfl⟩
                have KX1_7 := hid (keep_laid KX1_4.out hbn)
                have HB_8 := hid (HB_5.out.trans (hbn.mono HB_5.out.size))
                have KX6_9 := hid (keep_laid KX6_6.out hbn)
                clear KX1_4 HB_5 KX6_6 hbn g0 g1 g2 g3 g16 HON HIX p0 HJX
                go_wp2
                go_ret
                exact ⟨retb HE.out, HB_8.out⟩
        · have hjn : j = n := by have := HJ.out; omega
          have HGD : Hid (∀ i, goodAt G L i) := hid (by
            intro i
            by_cases hi : i < n
            · exact HA.out i (by omega)
            · intro x hx
              rw [List.getElem?_eq_none (by rw [HN.out]; omega)] at hx
              cases hx)
          have x16 := cell_laid (i := 16) KX1.out rfl
          by_cases hn0 : n = 0
          · have u1 : decide (0 < ((n : Nat) : Int)) = false := by simp; omega
            have HE : Hid (false = RV) := hid (by
              rw [← HRV.out]
              cases ho : okP G L with
              | false => rfl
              | true =>
                have := ((okP_good G L).1 ho).2.2
                rw [List.getElem?_eq_none (by rw [HN.out]; omega)] at this
                cases this)
            go_wp2
            go_ret
            exact ⟨retb HE.out, HB.out⟩
          · have u1 : decide (0 < ((n : Nat) : Int)) = true := by simp; omega
            have hn1 : 0 < n := by omega
            obtain ⟨⟨x0, x1, x2, x3⟩, hx⟩ : ∃ x, L[0]? = some x := ⟨_, List.getElem?_eq_getElem (by rw [HN.out]; omega)⟩
            obtain ⟨b, off, rfl, -, hcx⟩ := HL.out.pr hn1 hx
            obtain ⟨f0, f1, f2, f3⟩ := hcx wr HB.out
            rw [Nat.zero_mul, Nat.add_zero] at f0 f1 f2 f3
            dsimp only at f0 f1 f2 f3
            obtain ⟨q1, q2, q3⟩ := HPL.out _ (List.mem_of_getElem? hx)
            have hpe : ∀ w, (Op.equalIn 10000 45 (.agg #[.int .u64 ((x0 : Nat) : Int), .int .u64 ((x1 : Nat) : Int), .bool x2, .int .u64 ((x3 : Nat) : Int)]) (.agg #[.int .u64 1, .int .u64 0, .bool false, .int .u64 0])).run Tryd.prog w = .ok (decide ((x0, x1, x2, x3) = ((1, 0, false, 0) : Pr))) w := fun w => (pr_eq x0 x1 x3 1 0 0 x2 false ⟨q1, q2, q3⟩ (by decide) w)
            obtain ⟨D, hD⟩ : ∃ d, decide ((x0, x1, x2, x3) = ((1, 0, false, 0) : Pr)) = d := ⟨_, rfl⟩
            rw [hD] at hpe
            have HE : Hid (D = RV) := hid (by
              rw [← HRV.out, ← hD, Bool.eq_iff_iff, okP_good, decide_eq_true_eq, hx]
              constructor
              · intro h; exact ⟨HGB.out, HGD.out, by rw [h]⟩
              · intro h; exact Option.some.inj h.2.2)
            clear hcx hx q1 q2 q3 hD
            go_wp2
            go_ret
            exact ⟨retb HE.out, HB.out⟩
end Go.Proofs.YtmnbkhmphhgdiaaDoor
