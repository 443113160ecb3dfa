/- The document's Spawn; the law's spoil (printed by gen_pr19.py). -/
import Derived.Test.YtmnbkhmphhgdiaaDoorPr18
namespace Go.Proofs.YtmnbkhmphhgdiaaDoor
open Go.RowKit Go.Shelf
open Go.Proofs
set_option linter.unusedVariables false
attribute [local go_sem] Oper.semAt_some
theorem rspawn_result {W : World} {b4 : Nat} {v4_0 v4_1 v4_2 v4_3 v4_4 v4_5 v4_6 v4_7 v4_8 v4_9 v4_10 v4_11 v4_12 v4_13 v4_14 v4_15 v4_16 u5 u6 : Value} {tmps : Array Value} (h4 : W.heap[b4]? = some (.cells #[v4_0, v4_1, v4_2, v4_3, v4_4, v4_5, v4_6, v4_7, v4_8, v4_9, v4_10, v4_11, v4_12, v4_13, v4_14, v4_15, v4_16] 25 (0, 0))) (q4 : tmps[4]?.getD undef = .pointer (some ⟨b4, 0, none⟩)) (q5 : tmps[5]?.getD undef = u5) (q6 : tmps[6]?.getD undef = u6) :
    (results Tryd.f11 tmps).run Tryd.prog W = .ok (.tuple #[.agg #[v4_0, v4_1, v4_2, v4_3, v4_4, v4_5, v4_6, v4_7, v4_8, v4_9, v4_10, v4_11, v4_12, v4_13, v4_14, v4_15, v4_16], u5, u6]) W := by
  have e4_0 := cell_laid (i := 0) (v := v4_0) h4 rfl
  have e4_1 := cell_laid (i := 1) (v := v4_1) h4 rfl
  have e4_2 := cell_laid (i := 2) (v := v4_2) h4 rfl
  have e4_3 := cell_laid (i := 3) (v := v4_3) h4 rfl
  have e4_4 := cell_laid (i := 4) (v := v4_4) h4 rfl
  have e4_5 := cell_laid (i := 5) (v := v4_5) h4 rfl
  have e4_6 := cell_laid (i := 6) (v := v4_6) h4 rfl
  have e4_7 := cell_laid (i := 7) (v := v4_7) h4 rfl
  have e4_8 := cell_laid (i := 8) (v := v4_8) h4 rfl
  have e4_9 := cell_laid (i := 9) (v := v4_9) h4 rfl
  have e4_10 := cell_laid (i := 10) (v := v4_10) h4 rfl
  have e4_11 := cell_laid (i := 11) (v := v4_11) h4 rfl
  have e4_12 := cell_laid (i := 12) (v := v4_12) h4 rfl
  have e4_13 := cell_laid (i := 13) (v := v4_13) h4 rfl
  have e4_14 := cell_laid (i := 14) (v := v4_14) h4 rfl
  have e4_15 := cell_laid (i := 15) (v := v4_15) h4 rfl
  have e4_16 := cell_laid (i := 16) (v := v4_16) h4 rfl
  simp [results, Tryd.results11, go_sem, e4_0, e4_1, e4_2, e4_3, e4_4, e4_5, e4_6, e4_7, e4_8, e4_9, e4_10, e4_11, e4_12, e4_13, e4_14, e4_15, e4_16, q4, q5, q6]
theorem insR_eq {L : List Pr} (h : L.Pairwise fun x y => x.1 % 64 < y.1 % 64) (x : Pr) (hx : ∀ y ∈ L, y.1 % 64 ≠ x.1 % 64) : insR L x = insP L x := by
  induction L with
  | nil => rfl
  | cons z r ih =>
    obtain ⟨h1, h2⟩ := List.pairwise_cons.1 h
    have hz := hx z (List.mem_cons_self ..)
    by_cases hlt : x.1 % 64 < z.1 % 64
    · have e : insP (z :: r) x = x :: z :: r := by simp [insP, hlt]
      have e1 : (z :: r).filter (fun y => decide (y.1 % 64 < x.1 % 64)) = [] := List.filter_eq_nil_iff.2 fun y hy => by
        rcases List.mem_cons.1 hy with rfl | hy
        · simp; omega
        · have := h1 y hy; simp; omega
      have e2 : (z :: r).filter (fun y => decide (x.1 % 64 < y.1 % 64)) = z :: r := List.filter_eq_self.2 fun y hy => by
        rcases List.mem_cons.1 hy with rfl | hy
        · simpa using hlt
        · have := h1 y hy; simp; omega
      unfold insR
      rw [e, e1, e2]
      rfl
    · have e : insP (z :: r) x = z :: insP r x := by simp [insP, hlt]
      rw [e, ← ih h2 fun y hy => hx y (List.mem_cons_of_mem _ hy)]
      unfold insR
      rw [List.filter_cons, if_pos (by simp; omega), List.filter_cons, if_neg (by simpa using hlt)]
      rfl
set_option maxRecDepth 100000 in
set_option maxHeartbeats 16000000 in
theorem rSpawn_any (n c parent : Nat) (a : Option Addr) (G : Nat → Int) (L : List Pr) (V : World) (hl : Leads V a n c (prcells L)) (hn : L.length = n) (hn5 : n ≤ 1000) (hL : PrsOk L) (hok : OkL G L) :
    Calls Tryd.prog 11 #[.agg #[.int .i64 (G 0), .int .i64 (G 1), .int .i64 (G 2), .int .i64 (G 3), .int .i64 (G 4), .int .i64 (G 5), .int .i64 (G 6), .int .i64 (G 7), .int .i64 (G 8), .int .i64 (G 9), .int .i64 (G 10), .int .i64 (G 11), .int .i64 (G 12), .int .i64 (G 13), .int .i64 (G 14), .int .i64 (G 15), .slice a n c], .int .u64 ((parent : Nat) : Int)] V (Gives3 V (spawnP G L parent)) := by
  obtain ⟨V1, hV1, hbV1, hsV1, hlV1⟩ := laid V #[.int .i64 (G 0), .int .i64 (G 1), .int .i64 (G 2), .int .i64 (G 3), .int .i64 (G 4), .int .i64 (G 5), .int .i64 (G 6), .int .i64 (G 7), .int .i64 (G 8), .int .i64 (G 9), .int .i64 (G 10), .int .i64 (G 11), .int .i64 (G 12), .int .i64 (G 13), .int .i64 (G 14), .int .i64 (G 15), .slice a n c] 25
  obtain ⟨V2, hV2, hbV2, hsV2, hlV2⟩ := laid V1 #[.int .i64 0, .int .i64 0, .int .i64 0, .int .i64 0, .int .i64 0, .int .i64 0, .int .i64 0, .int .i64 0, .int .i64 0, .int .i64 0, .int .i64 0, .int .i64 0, .int .i64 0, .int .i64 0, .int .i64 0, .int .i64 0, .slice none 0 0] 25
  obtain ⟨X2, hX2⟩ : ∃ X, V.heap.size = X := ⟨_, rfl⟩
  rw [hX2] at hlV1
  obtain ⟨X4, hX4⟩ : ∃ X, V1.heap.size = X := ⟨_, rfl⟩
  rw [hX4] at hlV2
  have KX2 := hid (keep_laid hlV1 hbV2)
  have KX4 := hid hlV2
  have HB := hid (step hbV1 hbV2)
  have hVX2 : V.heap.size ≤ X2 := by omega
  have hVX4 : V.heap.size ≤ X4 := by omega
  have nX2X4 : X2 < X4 := by omega
  clear hbV1 hsV1 hlV1 hbV2 hsV2 hlV2
  have HL := hid hl
  have HN := hid hn
  have HPL := hid hL
  have HOK := hid hok
  have hlen := hl.len
  obtain ⟨RES, hRES⟩ : ∃ r, spawnP G L parent = r := ⟨_, rfl⟩
  rw [hRES]
  have HRES : Hid (spawnP G L parent = RES) := hid hRES
  clear hRES
  have HRU := hid (rRuns_any n c parent a L V2 (hl.grow HB.out) hn hn5)
  clear hl hn hL hok
  go_enter Tryd.func11, Tryd.ntmps11
  have x16 := cell_laid (i := 16) KX2.out rfl
  cases hr : runsB L parent with
  | false =>
    rw [hr] at HRU
    have HR := hid hr
    clear hr
    go_wp2_with fail
    refine (HRU.out).mono ?_
    rintro e w1_80 ⟨rfl, hbn⟩
    have KX2_1 := hid (keep_laid KX2.out hbn)
    have KX4_2 := hid (keep_laid KX4.out hbn)
    have HB_3 := hid (HB.out.trans (hbn.mono HB.out.size))
    clear KX2 KX4 HB hbn HRU x16 hX2 hX4 hV1 hV2
    go_wp2_with (refine wp_storeW rfl 25 (.tmp 4) (.tmp 14) rfl X4 _ _ rfl rfl _ KX4_2.out (by kernel_rfl) (by rfl) (by simp [Value.oneCell']) ?_; intro u9 a1 a2 a3 a4; have HA1 := hid a1; have HA3 := hid a3; clear a1 a2 a3 a4)
    have HB9 := hid (HA3.out _ _ (by omega) HB_3.out)
    have e := HRES.out
    unfold spawnP at e
    rw [if_neg (by rw [HR.out]; decide)] at e
    subst e
    refine bodyPost_ret (rspawn_result HA1.out rfl rfl rfl) rfl ⟨HB9.out, rfl⟩
  | true =>
    rw [hr] at HRU
    have HR := hid hr
    clear hr
    go_wp2_with fail
    refine (HRU.out).mono ?_
    rintro e w1_98 ⟨rfl, hbn⟩
    have KX2_1 := hid (keep_laid KX2.out hbn)
    have KX4_2 := hid (keep_laid KX4.out hbn)
    have HB_3 := hid (HB.out.trans (hbn.mono HB.out.size))
    clear KX2 KX4 HB hbn HRU x16 hX2 hX4 hV1 hV2
    go_wp2
    go_loopg [15, 7, 8] 16 (fun g ti t7 t8 wr => ∃ (k : Nat) (v7 v8 : Value), g + k = 16 ∧ ti = .int .i64 ((k : Nat) : Int) ∧ t7 = v7 ∧ t8 = v8 ∧ Hid (leastI G L 0 = leastI G L k) ∧ Hid (wr.heap[X2]? = some (.cells #[.int .i64 (G 0), .int .i64 (G 1), .int .i64 (G 2), .int .i64 (G 3), .int .i64 (G 4), .int .i64 (G 5), .int .i64 (G 6), .int .i64 (G 7), .int .i64 (G 8), .int .i64 (G 9), .int .i64 (G 10), .int .i64 (G 11), .int .i64 (G 12), .int .i64 (G 13), .int .i64 (G 14), .int .i64 (G 15), .slice a n c] 25 (0, 0))) ∧ Hid (wr.heap[X4]? = some (.cells #[.int .i64 0, .int .i64 0, .int .i64 0, .int .i64 0, .int .i64 0, .int .i64 0, .int .i64 0, .int .i64 0, .int .i64 0, .int .i64 0, .int .i64 0, .int .i64 0, .int .i64 0, .int .i64 0, .int .i64 0, .int .i64 0, .slice none 0 0] 25 (0, 0))) ∧ Hid (Below V.heap.size V wr))
    case atStart => exact ⟨0, _, _, rfl, rfl, rfl, rfl, hid rfl, KX2_1, KX4_2, HB_3⟩
    case round =>
      clear KX2_1 KX4_2 HB_3
      obtain ⟨k, v7, v8, hk, rfl, hv7, hv8, HLI, KX2, KX4, HB⟩ := hrel
      subst hv7 hv8
      have HK := hid hk
      clear hk
      by_cases hlt : k < 16
      · have hg0 := (HOK.out.gens k hlt).1
        obtain ⟨g, hg⟩ : ∃ g : Nat, G k = (g : Int) := ⟨(G k).toNat, by omega⟩
        have hg5 : g ≤ 65536 := by have := (HOK.out.gens k hlt).2; omega
        have HG := hid hg
        obtain ⟨k1, hk1⟩ : ∃ x, x = k + 1 := ⟨_, rfl⟩
        have e0 : IntKind.i64.wrap (((k : Nat) : Int) + 1) = ((k1 : Nat) : Int) := by rw [IntKind.wrap_i64]; omega
        have HK1 := hid hk1
        have HTK := hid (rTaken_any n c k1 a L wr (HL.out.grow HB.out) HN.out hn5 HPL.out (by omega))
        obtain ⟨TK, hTK⟩ : ∃ b, (L.any fun x => decide (x.1 % 64 = k1)) = b := ⟨_, rfl⟩
        rw [hTK] at HTK
        have HTK2 : Hid ((L.any fun x => decide (x.1 % 64 = k + 1)) = TK) := hid (by rw [← hk1]; exact hTK)
        have x16 := cell_laid (i := 16) KX2.out rfl
        clear hg0 hg hk1 hTK
        go_wp2_with fail
        refine (HTK.out).mono ?_
        rintro e w2_129 ⟨rfl, hbn⟩
        have KX2_4 := hid (keep_laid KX2.out hbn)
        have KX4_5 := hid (keep_laid KX4.out hbn)
        have HB_6 := hid (HB.out.trans (hbn.mono HB.out.size))
        clear KX2 KX4 HB hbn HTK x16
        have gi : w2_129.cell? ⟨X2, k, none⟩ = some (.int .i64 ((g : Nat) : Int)) := by rw [← HG.out]; exact cells16 KX2_4.out k hlt
        cases TK with
        | true =>
          have HNX := hid (leastI_next (G := G) (L := L) hlt (.inl HTK2.out))
          go_wp2
          go_roundg (gk - 1)
          case measure => have := HK.out; omega
          case rel => exact ⟨k1, _, _, by have := HK.out; have := HK1.out; omega, rfl, rfl, rfl, hid (by rw [HLI.out, HNX.out, HK1.out]), KX2_4, KX4_5, HB_6⟩
        | false =>
          by_cases hgt : 65535 < g
          · have u1 : decide (65535 < ((g : Nat) : Int)) = true := by simp; omega
            have u2 : decide (65535 < g) = true := by simp; omega
            have HNX := hid (leastI_next (G := G) (L := L) hlt (.inr (by rw [HG.out]; omega)))
            go_wp2
            go_roundg (gk - 1)
            case measure => have := HK.out; omega
            case rel => exact ⟨k1, _, _, by have := HK.out; have := HK1.out; omega, rfl, rfl, rfl, hid (by rw [HLI.out, HNX.out, HK1.out]), KX2_4, KX4_5, HB_6⟩
          · have u1 : decide (65535 < ((g : Nat) : Int)) = false := by simp; omega
            have u2 : decide (65535 < g) = false := by simp; omega
            have HNX := hid (leastI_hit (G := G) (L := L) hlt HTK2.out (by rw [HG.out]; omega))
            obtain ⟨m1, hm1⟩ : ∃ m, m = g * 64 := ⟨_, rfl⟩
            obtain ⟨m2, hm2⟩ : ∃ m, m = m1 + k := ⟨_, rfl⟩
            obtain ⟨pid, hpid⟩ : ∃ m, m = m2 + 1 := ⟨_, rfl⟩
            have HPID : Hid (pid = spawnAt G k) := hid (by unfold spawnAt; rw [HG.out]; omega)
            have hpb : pid < 10000000 := by omega
            have a1 : IntKind.u64.wrap ((g : Nat) : Int) = ((g : Nat) : Int) := by rw [IntKind.wrap_u64]; omega
            have a2 : IntKind.u64.wrap (((g : Nat) : Int) * 64) = ((m1 : Nat) : Int) := by rw [IntKind.wrap_u64]; omega
            have a3 : IntKind.u64.wrap ((k : Nat) : Int) = ((k : Nat) : Int) := by rw [IntKind.wrap_u64]; omega
            have a4 : IntKind.u64.wrap (((m1 : Nat) : Int) + ((k : Nat) : Int)) = ((m2 : Nat) : Int) := by rw [IntKind.wrap_u64]; omega
            have a5 : IntKind.u64.wrap (((m2 : Nat) : Int) + 1) = ((pid : Nat) : Int) := by rw [IntKind.wrap_u64]; omega
            have a6 : IntKind.i64.wrap (((g : Nat) : Int) + 1) = ((g : Nat) : Int) + 1 := by rw [IntKind.wrap_i64]; omega
            clear hm1 hm2 hpid hgt
            obtain ⟨w3_168, hw3_168, hbn, hsn, hln⟩ := laid w2_129 #[.int .u64 0, .int .u64 0, .bool false, .int .u64 0] 45
            obtain ⟨X8, hNMX8⟩ : ∃ X, w2_129.heap.size = X := ⟨_, rfl⟩
            rw [hNMX8] at hln
            have nX2X8 : X2 < X8 := by have := lt_laid KX2_4.out; omega
            have nX4X8 : X4 < X8 := by have := lt_laid KX4_5.out; omega
            have hVX8 : V.heap.size ≤ X8 := by have := HB_6.out.size; omega
            have KX2_7 := hid (keep_laid KX2_4.out hbn)
            have KX4_8 := hid (keep_laid KX4_5.out hbn)
            have HB_9 := hid (HB_6.out.trans (hbn.mono HB_6.out.size))
            clear KX2_4 KX4_5 HB_6 hbn hsn
            have KX8_10 := hid (hln)
            clear hln
            have KX8_10_o := KX8_10.out
            obtain ⟨u4_181, hu4_181, a1, a2, a3, a4⟩ := putN4 KX8_10.out (.int .u64 ((pid : Nat) : Int)) (.int .u64 ((parent : Nat) : Int)) (.bool false) (.int .u64 0)
            obtain ⟨z0, zf0, z1, zf1, z2, zf2, z3, zf3⟩ := fcl4 (KX8_10.out)
            have E5_181 := hid hu4_181
            have KX2_11 := hid (a2 X2 _ (by omega) KX2_7.out)
            have KX4_12 := hid (a2 X4 _ (by omega) KX4_8.out)
            have HB_13 := hid (a3 _ _ (by omega) HB_9.out)
            have KX8_14 := hid (a1)
            clear KX2_7 KX4_8 HB_9 KX8_10 hu4_181 a1 a2 a3 a4
            clear KX8_10_o
            go_upto_region 8 with (fail)
            rw [← E5_181.out]
            clear z0 z1 z2 z3 zf0 zf1 zf2 zf3 hNMX8 hw3_168 gi a1 a2 a3 a4 a5 e0
            have gi : u4_181.cell? ⟨X2, k, none⟩ = some (.int .i64 ((g : Nat) : Int)) := by rw [← HG.out]; exact cells16 KX2_11.out k hlt
            have gif : u4_181.frozen? ⟨X2, k, none⟩ = false := free_laid (i := k) KX2_11.out
            obtain ⟨u6, hu6⟩ : ∃ u, World.setCell u4_181 ⟨X2, k, none⟩ (.int .i64 ((g : Int) + 1)) = u := ⟨_, rfl⟩
            have E6 := hid hu6
            have T2 : Hid (u6.heap[X2]? = some (.cells #[.int .i64 ((updG G k (G k + 1)) 0), .int .i64 ((updG G k (G k + 1)) 1), .int .i64 ((updG G k (G k + 1)) 2), .int .i64 ((updG G k (G k + 1)) 3), .int .i64 ((updG G k (G k + 1)) 4), .int .i64 ((updG G k (G k + 1)) 5), .int .i64 ((updG G k (G k + 1)) 6), .int .i64 ((updG G k (G k + 1)) 7), .int .i64 ((updG G k (G k + 1)) 8), .int .i64 ((updG G k (G k + 1)) 9), .int .i64 ((updG G k (G k + 1)) 10), .int .i64 ((updG G k (G k + 1)) 11), .int .i64 ((updG G k (G k + 1)) 12), .int .i64 ((updG G k (G k + 1)) 13), .int .i64 ((updG G k (G k + 1)) 14), .int .i64 ((updG G k (G k + 1)) 15), .slice a n c] 25 (0, 0))) := hid (by rw [← hu6, ← HG.out, ← setG G (G k + 1) _ k hlt]; exact set_laid (i := k) KX2_11.out _)
            have T4 : Hid (u6.heap[X4]? = some (.cells #[.int .i64 0, .int .i64 0, .int .i64 0, .int .i64 0, .int .i64 0, .int .i64 0, .int .i64 0, .int .i64 0, .int .i64 0, .int .i64 0, .int .i64 0, .int .i64 0, .int .i64 0, .int .i64 0, .int .i64 0, .int .i64 0, .slice none 0 0] 25 (0, 0))) := hid (by rw [← hu6]; exact other_laid KX4_12.out (show X4 ≠ X2 by omega) _)
            have T8 : Hid (u6.heap[X8]? = some (.cells #[.int .u64 ((pid : Nat) : Int), .int .u64 ((parent : Nat) : Int), .bool false, .int .u64 0] 45 (0, 0))) := hid (by rw [← hu6]; exact other_laid KX8_14.out (show X8 ≠ X2 by omega) _)
            have B6 := hid (show Below V.heap.size V u6 by rw [← hu6]; exact HB_13.out.setCell (p := ⟨X2, k, none⟩) (by show _ ≤ X2; omega) _)
            clear hu6 KX2_11 KX4_12 KX8_14 HB_13
            go_upto_region 9 with (fail)
            rw [E6.out]
            clear gi gif a6
            obtain ⟨z0, z1, z2, z3⟩ := ncl4 T8.out
            have x16 := cell_laid (i := 16) T2.out rfl
            have xf16 := free_laid (i := 16) T2.out
            have HPU := hid (rPut_any n c a L pid parent false 0 u6 (HL.out.grow B6.out) HN.out hn5 HPL.out (by omega))
            obtain ⟨hi16, hno, -⟩ := leastI_some HNX.out
            have hmp : pid % 64 = k + 1 := by rw [HPID.out]; unfold spawnAt; rw [HG.out]; omega
            rw [insR_eq HOK.out.sort (pid, parent, false, 0) (fun y hy => by show y.1 % 64 ≠ pid % 64; rw [hmp]; exact hno y hy)] at HPU
            unfold GivesPr at HPU
            rw [ins_len, HN.out] at HPU
            clear hno hmp
            go_wp2_with fail
            refine (HPU.out).mono ?_
            rintro e w6_215 ⟨v, rfl, hrow, hbn⟩
            clear HPU x16 xf16 z0 z1 z2 z3
            have hwV : V.heap.size ≤ u6.heap.size := B6.out.size
            have T2_15 := hid (keep_laid T2.out hbn)
            have T4_16 := hid (keep_laid T4.out hbn)
            have T8_17 := hid (keep_laid T8.out hbn)
            have B6_18 := hid (B6.out.trans (hbn.mono B6.out.size))
            clear T2 T4 T8 B6 hbn
            have HRO := hid (own_base hrow hwV)
            obtain ⟨va, vc, rfl, -⟩ := Leads.of_own hrow
            have hlr := (Leads.of_own1 hrow).len
            clear hrow hwV
            have x16 := cell_laid (i := 16) T2_15.out rfl
            have xf16 := free_laid (i := 16) T2_15.out
            obtain ⟨u9, hu9, a1, a2, a3, a4⟩ := put17_16 T2_15.out (.slice va (n + 1) vc)
            have E9 := hid hu9
            have T3 := hid a1
            have T6 := hid (a2 X4 _ (by omega) T4_16.out)
            have T9 := hid (a2 X8 _ (by omega) T8_17.out)
            have O9 := hid (own_keep HRO.out fun k o hk ho => a2 k o (fun e => own_neP HRO.out T2_15.out (by decide) (by rw [← e]; exact hk)) ho)
            have B9 := hid (a3 _ _ (by omega) B6_18.out)
            clear hu9 a1 a2 a3 a4 T2_15 T4_16 T8_17 B6_18 HRO
            go_upto_region 10 with (fail)
            rw [← E9.out]
            clear x16 xf16
            obtain ⟨D, hD⟩ : ∃ DX, World.drew u9 = DX := ⟨_, rfl⟩
            have hbD : Below u9.heap.size u9 D := by rw [← hD]; exact (Below.refl _ _).drew
            have HD := hid hD
            clear hD
            have T3_19 := hid (keep_laid T3.out hbD)
            have T6_20 := hid (keep_laid T6.out hbD)
            have T9_21 := hid (keep_laid T9.out hbD)
            have B9_22 := hid (B9.out.trans (hbD.mono B9.out.size))
            have O9_23 := hid (own_grow O9.out hbD)
            clear T3 T6 T9 B9 O9 hbD
            haveI : Nonempty (Two X2 X8 #[.int .i64 ((updG G k (G k + 1)) 0), .int .i64 ((updG G k (G k + 1)) 1), .int .i64 ((updG G k (G k + 1)) 2), .int .i64 ((updG G k (G k + 1)) 3), .int .i64 ((updG G k (G k + 1)) 4), .int .i64 ((updG G k (G k + 1)) 5), .int .i64 ((updG G k (G k + 1)) 6), .int .i64 ((updG G k (G k + 1)) 7), .int .i64 ((updG G k (G k + 1)) 8), .int .i64 ((updG G k (G k + 1)) 9), .int .i64 ((updG G k (G k + 1)) 10), .int .i64 ((updG G k (G k + 1)) 11), .int .i64 ((updG G k (G k + 1)) 12), .int .i64 ((updG G k (G k + 1)) 13), .int .i64 ((updG G k (G k + 1)) 14), .int .i64 ((updG G k (G k + 1)) 15), .slice va (n + 1) vc] #[.int .u64 ((pid : Nat) : Int), .int .u64 ((parent : Nat) : Int), .bool false, .int .u64 0] 25 45) := ⟨⟨D, T3_19.out, T9_21.out⟩⟩
            have q0 : ∀ z : Two X2 X8 #[.int .i64 ((updG G k (G k + 1)) 0), .int .i64 ((updG G k (G k + 1)) 1), .int .i64 ((updG G k (G k + 1)) 2), .int .i64 ((updG G k (G k + 1)) 3), .int .i64 ((updG G k (G k + 1)) 4), .int .i64 ((updG G k (G k + 1)) 5), .int .i64 ((updG G k (G k + 1)) 6), .int .i64 ((updG G k (G k + 1)) 7), .int .i64 ((updG G k (G k + 1)) 8), .int .i64 ((updG G k (G k + 1)) 9), .int .i64 ((updG G k (G k + 1)) 10), .int .i64 ((updG G k (G k + 1)) 11), .int .i64 ((updG G k (G k + 1)) 12), .int .i64 ((updG G k (G k + 1)) 13), .int .i64 ((updG G k (G k + 1)) 14), .int .i64 ((updG G k (G k + 1)) 15), .slice va (n + 1) vc] #[.int .u64 ((pid : Nat) : Int), .int .u64 ((parent : Nat) : Int), .bool false, .int .u64 0] 25 45, z.w.cell? ⟨X8, 0, none⟩ = some (.int .u64 ((pid : Nat) : Int)) := fun z => cell_laid z.by_ rfl
            refine wp_region_mix3 (fun W => ∃ z : Two X2 X8 #[.int .i64 ((updG G k (G k + 1)) 0), .int .i64 ((updG G k (G k + 1)) 1), .int .i64 ((updG G k (G k + 1)) 2), .int .i64 ((updG G k (G k + 1)) 3), .int .i64 ((updG G k (G k + 1)) 4), .int .i64 ((updG G k (G k + 1)) 5), .int .i64 ((updG G k (G k + 1)) 6), .int .i64 ((updG G k (G k + 1)) 7), .int .i64 ((updG G k (G k + 1)) 8), .int .i64 ((updG G k (G k + 1)) 9), .int .i64 ((updG G k (G k + 1)) 10), .int .i64 ((updG G k (G k + 1)) 11), .int .i64 ((updG G k (G k + 1)) 12), .int .i64 ((updG G k (G k + 1)) 13), .int .i64 ((updG G k (G k + 1)) 14), .int .i64 ((updG G k (G k + 1)) 15), .slice va (n + 1) vc] #[.int .u64 ((pid : Nat) : Int), .int .u64 ((parent : Nat) : Int), .bool false, .int .u64 0] 25 45, W = z.w) 6 (.q 0 (.q 1 (.q 2 (.h 3 (.q 4 (.q 5 .done)))))) (by kernel_rfl) (by kernel_rfl) (by rw [HD.out]; exact ⟨⟨D, T3_19.out, T9_21.out⟩, rfl⟩) ?_
            rw [HD.out]
            refine wpMix3_q rfl rfl ?_
            refine wpQuiet_loadW rfl 25 (.tmp 2) rfl X2 _ rfl _ (by rintro w ⟨z, rfl⟩; exact z.bx) _ Tryd.underlying25 rfl (by kernel_rfl) ?_
            intro v hv
            subst hv
            refine wpQuiet_nil ?_
            simp only [Act.put, List.setIfInBounds_toArray, List.set_cons_succ, List.set_cons_zero]
            repeat (refine wpMix3_q rfl rfl ?_; go_big_quiet_step (fail); refine wpQuiet_nil ?_)
            refine wpMix3_h rfl fun R' hR' hO => ?_
            go_wp2_with (refine wp_storeW rfl 25 (.tmp 4) (.tmp 55) rfl X4 _ _ rfl rfl _ T6_20.out (by kernel_rfl) (by rfl) (by simp [Value.oneCell']) ?_; intro u20 a1 a2 a3 a4; have HA1 := hid a1; have HA2 := hid a2; have HA3 := hid a3; clear a1 a2 a3 a4)
            have T3_24 := hid (HA2.out X2 _ (by omega) T3_19.out)
            have T6_25 := hid (HA1.out)
            have T9_26 := hid (HA2.out X8 _ (by omega) T9_21.out)
            have B9_27 := hid (HA3.out _ _ (by omega) B9_22.out)
            have O9_28 := hid (own_keep O9_23.out fun k o hk ho => HA2.out k o (fun e => own_neP O9_23.out T6_20.out (by decide) (by rw [← e]; exact hk)) ho)
            clear HA1 HA2 HA3 T3_19 T6_20 T9_21 B9_22 O9_23
            refine hR' _ _ ⟨⟨u20, T3_24.out, T9_26.out⟩, rfl⟩ ?_
            clear hR' hO R'
            repeat (refine wpMix3_q rfl rfl ?_; go_big_quiet_step (fail); refine wpQuiet_nil ?_)
            refine wpMix3_done ?_
            simp only [List.drop_succ_cons, List.drop_nil]
            go_wp2
            have hl9 : (insP L (pid, parent, false, 0)).length = n + 1 := by rw [ins_len, HN.out]
            have e := HRES.out
            unfold spawnP at e
            rw [if_pos HR.out, HLI.out, HNX.out] at e
            dsimp only at e
            rw [← HPID.out] at e
            subst e
            refine bodyPost_ret (rspawn_result T6_25.out rfl rfl rfl) rfl ⟨B9_27.out, va, vc, ?_, ?_⟩
            · rw [hl9]; rfl
            · rw [hl9]; exact O9_28.out
      · have hk16 : k = 16 := by have := HK.out; omega
        have HNI : Hid (leastI G L 0 = none) := hid (by rw [HLI.out, hk16, leastI_none])
        go_wp2_with (refine wp_storeW rfl 25 (.tmp 4) (.tmp 59) rfl X4 _ _ rfl rfl _ KX4.out (by kernel_rfl) (by rfl) (by simp [Value.oneCell']) ?_; intro u9 a1 a2 a3 a4; have HA1 := hid a1; have HA3 := hid a3; clear a1 a2 a3 a4)
        have HB9 := hid (HA3.out _ _ (by omega) HB.out)
        have e := HRES.out
        unfold spawnP at e
        rw [if_pos HR.out, HNI.out] at e
        subst e
        refine bodyPost_ret (rspawn_result HA1.out rfl rfl rfl) rfl ⟨HB9.out, rfl⟩
set_option maxRecDepth 100000 in
set_option maxHeartbeats 16000000 in
theorem Spoil_any (n c base : Nat) (a : Option Addr) (G : Nat → Int) (L : List Pr) (V : World) (hown : V.ownsRow base 45 4 (.slice a n c) n (prcells L)) (hn : L.length = n) (hn5 : n ≤ 1000) :
    Calls Tryd.prog 17 #[.agg #[.int .i64 (G 0), .int .i64 (G 1), .int .i64 (G 2), .int .i64 (G 3), .int .i64 (G 4), .int .i64 (G 5), .int .i64 (G 6), .int .i64 (G 7), .int .i64 (G 8), .int .i64 (G 9), .int .i64 (G 10), .int .i64 (G 11), .int .i64 (G 12), .int .i64 (G 13), .int .i64 (G 14), .int .i64 (G 15), .slice a n c]] V (fun e W => e = .returned (.tuple #[]) ∧ V.grownBy W (Value.slice a n c).ownBlock) := by
  obtain ⟨V1, hV1, hbV1, hsV1, hlV1⟩ := laid V #[.int .i64 (G 0), .int .i64 (G 1), .int .i64 (G 2), .int .i64 (G 3), .int .i64 (G 4), .int .i64 (G 5), .int .i64 (G 6), .int .i64 (G 7), .int .i64 (G 8), .int .i64 (G 9), .int .i64 (G 10), .int .i64 (G 11), .int .i64 (G 12), .int .i64 (G 13), .int .i64 (G 14), .int .i64 (G 15), .slice a n c] 25
  obtain ⟨X1, hX1⟩ : ∃ X, V.heap.size = X := ⟨_, rfl⟩
  rw [hX1] at hlV1
  have KX1 := hid hlV1
  have HB := hid hbV1
  have hVX1 : V.heap.size ≤ X1 := by omega
  clear hbV1 hsV1 hlV1
  have hlen := (Leads.of_own1 hown).len
  have HOW := hid (own_grow hown HB.out)
  have HN := hid hn
  have HOL := hid (fun k hk => own_lt hown k hk)
  have HGR := hid (grownBy_none HB.out (Value.slice a n c).ownBlock)
  have x16 := cell_laid (i := 16) KX1.out rfl
  have hX1V : V.heap.size ≤ X1 := hVX1
  clear hown hn
  go_enter Tryd.func17, Tryd.ntmps17
  go_wp2
  clear x16 hX1 hV1
  go_loopg [6, 2] n (fun g ti t2 wr => ∃ (k : Nat) (v2 : Value) (K : List Pr), g + k = n ∧ ti = .int .i64 ((k : Nat) : Int) ∧ t2 = v2 ∧ Hid (K.length = n) ∧ Hid (wr.heap[X1]? = some (.cells #[.int .i64 (G 0), .int .i64 (G 1), .int .i64 (G 2), .int .i64 (G 3), .int .i64 (G 4), .int .i64 (G 5), .int .i64 (G 6), .int .i64 (G 7), .int .i64 (G 8), .int .i64 (G 9), .int .i64 (G 10), .int .i64 (G 11), .int .i64 (G 12), .int .i64 (G 13), .int .i64 (G 14), .int .i64 (G 15), .slice a n c] 25 (0, 0))) ∧ Hid (wr.ownsRow base 45 4 (.slice a n c) n (prcells K)) ∧ Hid (V.grownBy wr (Value.slice a n c).ownBlock))
  case atStart => exact ⟨0, _, L, rfl, rfl, rfl, HN, KX1, HOW, HGR⟩
  case round =>
    clear KX1 HOW HGR HB
    obtain ⟨k, v2, K, hk, rfl, hv2, HKN, KX1, HOW, HGR⟩ := hrel
    subst hv2
    have HK := hid hk
    clear hk
    by_cases hlt : k < n
    · obtain ⟨-, ⟨h, -⟩ | ⟨g, cap', cur, he, -⟩⟩ := id HOW.out
      · simp only [Value.slice.injEq] at h; omega
      simp only [Value.slice.injEq, true_and] at he
      obtain ⟨rfl, -⟩ := he
      obtain ⟨⟨x0, x1, x2, x3⟩, hx⟩ : ∃ x, K[k]? = some x := ⟨_, List.getElem?_eq_getElem (by rw [HKN.out]; exact hlt)⟩
      have f3 := (HOW.out.cellAt (k * 4 + 3) (by omega)).trans (prcells_at hx).2.2.2
      have ff3 := HOW.out.frozenAt (k * 4 + 3)
      have x16 := cell_laid (i := 16) KX1.out rfl
      obtain ⟨N, hN⟩ : ∃ N : Nat, IntKind.u64.wrap (((x3 : Nat) : Int) + 1) = (N : Int) := ⟨(IntKind.u64.wrap (((x3 : Nat) : Int) + 1)).toNat, by rw [IntKind.wrap_u64]; omega⟩
      have hst := HOW.out.stored (k * 4 + 3) (.int .u64 ((N : Nat) : Int))
      rw [prcells_set3 K k _ N hx] at hst
      obtain ⟨u, hu⟩ : ∃ u, wr.setCell ⟨g, k * 4 + 3, none⟩ (.int .u64 ((N : Nat) : Int)) = u := ⟨_, rfl⟩
      rw [hu] at hst
      have HU := hid hu
      have hgX : g ≠ X1 := fun e => own_neP HOW.out KX1.out (by decide) (by rw [← e]; rfl)
      have O2 := hid hst.1
      have G2 := hid (grownBy_trans HGR.out hst.2)
      have K2 : Hid (u.heap[X1]? = some (.cells #[.int .i64 (G 0), .int .i64 (G 1), .int .i64 (G 2), .int .i64 (G 3), .int .i64 (G 4), .int .i64 (G 5), .int .i64 (G 6), .int .i64 (G 7), .int .i64 (G 8), .int .i64 (G 9), .int .i64 (G 10), .int .i64 (G 11), .int .i64 (G 12), .int .i64 (G 13), .int .i64 (G 14), .int .i64 (G 15), .slice (some ⟨g, 0, none⟩) n c] 25 (0, 0))) := hid (by rw [← hu]; exact other_laid KX1.out (Ne.symm hgX) _)
      have HKN2 : Hid ((K.set k (x0, x1, x2, N)).length = n) := hid (by rw [List.length_set, HKN.out])
      dsimp only at f3
      clear hst hu hx hgX
      go_wp2
      rw [HU.out]
      go_roundg (gk - 1)
      case measure => have := HK.out; omega
      case rel => exact ⟨k + 1, _, _, by have := HK.out; omega, by go_num, rfl, HKN2, K2, O2, G2⟩
    · go_wp2
      go_end0
      exact ⟨rfl, HGR.out⟩
end Go.Proofs.YtmnbkhmphhgdiaaDoor
