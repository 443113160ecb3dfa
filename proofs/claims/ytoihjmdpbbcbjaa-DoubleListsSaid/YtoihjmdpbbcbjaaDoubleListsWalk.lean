/- Lists linked both ways: DoubleLists, the walk (printed by gen_dbllists.py). -/
import Derived.Test.YtoihjmdpbbcbjaaDblWakes
namespace Go.Proofs.Ytoihjmdpbbcbjaa
open Go.RowKit
open Go.Proofs
set_option linter.unusedVariables false
attribute [local go_sem] Oper.semAt_some

theorem goN_small {M : Mem} (hW : Wok M) : ∀ (f a p : Nat) (met : List Nat) (out xs : List Tw) (met' : List Nat) (l : Nat), p < 18446744073709551616 → (∀ t ∈ out, t.1 < 18446744073709551616 ∧ t.2.1 < 18446744073709551616 ∧ t.2.2 < 18446744073709551616) → goN M f a p met out = some (xs, met', l) → ∀ t ∈ xs, t.1 < 18446744073709551616 ∧ t.2.1 < 18446744073709551616 ∧ t.2.2 < 18446744073709551616
  | 0, a, p, met, out, xs, met', l, hp, ho, h => by simp [goN] at h
  | f + 1, a, p, met, out, xs, met', l, hp, ho, h => by
    have hw : ∀ p k, wAt M p k < 18446744073709551616 := fun p k => by
      unfold wAt
      rw [List.getD_eq_getElem?_getD]
      cases hq : M.W[posN p k]? with
      | none => simp
      | some x => exact hW x (List.mem_of_getElem? hq)
    unfold goN at h
    split at h
    · simp only [Option.some.injEq, Prod.mk.injEq] at h
      rw [← h.1]; exact ho
    · split at h
      · cases h
      · split at h
        · refine goN_small hW f p (wAt M p 2) _ _ xs met' l (hw _ _) ?_ h
          intro t ht
          rcases List.mem_append.1 ht with ht | ht
          · exact ho t ht
          · simp only [List.mem_singleton] at ht
            subst ht
            exact ⟨hp, hw _ _, hw _ _⟩
        · cases h
theorem nodesN_tw {M : Mem} {head : Nat} {xs : List Tw} {met : List Nat} (h : nodesN M head = some (xs, met)) (hW : Wok M) : ∀ t ∈ xs, t.1 < 18446744073709551616 ∧ t.2.1 < 18446744073709551616 ∧ t.2.2 < 18446744073709551616 := by
  unfold nodesN at h
  split at h
  · cases h
  · rename_i m0 hm0
    split at h
    · cases h
    · rename_i xs' met' l hg
      have hx : xs' = xs := by split at h <;> simp_all
      subst hx
      refine goN_small hW _ _ _ _ _ _ _ _ ?_ (by simp) hg
      unfold wAt
      rw [List.getD_eq_getElem?_getD]
      cases hq : M.W[posN head 0]? with
      | none => simp
      | some x => exact hW x (List.mem_of_getElem? hq)
theorem lookN_tw (M : Mem) (head : Nat) (hW : Wok M) : ∀ t ∈ (lookN M head).1, t.1 < 18446744073709551616 ∧ t.2.1 < 18446744073709551616 ∧ t.2.2 < 18446744073709551616 := by
  unfold lookN
  split
  · simp
  · cases hn : nodesN M head with
    | none => simp
    | some r => exact nodesN_tw (xs := r.1) (met := r.2) hn hW

theorem take48_wok' {M : Mem} (h : Wok M) : Wok (take48 M) := fun x hx => h x (List.mem_of_mem_take hx)
theorem sameM_self' (M : Mem) : sameM M M = true := by unfold sameM; simp
set_option maxRecDepth 100000 in
set_option maxHeartbeats 16000000 in
theorem lists_walk (M : Mem) (hs : List Nat) (t : Tw) (wa la : Option Addr) (wc0M lc : Nat) (a : Option Addr) (n cap : Nat) (V : World) (h : MemL V wa wc0M la lc M) (hW : Wok M) (hl : hs.length = n) (hle : Leads V a n cap (wcells hs)) (hsb : ∀ x ∈ hs, x < 18446744073709551616) (ht : t.1 < 18446744073709551616 ∧ t.2.1 < 18446744073709551616 ∧ t.2.2 < 18446744073709551616) :
    Calls Try.prog 3 #[memV wa wc0M la lc M, .slice a n cap, twV t] V (Ret (.bool true) V) := by
  obtain ⟨t0, t1, t2⟩ := t
  obtain ⟨V1, hV1, hb1, hs1, hl1⟩ := laid V #[.slice wa M.W.length wc0M, .slice la M.L.length lc, .bool M.F] 25
  obtain ⟨V2, hV2, hb2, hs2, hl2⟩ := laid V1 #[.int .u64 ((t0 : Nat) : Int), .int .u64 ((t1 : Nat) : Int), .int .u64 ((t2 : Nat) : Int)] 28
  obtain ⟨Xm, hXm⟩ : ∃ X, V.heap.size = X := ⟨_, rfl⟩
  obtain ⟨Y, hY⟩ : ∃ X, V1.heap.size = X := ⟨_, rfl⟩
  rw [hXm] at hl1
  rw [hY] at hl2
  have HB2 := hid (step hb1 hb2)
  have HX2 := hid (keep_laid hl1 hb2)
  have HY2 := hid hl2
  have hVX : V.heap.size ≤ Xm := by omega
  have hXY : Xm < Y := by omega
  have HWK := hid (take48_wok' hW)
  have HTB := hid ht
  have HSB := hid hsb
  have HLN := hid hl
  have HLE := hid hle
  have hwl := h.w.len
  have hll := h.l.len
  have hnl := hle.len
  have HOWN : Hid (∀ W : World, Below V.heap.size V W → Calls Try.prog 8 #[.agg #[.slice wa M.W.length wc0M, .slice la M.L.length lc, .bool M.F]] W (GivesM (take48 M) W)) := hid (fun W hb => lawown_any M wa la wc0M lc W (h.grow hb))
  obtain ⟨Mk, hMk⟩ : ∃ Mk, take48 M = Mk := ⟨_, rfl⟩
  rw [hMk] at HOWN HWK
  unfold memV twV
  clear h hW hsb hl hle ht hb1 hb2 hs1 hs2 hl1 hl2 hMk
  go_enter Try.func3, Try.ntmps3
  go_wp2_with fail
  refine (wakes_any V2).mono ?_
  rintro e V3 ⟨rfl, hb3⟩
  obtain ⟨x0, x1, x2⟩ := cells3 (keep_laid HX2.out hb3)
  have HB3 := hid (step HB2.out hb3)
  have HX3 := hid (keep_laid HX2.out hb3)
  have HY3 := hid (keep_laid HY2.out hb3)
  clear hb3
  go_wp2_with fail
  refine (HOWN.out V3 HB3.out).mono ?_
  rintro e V4 ⟨wa0, wc0, la0, lc0, rfl, hO, hb4⟩
  obtain ⟨V5, hV5, hb5, hs5, hl5⟩ := laid V4 #[.slice none 0 0, .slice none 0 0, .bool false] 25
  obtain ⟨Mb, hMb⟩ : ∃ X, V4.heap.size = X := ⟨_, rfl⟩
  rw [hMb] at hl5
  obtain ⟨V6, hV6, hl6, hk6, hb6, hm6⟩ := put_mem hl5 (.slice wa0 Mk.W.length wc0) (.slice la0 Mk.L.length lc0) (.bool Mk.F)
  have hYM : Y < Mb := by have := lt_laid (keep_laid HY3.out hb4); omega
  have HX6 := hid (hk6 _ _ (by omega) (keep_laid HX3.out (step hb4 hb5)))
  have HY6 := hid (hk6 _ _ (by omega) (keep_laid HY3.out (step hb4 hb5)))
  have HM6 := hid hl6
  have HO6 := hid (hm6 _ _ _ _ _ _ ((hO.base HB3.out.size).grow hb5)).memL
  have HB6 := hid (hb6 _ _ (by omega) (step (step HB3.out hb4) hb5))
  have HV6 := hid hV6
  have z0 := cell_laid (i := 0) hl5 rfl
  have zf0 := free_laid (i := 0) hl5
  have z1 := cell_laid (i := 1) hl5 rfl
  have zf1 := free_laid (i := 1) hl5
  have z2 := cell_laid (i := 2) hl5 rfl
  have zf2 := free_laid (i := 2) hl5
  rw [show memV wa0 wc0 la0 lc0 Mk = .agg #[.slice wa0 Mk.W.length wc0, .slice la0 Mk.L.length lc0, .bool Mk.F] from rfl]
  clear hb4 hb5 hs5 hl5 hV6 hl6 hk6 hb6 hm6 hO x0 x1 x2 HX2 HY2 HX3 HY3 HB2 HB3
  go_upto_region 4 with (fail)
  rw [← HV6.out]
  clear z0 zf0 z1 zf1 z2 zf2 HV6
  have HRI := hid (RefRight_any Mk wa0 la0 wc0 lc0 V6 HO6.out)
  unfold memV at HRI
  obtain ⟨m0, m1, m2⟩ := cells3 HM6.out
  go_wp2_with fail
  refine HRI.out.mono ?_
  rintro e W0 ⟨rfl, hb0⟩
  have HX := hid (keep_laid HX6.out hb0)
  have HY := hid (keep_laid HY6.out hb0)
  have HM := hid (keep_laid HM6.out hb0)
  have HO := hid (HO6.out.grow hb0)
  have HB := hid (step HB6.out hb0)
  have HLE := hid (HLE.out.grow HB.out)
  have hwl := HO.out.w.len
  have hll := HO.out.l.len
  have hYW := lt_laid HY.out
  have hMW := lt_laid HM.out
  clear hb0 m0 m1 m2 HX6 HY6 HM6 HO6 HB6 HRI
  go_wp2
  go_loopg [31] n (fun g t31 wr => ∃ k : Nat, g + k = n ∧ t31 = .int .i64 ((k : Nat) : Int) ∧ Hid (Below W0.heap.size W0 wr))
  case atStart => exact ⟨0, rfl, rfl, hid (Below.refl _ _)⟩
  case round =>
    obtain ⟨k, hk, rfl, hB⟩ := hrel
    have HK := hid hk
    clear hk
    by_cases hlt : k < n
    · obtain ⟨hd, hhd⟩ : ∃ x, hs[k]? = some x := ⟨_, List.getElem?_eq_getElem (by rw [HLN.out]; exact hlt)⟩
      have HHD := hid (HSB.out hd (List.mem_of_getElem? hhd))
      obtain ⟨b1, o1, rfl, -, hc1⟩ := (HLE.out.grow hB.out).at hlt (wcell_at hhd)
      have f1 := hc1 _ (Below.refl _ _)
      clear hc1 hhd
      by_cases h6 : k = 6
      · have t6 : (((k : Nat) : Int) == 6) = true := by simp; omega
        clear h6
        go_upto_region 30 with (fail)
        obtain ⟨D, hD⟩ : ∃ DX, (wr).drew = DX := ⟨_, rfl⟩
        have hbD : Below W0.heap.size W0 D := by rw [← hD]; exact hB.out.trans ((Below.refl _ _).drew.mono hB.out.size)
        have HD := hid hD
        have HBD := hid hbD
        have HXD := hid (keep_laid HX.out hbD)
        have HMD := hid (keep_laid HM.out hbD)
        clear hD hbD
        have r0 : ∀ z : Ext D, z.v.cell? ⟨Mb, 0, none⟩ = some (.slice wa0 Mk.W.length wc0) := fun z => cell_laid (keep_laid HMD.out z.b) rfl
        have r1 : ∀ z : Ext D, z.v.cell? ⟨Mb, 1, none⟩ = some (.slice la0 Mk.L.length lc0) := fun z => cell_laid (keep_laid HMD.out z.b) rfl
        have r2 : ∀ z : Ext D, z.v.cell? ⟨Mb, 2, none⟩ = some (.bool Mk.F) := fun z => cell_laid (keep_laid HMD.out z.b) rfl
        have p0 : ∀ z : Ext D, z.v.cell? ⟨Xm, 0, none⟩ = some (.slice wa M.W.length wc0M) := fun z => cell_laid (keep_laid HXD.out z.b) rfl
        have p1 : ∀ z : Ext D, z.v.cell? ⟨Xm, 1, none⟩ = some (.slice la M.L.length lc) := fun z => cell_laid (keep_laid HXD.out z.b) rfl
        have p2 : ∀ z : Ext D, z.v.cell? ⟨Xm, 2, none⟩ = some (.bool M.F) := fun z => cell_laid (keep_laid HXD.out z.b) rfl
        refine wp_region_mix2 (fun W => ∃ z : Ext D, W = z.v) 5 (.q 0 (.q 1 (.h 2 (.h 3 (.q 4 .done))))) (by kernel_rfl) (by kernel_rfl) (by rw [HD.out]; exact ⟨⟨D, Below.refl _ _⟩, rfl⟩) ?_
        rw [HD.out]
        repeat (refine wpMix2_q rfl rfl ?_; go_big_quiet_step (fail); refine wpQuiet_nil ?_)
        refine wpMix2_h rfl fun R' hR' hO => ?_
        go_wp2_with fail
        refine (HOWN.out D (HB.out.trans (HBD.out.mono HB.out.size))).mono ?_
        rintro e v1 ⟨wao, wco, lao, lco, rfl, hoo, hbo⟩
        have hsm := RefSame_any Mk Mk wa0 la0 wao lao wc0 lc0 wco lco v1 (HO.out.grow (HBD.out.trans (hbo.mono HBD.out.size))) hoo.memL
        rw [sameM_self'] at hsm
        have HSM := hid hsm
        unfold memV at HSM
        have HBO := hid hbo
        clear hoo hbo hsm
        unfold memV
        go_wp2
        refine hR' _ _ ⟨⟨v1, HBO.out⟩, rfl⟩ ?_
        clear hR' hO R'
        refine wpMix2_h rfl fun R' hR' hO => ?_
        go_wp2_with fail
        refine HSM.out.mono ?_
        rintro e v2 ⟨rfl, hb2⟩
        have HB2 := hid (step HBO.out hb2)
        clear hb2
        go_wp2
        refine hR' _ _ ⟨⟨v2, HB2.out⟩, rfl⟩ ?_
        clear hR' hO R'
        repeat (refine wpMix2_q rfl rfl ?_; go_big_quiet_step (fail); refine wpQuiet_nil ?_)
        refine wpMix2_done ?_
        simp only [List.drop_succ_cons, List.drop_nil]
        go_wp2
        go_ret
        exact ⟨rfl, HB.out.trans ((HBD.out.trans (HB2.out.mono HBD.out.size)).mono HB.out.size)⟩
      · have t6 : (((k : Nat) : Int) == 6) = false := by simp; omega
        clear h6
        obtain ⟨m0, m1, m2⟩ := cells3 (keep_laid HM.out hB.out)
        have HLTW := hid (lookN_tw Mk hd HWK.out)
        have HLNN := hid (lookN_len Mk hd)
        have HNO := hid (Nodes_any Mk wa0 la0 wc0 lc0 hd wr (HO.out.grow hB.out) HHD.out HWK.out)
        have HAH : Hid (∀ W, Below W0.heap.size W0 W → _) := hid (fun W hb => Ahead_any Mk wa0 la0 wc0 lc0 hd W (HO.out.grow hb) HHD.out HWK.out)
        obtain ⟨⟨xs, code⟩, hLK⟩ : ∃ R, lookN Mk hd = R := ⟨_, rfl⟩
        rw [hLK] at HNO HAH HLTW HLNN
        have HLK := hid hLK
        obtain ⟨ys, hys⟩ : ∃ ys, ((xs, code).1.map (·.1)).reverse = ys := ⟨_, rfl⟩
        rw [hys] at HAH
        have hyl : ys.length = xs.length := by rw [← hys]; simp
        have HYS := hid hys
        obtain ⟨q, hq⟩ : ∃ q, xs.length = q := ⟨_, rfl⟩
        have hq5 : q ≤ 1100 := by have := HLNN.out; dsimp only at this; omega
        rw [hq] at hyl
        have HYL := hid hyl
        have HQ := hid hq
        unfold memV GivesL at HNO
        unfold memV GivesA at HAH
        dsimp only at HNO HAH
        rw [hq] at HNO
        rw [hyl] at HAH
        clear hLK hys hyl hq HLNN
        go_wp2_with fail
        refine HNO.out.mono ?_
        rintro e w1 ⟨v, rfl, hrow, hb1⟩
        obtain ⟨va, vc, rfl, hlv⟩ := Leads.of_own hrow
        have hvl := hlv.len
        have HB1 := hid (hB.out.trans (hb1.mono hB.out.size))
        have HLV := hid hlv
        clear hrow hlv hb1 m0 m1 m2 f1
        obtain ⟨m0, m1, m2⟩ := cells3 (keep_laid HM.out HB1.out)
        go_wp2_with fail
        refine (HAH.out w1 HB1.out).mono ?_
        rintro e w2 ⟨v', rfl, hrow, hb2⟩
        obtain ⟨vb, vd, rfl, hlb⟩ := Leads.of_own hrow
        have hbl := hlb.len
        have HB2 := hid (HB1.out.trans (hb2.mono HB1.out.size))
        have HLB := hid hlb
        have HLV2 := hid (HLV.out.grow hb2)
        clear hrow hlb hb2 m0 m1 m2 HNO HAH HLV
        go_upto_if 50 with (fail)
        go_cut [8, 15, 16, 28, 50] (fun t8 t15 t16 t28 t50 W => ∃ vx vy, t8 = .bool (okM Mk) ∧ t28 = .bool (okM Mk) ∧ t50 = .bool (okM Mk) ∧ t15 = .slice vx q vy ∧ t16 = .int .i64 ((code : Nat) : Int) ∧ Hid (Below W0.heap.size W0 W ∧ Leads W va q vc (twcells xs) ∧ Leads W vb q vd (wcells ys) ∧ Leads W vx q vy (twcells xs)))
        case first =>
          cases hok : okM Mk with
          | false =>
            obtain ⟨rfl, rfl⟩ : xs = [] ∧ code = 120 := by
              have := HLK.out
              rw [lookN_bad hok] at this
              simp only [Prod.mk.injEq] at this
              exact ⟨this.1.symm, this.2.symm⟩
            have hq0 : q = 0 := HQ.out.symm
            subst hq0
            have HOK := hid hok
            clear hok
            go_wp2
            go_meet
            exact ⟨none, 0, by rw [HOK.out], by rw [HOK.out], by rw [HOK.out], rfl, rfl, hid ⟨HB2.out, HLV2.out, HLB.out, ⟨Nat.le_refl _, Nat.zero_le _, .inl ⟨rfl, rfl⟩⟩⟩⟩
          | true =>
            obtain ⟨m0, m1, m2⟩ := cells3 (keep_laid HM.out HB2.out)
            have HRN := hid (rNodes_any Mk wa0 la0 wc0 lc0 hd w2 (HO.out.grow HB2.out) hok HHD.out HWK.out)
            unfold memV GivesW at HRN
            have HOK := hid hok
            clear hok
            go_wp2_with fail
            refine HRN.out.mono ?_
            rintro e w3 ⟨vw, bw, rfl, hb3, hno, hso⟩
            have HB3 := hid (HB2.out.trans (hb3.mono HB2.out.size))
            have HLV3 := hid (HLV2.out.grow hb3)
            have HLB3 := hid (HLB.out.grow hb3)
            clear m0 m1 m2 hb3
            cases hnn : nodesN Mk hd with
            | none =>
              obtain rfl := hno hnn
              obtain ⟨rfl, rfl⟩ : xs = [] ∧ code = 260 := by
                have := HLK.out
                rw [lookN_none HOK.out hnn] at this
                simp only [Prod.mk.injEq] at this
                exact ⟨this.1.symm, this.2.symm⟩
              have hq0 : q = 0 := HQ.out.symm
              subst hq0
              clear hno hso hnn
              go_wp2
              go_meet
              exact ⟨none, 0, by rw [HOK.out], by rw [HOK.out], by rw [HOK.out], rfl, rfl, hid ⟨HB3.out, HLV3.out, HLB3.out, ⟨Nat.le_refl _, Nat.zero_le _, .inl ⟨rfl, rfl⟩⟩⟩⟩
            | some r =>
              obtain ⟨xs', met⟩ := r
              obtain ⟨rfl, rfl⟩ : xs = xs' ∧ code = 0 := by
                have := HLK.out
                rw [lookN_some HOK.out hnn] at this
                simp only [Prod.mk.injEq] at this
                exact ⟨this.1.symm, this.2.symm⟩
              obtain ⟨rfl, hro⟩ := hso xs met hnn
              obtain ⟨vx, vy, rfl, hlx⟩ := Leads.of_own hro
              rw [HQ.out] at hlx ⊢
              have hxl := hlx.len
              have HLX := hid hlx
              clear hno hso hnn hro hlx
              go_wp2
              go_meet
              exact ⟨vx, vy, by rw [HOK.out], by rw [HOK.out], by rw [HOK.out], rfl, rfl, hid ⟨HB3.out, HLV3.out, HLB3.out, HLX.out⟩⟩
        case rest =>
          obtain ⟨vx, vy, rfl, rfl, rfl, rfl, rfl, hcc⟩ := hcut
          obtain ⟨w4, hw4⟩ : ∃ W, W = wc := ⟨_, rfl⟩
          subst hw4
          have HB4 := hid hcc.out.1
          have HLB4 := hid hcc.out.2.2.1
          have HLX4 := hid hcc.out.2.2.2
          have hxl := hcc.out.2.2.2.len
          have HEQ := hid (EqT_any xs xs va vx q q vc vy w4 HQ.out HQ.out HLTW.out HLTW.out hcc.out.2.1 hcc.out.2.2.2)
          rw [decide_eq_true rfl] at HEQ
          have tq : (((code : Nat) : Int) != ((code : Nat) : Int)) = false := by simp
          have tn : (((q : Nat) : Int) != ((q : Nat) : Int)) = false := by simp
          clear hcc
          go_wp2_with fail
          refine HEQ.out.mono ?_
          rintro e w5 ⟨rfl, hb5⟩
          have HB5 := hid (HB4.out.trans (hb5.mono HB4.out.size))
          have HLB5 := hid (HLB4.out.grow hb5)
          have HLX5 := hid (HLX4.out.grow hb5)
          clear hb5 HB4 HLB4 HLX4 HEQ tq HLV2 HLB HB1 HB2
          obtain ⟨G, hG⟩ : ∃ G, G = gk - 1 := ⟨_, rfl⟩
          have HG := hid hG
          clear hG
          go_wp2
          go_loopg [82] q (fun g t82 wr' => ∃ j : Nat, g + j = q ∧ t82 = .int .i64 ((j : Nat) : Int) ∧ wr' = w5)
          case atStart => exact ⟨0, rfl, rfl, rfl⟩
          case round =>
            obtain ⟨j, hj, rfl, hw⟩ := hrel
            subst hw
            have HJ := hid hj
            clear hj
            by_cases hjt : j < q
            · obtain ⟨y, hy⟩ : ∃ x, ys[j]? = some x := ⟨_, List.getElem?_eq_getElem (by rw [HYL.out]; exact hjt)⟩
              obtain ⟨p, hp⟩ : ∃ p, q = p + 1 + j := ⟨q - 1 - j, by omega⟩
              have hyx : ∃ z : Tw, xs[p]? = some z ∧ z.1 = y := by
                have h1 := hy
                have h0 := HQ.out
                rw [← HYS.out] at h1
                rw [List.getElem?_reverse (by simp; omega), List.getElem?_map] at h1
                rw [show (List.map (fun x => x.1) xs).length - 1 - j = p from by simp; omega] at h1
                cases hz : xs[p]? with
                | none => rw [hz] at h1; cases h1
                | some z => rw [hz] at h1; exact ⟨z, rfl, by simpa using h1⟩
              obtain ⟨z, hz, rfl⟩ := hyx
              obtain ⟨b2, o2, rfl, -, hc2⟩ := HLB5.out.at hjt (wcell_at hy)
              obtain ⟨b3, o3, rfl, hc3⟩ : ∃ b o, vx = some ⟨b, o, none⟩ ∧ ∀ i v, (twcells xs)[i]? = some v → wr.cell? ⟨b, o + i, none⟩ = some v := by
                obtain ⟨_, _, ⟨h, _⟩ | ⟨b, off, e, _, h4⟩⟩ := HLX5.out
                · omega
                · exact ⟨b, off, e, h4⟩
              have f2 := hc2 _ (Below.refl _ _)
              have f3 : wr.cell? ⟨b3, o3 + p * 3, none⟩ = some (.int .u64 ((z.1 : Nat) : Int)) := hc3 _ _ (show (twcells xs)[p * 3 + 0]? = some (.int .u64 ((z.1 : Nat) : Int)) from flat_at tw3 3 (fun _ => rfl) xs p 0 z hz (by decide))
              subst hp
              clear hc2 hc3 hz hy
              have t9 : (((z.1 : Nat) : Int) != ((z.1 : Nat) : Int)) = false := by simp
              go_wp2
              go_roundg (gk - 1)
              case measure => have := HJ.out; omega
              case rel => exact ⟨j + 1, by have := HJ.out; omega, by go_num, rfl⟩
            · go_upto_region 26 with (fail)
              go_cut [21, 22] (fun t21 t22 W => ∃ B1 B2 : Nat, t21 = .pointer (some ⟨B1, 0, none⟩) ∧ t22 = .pointer (some ⟨B2, 0, none⟩) ∧ Hid (W.heap[B1]? = some (.cells #[.int .i64 0, .bool false, .int .u64 ((hd : Nat) : Int), .int .u64 ((t0 : Nat) : Int), .int .u64 ((t1 : Nat) : Int), .int .u64 ((t2 : Nat) : Int), .int .u64 ((t1 : Nat) : Int), .int .u64 0] 42 (0, 0)) ∧ W.heap[B2]? = some (.cells #[.int .i64 5, .bool true, .int .u64 ((hd : Nat) : Int), .int .u64 ((t0 : Nat) : Int), .int .u64 0, .int .u64 0, .int .u64 0, .int .u64 0] 42 (0, 0)) ∧ Below W0.heap.size W0 W))
              case first =>
                obtain ⟨D, hD⟩ : ∃ DX, wr.drew = DX := ⟨_, rfl⟩
                have hbD : Below W0.heap.size W0 D := by rw [← hD]; exact HB5.out.trans ((Below.refl _ _).drew.mono HB5.out.size)
                have HD := hid hD
                have HBW := hid hbD
                clear hD hbD HLB5 HLX5
                have r0 : ∀ z : Ext W0, z.v.cell? ⟨Y, 0, none⟩ = some (.int .u64 ((t0 : Nat) : Int)) := fun z => cell_laid (keep_laid HY.out z.b) rfl
                have r1 : ∀ z : Ext W0, z.v.cell? ⟨Y, 1, none⟩ = some (.int .u64 ((t1 : Nat) : Int)) := fun z => cell_laid (keep_laid HY.out z.b) rfl
                have r2 : ∀ z : Ext W0, z.v.cell? ⟨Y, 2, none⟩ = some (.int .u64 ((t2 : Nat) : Int)) := fun z => cell_laid (keep_laid HY.out z.b) rfl
                have HPUT : Hid (∀ W, Calls Try.prog 14 #[.int .u64 ((hd : Nat) : Int), .int .u64 ((t1 : Nat) : Int), .agg #[.int .u64 ((t0 : Nat) : Int), .int .u64 ((t1 : Nat) : Int), .int .u64 ((t2 : Nat) : Int)]] W (Ret (.agg #[.int .i64 0, .bool false, .int .u64 ((hd : Nat) : Int), .int .u64 ((t0 : Nat) : Int), .int .u64 ((t1 : Nat) : Int), .int .u64 ((t2 : Nat) : Int), .int .u64 ((t1 : Nat) : Int), .int .u64 0]) W)) := hid (fun W => Put_any hd t1 (t0, t1, t2) W)
                have HCUT : Hid (∀ W, Calls Try.prog 15 #[.int .u64 ((hd : Nat) : Int), .int .u64 ((t0 : Nat) : Int)] W (Ret (.agg #[.int .i64 5, .bool true, .int .u64 ((hd : Nat) : Int), .int .u64 ((t0 : Nat) : Int), .int .u64 0, .int .u64 0, .int .u64 0, .int .u64 0]) W)) := hid (fun W => Cut_any hd t0 W)
                refine wp_region_mix3 (fun W => ∃ z : Ext W0, W = z.v) 13 (.q 0 (.q 1 (.q 2 (.q 3 (.q 5 (.q 6 (.q 7 (.h3 4 (.h3 8 (.h2 9 (.h 10 (.h 11 (.h 12 .done))) 10 (.h 9 (.h 11 (.h 12 .done)))) 9 (.h2 8 (.h 10 (.h 11 (.h 12 .done))) 10 (.h 8 (.h 11 (.h 12 .done)))) 10 (.h2 8 (.h 9 (.h 11 (.h 12 .done))) 9 (.h 8 (.h 11 (.h 12 .done))))) 9 (.h2 4 (.h2 8 (.h 10 (.h 11 (.h 12 .done))) 10 (.h 8 (.h 11 (.h 12 .done)))) 10 (.h 4 (.h 8 (.h 11 (.h 12 .done))))) 10 (.h2 4 (.h2 8 (.h 9 (.h 11 (.h 12 .done))) 9 (.h 8 (.h 11 (.h 12 .done)))) 9 (.h 4 (.h 8 (.h 11 (.h 12 .done))))))))))))) (by kernel_rfl) (by kernel_rfl) (by rw [HD.out]; exact ⟨⟨D, HBW.out⟩, rfl⟩) ?_
                rw [HD.out]
                repeat (refine wpMix3_q rfl rfl ?_; go_big_quiet_step (fail); refine wpQuiet_nil ?_)
                refine wpMix3_h3 ?_ ?_ ?_
                · skip
                  refine wpMix3_h rfl fun R' hR' hO => ?_
                  go_wp2_with fail
                  refine (HPUT.out D).mono ?_
                  rintro e w04x ⟨rfl, hbn⟩
                  have HBW_1 := hid (HBW.out.trans (hbn.mono HBW.out.size))
                  clear HBW hbn
                  go_wp2
                  refine hR' _ _ ⟨⟨w04x, HBW_1.out⟩, rfl⟩ ?_
                  clear hR' hO R'
                  refine wpMix3_h3 ?_ ?_ ?_
                  · skip
                    refine wpMix3_h rfl fun R' hR' hO => ?_
                    go_wp2_with fail
                    refine (HCUT.out w04x).mono ?_
                    rintro e w18x ⟨rfl, hbn⟩
                    have HBW_2 := hid (HBW_1.out.trans (hbn.mono HBW_1.out.size))
                    clear HBW_1 hbn
                    go_wp2
                    refine hR' _ _ ⟨⟨w18x, HBW_2.out⟩, rfl⟩ ?_
                    clear hR' hO R'
                    refine wpMix3_h2 ?_ ?_
                    · skip
                      refine wpMix3_h rfl fun R' hR' hO => ?_
                      obtain ⟨w29x, hww29x, hbn, hsn, hln⟩ := laid w18x #[.int .i64 0, .bool false, .int .u64 0, .int .u64 0, .int .u64 0, .int .u64 0, .int .u64 0, .int .u64 0] 42
                      obtain ⟨B1, hB⟩ : ∃ X, w18x.heap.size = X := ⟨_, rfl⟩
                      rw [hB] at hln
                      have LB1 := hid (show W0.heap.size ≤ B1 from by have := (HBW_2.out).size; omega)
                      have HBW_3 := hid (HBW_2.out.trans (hbn.mono HBW_2.out.size))
                      clear HBW_2 hbn hsn
                      have A1_4 := hid (hln)
                      clear hln
                      go_wp2
                      refine hR' _ _ ⟨⟨w29x, HBW_3.out⟩, rfl⟩ ?_
                      clear hR' hO R'
                      refine wpMix3_h rfl fun R' hR' hO => ?_
                      obtain ⟨w310x, hww310x, hbn, hsn, hln⟩ := laid w29x #[.int .i64 0, .bool false, .int .u64 0, .int .u64 0, .int .u64 0, .int .u64 0, .int .u64 0, .int .u64 0] 42
                      obtain ⟨B2, hB⟩ : ∃ X, w29x.heap.size = X := ⟨_, rfl⟩
                      rw [hB] at hln
                      have LB2 := hid (show W0.heap.size ≤ B2 from by have := (HBW_3.out).size; omega)
                      have HNE := hid (show B1 ≠ B2 from by have := lt_laid A1_4.out; omega)
                      have HBW_5 := hid (HBW_3.out.trans (hbn.mono HBW_3.out.size))
                      have A1_6 := hid (keep_laid A1_4.out hbn)
                      clear HBW_3 A1_4 hbn hsn
                      have A2_7 := hid (hln)
                      clear hln
                      go_wp2
                      refine hR' _ _ ⟨⟨w310x, HBW_5.out⟩, rfl⟩ ?_
                      clear hR' hO R'
                      obtain ⟨va1, hva1, a1, a2, a3⟩ := put8 A1_6.out (.int .i64 0) (.bool false) (.int .u64 ((hd : Nat) : Int)) (.int .u64 ((t0 : Nat) : Int)) (.int .u64 ((t1 : Nat) : Int)) (.int .u64 ((t2 : Nat) : Int)) (.int .u64 ((t1 : Nat) : Int)) (.int .u64 0)
                      have y0 := cell_laid (i := 0) A1_6.out rfl
                      have yf0 := free_laid (i := 0) A1_6.out
                      have y1 := cell_laid (i := 1) A1_6.out rfl
                      have yf1 := free_laid (i := 1) A1_6.out
                      have y2 := cell_laid (i := 2) A1_6.out rfl
                      have yf2 := free_laid (i := 2) A1_6.out
                      have y3 := cell_laid (i := 3) A1_6.out rfl
                      have yf3 := free_laid (i := 3) A1_6.out
                      have y4 := cell_laid (i := 4) A1_6.out rfl
                      have yf4 := free_laid (i := 4) A1_6.out
                      have y5 := cell_laid (i := 5) A1_6.out rfl
                      have yf5 := free_laid (i := 5) A1_6.out
                      have y6 := cell_laid (i := 6) A1_6.out rfl
                      have yf6 := free_laid (i := 6) A1_6.out
                      have y7 := cell_laid (i := 7) A1_6.out rfl
                      have yf7 := free_laid (i := 7) A1_6.out
                      have E1 := hid hva1
                      have HC2 := hid (a2 B2 _ (by have := HNE.out; omega) A2_7.out)
                      have HC1 := hid a1
                      have HBA := hid (a3 _ _ LB1.out HBW_5.out)
                      clear hva1 a1 a2 a3
                      refine wpMix3_h rfl fun R' hR' hO => ?_
                      go_wp2
                      rw [← E1.out]
                      refine hR' _ _ ⟨⟨va1, HBA.out⟩, rfl⟩ ?_
                      clear hR' hO R' y0 yf0 y1 yf1 y2 yf2 y3 yf3 y4 yf4 y5 yf5 y6 yf6 y7 yf7
                      obtain ⟨va2, hva2, d1, d2, d3⟩ := put8 HC2.out (.int .i64 5) (.bool true) (.int .u64 ((hd : Nat) : Int)) (.int .u64 ((t0 : Nat) : Int)) (.int .u64 0) (.int .u64 0) (.int .u64 0) (.int .u64 0)
                      have y0 := cell_laid (i := 0) HC2.out rfl
                      have yf0 := free_laid (i := 0) HC2.out
                      have y1 := cell_laid (i := 1) HC2.out rfl
                      have yf1 := free_laid (i := 1) HC2.out
                      have y2 := cell_laid (i := 2) HC2.out rfl
                      have yf2 := free_laid (i := 2) HC2.out
                      have y3 := cell_laid (i := 3) HC2.out rfl
                      have yf3 := free_laid (i := 3) HC2.out
                      have y4 := cell_laid (i := 4) HC2.out rfl
                      have yf4 := free_laid (i := 4) HC2.out
                      have y5 := cell_laid (i := 5) HC2.out rfl
                      have yf5 := free_laid (i := 5) HC2.out
                      have y6 := cell_laid (i := 6) HC2.out rfl
                      have yf6 := free_laid (i := 6) HC2.out
                      have y7 := cell_laid (i := 7) HC2.out rfl
                      have yf7 := free_laid (i := 7) HC2.out
                      have E2 := hid hva2
                      have R : Hid (va2.heap[B1]? = some (.cells #[.int .i64 0, .bool false, .int .u64 ((hd : Nat) : Int), .int .u64 ((t0 : Nat) : Int), .int .u64 ((t1 : Nat) : Int), .int .u64 ((t2 : Nat) : Int), .int .u64 ((t1 : Nat) : Int), .int .u64 0] 42 (0, 0)) ∧ va2.heap[B2]? = some (.cells #[.int .i64 5, .bool true, .int .u64 ((hd : Nat) : Int), .int .u64 ((t0 : Nat) : Int), .int .u64 0, .int .u64 0, .int .u64 0, .int .u64 0] 42 (0, 0)) ∧ Below W0.heap.size W0 va2) := hid ⟨d2 B1 _ HNE.out HC1.out, d1, d3 _ _ LB2.out HBA.out⟩
                      clear hva2 d1 d2 d3
                      refine wpMix3_h rfl fun R' hR' hO => ?_
                      go_wp2
                      rw [← E2.out]
                      refine hR' _ _ ⟨⟨va2, R.out.2.2⟩, rfl⟩ ?_
                      clear hR' hO R' y0 yf0 y1 yf1 y2 yf2 y3 yf3 y4 yf4 y5 yf5 y6 yf6 y7 yf7
                      refine wpMix3_done ?_
                      simp only [List.drop_succ_cons, List.drop_nil]
                      go_wp2
                      go_meet
                      exact ⟨B1, B2, rfl, rfl, R⟩
                    · skip
                      refine wpMix3_h rfl fun R' hR' hO => ?_
                      obtain ⟨w210x, hww210x, hbn, hsn, hln⟩ := laid w18x #[.int .i64 0, .bool false, .int .u64 0, .int .u64 0, .int .u64 0, .int .u64 0, .int .u64 0, .int .u64 0] 42
                      obtain ⟨B2, hB⟩ : ∃ X, w18x.heap.size = X := ⟨_, rfl⟩
                      rw [hB] at hln
                      have LB2 := hid (show W0.heap.size ≤ B2 from by have := (HBW_2.out).size; omega)
                      have HBW_3 := hid (HBW_2.out.trans (hbn.mono HBW_2.out.size))
                      clear HBW_2 hbn hsn
                      have A2_4 := hid (hln)
                      clear hln
                      go_wp2
                      refine hR' _ _ ⟨⟨w210x, HBW_3.out⟩, rfl⟩ ?_
                      clear hR' hO R'
                      refine wpMix3_h rfl fun R' hR' hO => ?_
                      obtain ⟨w39x, hww39x, hbn, hsn, hln⟩ := laid w210x #[.int .i64 0, .bool false, .int .u64 0, .int .u64 0, .int .u64 0, .int .u64 0, .int .u64 0, .int .u64 0] 42
                      obtain ⟨B1, hB⟩ : ∃ X, w210x.heap.size = X := ⟨_, rfl⟩
                      rw [hB] at hln
                      have LB1 := hid (show W0.heap.size ≤ B1 from by have := (HBW_3.out).size; omega)
                      have HNE := hid (show B1 ≠ B2 from by have := lt_laid A2_4.out; omega)
                      have HBW_5 := hid (HBW_3.out.trans (hbn.mono HBW_3.out.size))
                      have A2_6 := hid (keep_laid A2_4.out hbn)
                      clear HBW_3 A2_4 hbn hsn
                      have A1_7 := hid (hln)
                      clear hln
                      go_wp2
                      refine hR' _ _ ⟨⟨w39x, HBW_5.out⟩, rfl⟩ ?_
                      clear hR' hO R'
                      obtain ⟨va1, hva1, a1, a2, a3⟩ := put8 A1_7.out (.int .i64 0) (.bool false) (.int .u64 ((hd : Nat) : Int)) (.int .u64 ((t0 : Nat) : Int)) (.int .u64 ((t1 : Nat) : Int)) (.int .u64 ((t2 : Nat) : Int)) (.int .u64 ((t1 : Nat) : Int)) (.int .u64 0)
                      have y0 := cell_laid (i := 0) A1_7.out rfl
                      have yf0 := free_laid (i := 0) A1_7.out
                      have y1 := cell_laid (i := 1) A1_7.out rfl
                      have yf1 := free_laid (i := 1) A1_7.out
                      have y2 := cell_laid (i := 2) A1_7.out rfl
                      have yf2 := free_laid (i := 2) A1_7.out
                      have y3 := cell_laid (i := 3) A1_7.out rfl
                      have yf3 := free_laid (i := 3) A1_7.out
                      have y4 := cell_laid (i := 4) A1_7.out rfl
                      have yf4 := free_laid (i := 4) A1_7.out
                      have y5 := cell_laid (i := 5) A1_7.out rfl
                      have yf5 := free_laid (i := 5) A1_7.out
                      have y6 := cell_laid (i := 6) A1_7.out rfl
                      have yf6 := free_laid (i := 6) A1_7.out
                      have y7 := cell_laid (i := 7) A1_7.out rfl
                      have yf7 := free_laid (i := 7) A1_7.out
                      have E1 := hid hva1
                      have HC2 := hid (a2 B2 _ (by have := HNE.out; omega) A2_6.out)
                      have HC1 := hid a1
                      have HBA := hid (a3 _ _ LB1.out HBW_5.out)
                      clear hva1 a1 a2 a3
                      refine wpMix3_h rfl fun R' hR' hO => ?_
                      go_wp2
                      rw [← E1.out]
                      refine hR' _ _ ⟨⟨va1, HBA.out⟩, rfl⟩ ?_
                      clear hR' hO R' y0 yf0 y1 yf1 y2 yf2 y3 yf3 y4 yf4 y5 yf5 y6 yf6 y7 yf7
                      obtain ⟨va2, hva2, d1, d2, d3⟩ := put8 HC2.out (.int .i64 5) (.bool true) (.int .u64 ((hd : Nat) : Int)) (.int .u64 ((t0 : Nat) : Int)) (.int .u64 0) (.int .u64 0) (.int .u64 0) (.int .u64 0)
                      have y0 := cell_laid (i := 0) HC2.out rfl
                      have yf0 := free_laid (i := 0) HC2.out
                      have y1 := cell_laid (i := 1) HC2.out rfl
                      have yf1 := free_laid (i := 1) HC2.out
                      have y2 := cell_laid (i := 2) HC2.out rfl
                      have yf2 := free_laid (i := 2) HC2.out
                      have y3 := cell_laid (i := 3) HC2.out rfl
                      have yf3 := free_laid (i := 3) HC2.out
                      have y4 := cell_laid (i := 4) HC2.out rfl
                      have yf4 := free_laid (i := 4) HC2.out
                      have y5 := cell_laid (i := 5) HC2.out rfl
                      have yf5 := free_laid (i := 5) HC2.out
                      have y6 := cell_laid (i := 6) HC2.out rfl
                      have yf6 := free_laid (i := 6) HC2.out
                      have y7 := cell_laid (i := 7) HC2.out rfl
                      have yf7 := free_laid (i := 7) HC2.out
                      have E2 := hid hva2
                      have R : Hid (va2.heap[B1]? = some (.cells #[.int .i64 0, .bool false, .int .u64 ((hd : Nat) : Int), .int .u64 ((t0 : Nat) : Int), .int .u64 ((t1 : Nat) : Int), .int .u64 ((t2 : Nat) : Int), .int .u64 ((t1 : Nat) : Int), .int .u64 0] 42 (0, 0)) ∧ va2.heap[B2]? = some (.cells #[.int .i64 5, .bool true, .int .u64 ((hd : Nat) : Int), .int .u64 ((t0 : Nat) : Int), .int .u64 0, .int .u64 0, .int .u64 0, .int .u64 0] 42 (0, 0)) ∧ Below W0.heap.size W0 va2) := hid ⟨d2 B1 _ HNE.out HC1.out, d1, d3 _ _ LB2.out HBA.out⟩
                      clear hva2 d1 d2 d3
                      refine wpMix3_h rfl fun R' hR' hO => ?_
                      go_wp2
                      rw [← E2.out]
                      refine hR' _ _ ⟨⟨va2, R.out.2.2⟩, rfl⟩ ?_
                      clear hR' hO R' y0 yf0 y1 yf1 y2 yf2 y3 yf3 y4 yf4 y5 yf5 y6 yf6 y7 yf7
                      refine wpMix3_done ?_
                      simp only [List.drop_succ_cons, List.drop_nil]
                      go_wp2
                      go_meet
                      exact ⟨B1, B2, rfl, rfl, R⟩
                  · skip
                    refine wpMix3_h rfl fun R' hR' hO => ?_
                    obtain ⟨w19x, hww19x, hbn, hsn, hln⟩ := laid w04x #[.int .i64 0, .bool false, .int .u64 0, .int .u64 0, .int .u64 0, .int .u64 0, .int .u64 0, .int .u64 0] 42
                    obtain ⟨B1, hB⟩ : ∃ X, w04x.heap.size = X := ⟨_, rfl⟩
                    rw [hB] at hln
                    have LB1 := hid (show W0.heap.size ≤ B1 from by have := (HBW_1.out).size; omega)
                    have HBW_2 := hid (HBW_1.out.trans (hbn.mono HBW_1.out.size))
                    clear HBW_1 hbn hsn
                    have A1_3 := hid (hln)
                    clear hln
                    go_wp2
                    refine hR' _ _ ⟨⟨w19x, HBW_2.out⟩, rfl⟩ ?_
                    clear hR' hO R'
                    refine wpMix3_h2 ?_ ?_
                    · skip
                      refine wpMix3_h rfl fun R' hR' hO => ?_
                      go_wp2_with fail
                      refine (HCUT.out w19x).mono ?_
                      rintro e w28x ⟨rfl, hbn⟩
                      have HBW_4 := hid (HBW_2.out.trans (hbn.mono HBW_2.out.size))
                      have A1_5 := hid (keep_laid A1_3.out hbn)
                      clear HBW_2 A1_3 hbn
                      go_wp2
                      refine hR' _ _ ⟨⟨w28x, HBW_4.out⟩, rfl⟩ ?_
                      clear hR' hO R'
                      refine wpMix3_h rfl fun R' hR' hO => ?_
                      obtain ⟨w310x, hww310x, hbn, hsn, hln⟩ := laid w28x #[.int .i64 0, .bool false, .int .u64 0, .int .u64 0, .int .u64 0, .int .u64 0, .int .u64 0, .int .u64 0] 42
                      obtain ⟨B2, hB⟩ : ∃ X, w28x.heap.size = X := ⟨_, rfl⟩
                      rw [hB] at hln
                      have LB2 := hid (show W0.heap.size ≤ B2 from by have := (HBW_4.out).size; omega)
                      have HNE := hid (show B1 ≠ B2 from by have := lt_laid A1_5.out; omega)
                      have HBW_6 := hid (HBW_4.out.trans (hbn.mono HBW_4.out.size))
                      have A1_7 := hid (keep_laid A1_5.out hbn)
                      clear HBW_4 A1_5 hbn hsn
                      have A2_8 := hid (hln)
                      clear hln
                      go_wp2
                      refine hR' _ _ ⟨⟨w310x, HBW_6.out⟩, rfl⟩ ?_
                      clear hR' hO R'
                      obtain ⟨va1, hva1, a1, a2, a3⟩ := put8 A1_7.out (.int .i64 0) (.bool false) (.int .u64 ((hd : Nat) : Int)) (.int .u64 ((t0 : Nat) : Int)) (.int .u64 ((t1 : Nat) : Int)) (.int .u64 ((t2 : Nat) : Int)) (.int .u64 ((t1 : Nat) : Int)) (.int .u64 0)
                      have y0 := cell_laid (i := 0) A1_7.out rfl
                      have yf0 := free_laid (i := 0) A1_7.out
                      have y1 := cell_laid (i := 1) A1_7.out rfl
                      have yf1 := free_laid (i := 1) A1_7.out
                      have y2 := cell_laid (i := 2) A1_7.out rfl
                      have yf2 := free_laid (i := 2) A1_7.out
                      have y3 := cell_laid (i := 3) A1_7.out rfl
                      have yf3 := free_laid (i := 3) A1_7.out
                      have y4 := cell_laid (i := 4) A1_7.out rfl
                      have yf4 := free_laid (i := 4) A1_7.out
                      have y5 := cell_laid (i := 5) A1_7.out rfl
                      have yf5 := free_laid (i := 5) A1_7.out
                      have y6 := cell_laid (i := 6) A1_7.out rfl
                      have yf6 := free_laid (i := 6) A1_7.out
                      have y7 := cell_laid (i := 7) A1_7.out rfl
                      have yf7 := free_laid (i := 7) A1_7.out
                      have E1 := hid hva1
                      have HC2 := hid (a2 B2 _ (by have := HNE.out; omega) A2_8.out)
                      have HC1 := hid a1
                      have HBA := hid (a3 _ _ LB1.out HBW_6.out)
                      clear hva1 a1 a2 a3
                      refine wpMix3_h rfl fun R' hR' hO => ?_
                      go_wp2
                      rw [← E1.out]
                      refine hR' _ _ ⟨⟨va1, HBA.out⟩, rfl⟩ ?_
                      clear hR' hO R' y0 yf0 y1 yf1 y2 yf2 y3 yf3 y4 yf4 y5 yf5 y6 yf6 y7 yf7
                      obtain ⟨va2, hva2, d1, d2, d3⟩ := put8 HC2.out (.int .i64 5) (.bool true) (.int .u64 ((hd : Nat) : Int)) (.int .u64 ((t0 : Nat) : Int)) (.int .u64 0) (.int .u64 0) (.int .u64 0) (.int .u64 0)
                      have y0 := cell_laid (i := 0) HC2.out rfl
                      have yf0 := free_laid (i := 0) HC2.out
                      have y1 := cell_laid (i := 1) HC2.out rfl
                      have yf1 := free_laid (i := 1) HC2.out
                      have y2 := cell_laid (i := 2) HC2.out rfl
                      have yf2 := free_laid (i := 2) HC2.out
                      have y3 := cell_laid (i := 3) HC2.out rfl
                      have yf3 := free_laid (i := 3) HC2.out
                      have y4 := cell_laid (i := 4) HC2.out rfl
                      have yf4 := free_laid (i := 4) HC2.out
                      have y5 := cell_laid (i := 5) HC2.out rfl
                      have yf5 := free_laid (i := 5) HC2.out
                      have y6 := cell_laid (i := 6) HC2.out rfl
                      have yf6 := free_laid (i := 6) HC2.out
                      have y7 := cell_laid (i := 7) HC2.out rfl
                      have yf7 := free_laid (i := 7) HC2.out
                      have E2 := hid hva2
                      have R : Hid (va2.heap[B1]? = some (.cells #[.int .i64 0, .bool false, .int .u64 ((hd : Nat) : Int), .int .u64 ((t0 : Nat) : Int), .int .u64 ((t1 : Nat) : Int), .int .u64 ((t2 : Nat) : Int), .int .u64 ((t1 : Nat) : Int), .int .u64 0] 42 (0, 0)) ∧ va2.heap[B2]? = some (.cells #[.int .i64 5, .bool true, .int .u64 ((hd : Nat) : Int), .int .u64 ((t0 : Nat) : Int), .int .u64 0, .int .u64 0, .int .u64 0, .int .u64 0] 42 (0, 0)) ∧ Below W0.heap.size W0 va2) := hid ⟨d2 B1 _ HNE.out HC1.out, d1, d3 _ _ LB2.out HBA.out⟩
                      clear hva2 d1 d2 d3
                      refine wpMix3_h rfl fun R' hR' hO => ?_
                      go_wp2
                      rw [← E2.out]
                      refine hR' _ _ ⟨⟨va2, R.out.2.2⟩, rfl⟩ ?_
                      clear hR' hO R' y0 yf0 y1 yf1 y2 yf2 y3 yf3 y4 yf4 y5 yf5 y6 yf6 y7 yf7
                      refine wpMix3_done ?_
                      simp only [List.drop_succ_cons, List.drop_nil]
                      go_wp2
                      go_meet
                      exact ⟨B1, B2, rfl, rfl, R⟩
                    · skip
                      refine wpMix3_h rfl fun R' hR' hO => ?_
                      obtain ⟨w210x, hww210x, hbn, hsn, hln⟩ := laid w19x #[.int .i64 0, .bool false, .int .u64 0, .int .u64 0, .int .u64 0, .int .u64 0, .int .u64 0, .int .u64 0] 42
                      obtain ⟨B2, hB⟩ : ∃ X, w19x.heap.size = X := ⟨_, rfl⟩
                      rw [hB] at hln
                      have LB2 := hid (show W0.heap.size ≤ B2 from by have := (HBW_2.out).size; omega)
                      have HNE := hid (show B1 ≠ B2 from by have := lt_laid A1_3.out; omega)
                      have HBW_4 := hid (HBW_2.out.trans (hbn.mono HBW_2.out.size))
                      have A1_5 := hid (keep_laid A1_3.out hbn)
                      clear HBW_2 A1_3 hbn hsn
                      have A2_6 := hid (hln)
                      clear hln
                      go_wp2
                      refine hR' _ _ ⟨⟨w210x, HBW_4.out⟩, rfl⟩ ?_
                      clear hR' hO R'
                      refine wpMix3_h rfl fun R' hR' hO => ?_
                      go_wp2_with fail
                      refine (HCUT.out w210x).mono ?_
                      rintro e w38x ⟨rfl, hbn⟩
                      have HBW_7 := hid (HBW_4.out.trans (hbn.mono HBW_4.out.size))
                      have A1_8 := hid (keep_laid A1_5.out hbn)
                      have A2_9 := hid (keep_laid A2_6.out hbn)
                      clear HBW_4 A1_5 A2_6 hbn
                      go_wp2
                      refine hR' _ _ ⟨⟨w38x, HBW_7.out⟩, rfl⟩ ?_
                      clear hR' hO R'
                      obtain ⟨va1, hva1, a1, a2, a3⟩ := put8 A1_8.out (.int .i64 0) (.bool false) (.int .u64 ((hd : Nat) : Int)) (.int .u64 ((t0 : Nat) : Int)) (.int .u64 ((t1 : Nat) : Int)) (.int .u64 ((t2 : Nat) : Int)) (.int .u64 ((t1 : Nat) : Int)) (.int .u64 0)
                      have y0 := cell_laid (i := 0) A1_8.out rfl
                      have yf0 := free_laid (i := 0) A1_8.out
                      have y1 := cell_laid (i := 1) A1_8.out rfl
                      have yf1 := free_laid (i := 1) A1_8.out
                      have y2 := cell_laid (i := 2) A1_8.out rfl
                      have yf2 := free_laid (i := 2) A1_8.out
                      have y3 := cell_laid (i := 3) A1_8.out rfl
                      have yf3 := free_laid (i := 3) A1_8.out
                      have y4 := cell_laid (i := 4) A1_8.out rfl
                      have yf4 := free_laid (i := 4) A1_8.out
                      have y5 := cell_laid (i := 5) A1_8.out rfl
                      have yf5 := free_laid (i := 5) A1_8.out
                      have y6 := cell_laid (i := 6) A1_8.out rfl
                      have yf6 := free_laid (i := 6) A1_8.out
                      have y7 := cell_laid (i := 7) A1_8.out rfl
                      have yf7 := free_laid (i := 7) A1_8.out
                      have E1 := hid hva1
                      have HC2 := hid (a2 B2 _ (by have := HNE.out; omega) A2_9.out)
                      have HC1 := hid a1
                      have HBA := hid (a3 _ _ LB1.out HBW_7.out)
                      clear hva1 a1 a2 a3
                      refine wpMix3_h rfl fun R' hR' hO => ?_
                      go_wp2
                      rw [← E1.out]
                      refine hR' _ _ ⟨⟨va1, HBA.out⟩, rfl⟩ ?_
                      clear hR' hO R' y0 yf0 y1 yf1 y2 yf2 y3 yf3 y4 yf4 y5 yf5 y6 yf6 y7 yf7
                      obtain ⟨va2, hva2, d1, d2, d3⟩ := put8 HC2.out (.int .i64 5) (.bool true) (.int .u64 ((hd : Nat) : Int)) (.int .u64 ((t0 : Nat) : Int)) (.int .u64 0) (.int .u64 0) (.int .u64 0) (.int .u64 0)
                      have y0 := cell_laid (i := 0) HC2.out rfl
                      have yf0 := free_laid (i := 0) HC2.out
                      have y1 := cell_laid (i := 1) HC2.out rfl
                      have yf1 := free_laid (i := 1) HC2.out
                      have y2 := cell_laid (i := 2) HC2.out rfl
                      have yf2 := free_laid (i := 2) HC2.out
                      have y3 := cell_laid (i := 3) HC2.out rfl
                      have yf3 := free_laid (i := 3) HC2.out
                      have y4 := cell_laid (i := 4) HC2.out rfl
                      have yf4 := free_laid (i := 4) HC2.out
                      have y5 := cell_laid (i := 5) HC2.out rfl
                      have yf5 := free_laid (i := 5) HC2.out
                      have y6 := cell_laid (i := 6) HC2.out rfl
                      have yf6 := free_laid (i := 6) HC2.out
                      have y7 := cell_laid (i := 7) HC2.out rfl
                      have yf7 := free_laid (i := 7) HC2.out
                      have E2 := hid hva2
                      have R : Hid (va2.heap[B1]? = some (.cells #[.int .i64 0, .bool false, .int .u64 ((hd : Nat) : Int), .int .u64 ((t0 : Nat) : Int), .int .u64 ((t1 : Nat) : Int), .int .u64 ((t2 : Nat) : Int), .int .u64 ((t1 : Nat) : Int), .int .u64 0] 42 (0, 0)) ∧ va2.heap[B2]? = some (.cells #[.int .i64 5, .bool true, .int .u64 ((hd : Nat) : Int), .int .u64 ((t0 : Nat) : Int), .int .u64 0, .int .u64 0, .int .u64 0, .int .u64 0] 42 (0, 0)) ∧ Below W0.heap.size W0 va2) := hid ⟨d2 B1 _ HNE.out HC1.out, d1, d3 _ _ LB2.out HBA.out⟩
                      clear hva2 d1 d2 d3
                      refine wpMix3_h rfl fun R' hR' hO => ?_
                      go_wp2
                      rw [← E2.out]
                      refine hR' _ _ ⟨⟨va2, R.out.2.2⟩, rfl⟩ ?_
                      clear hR' hO R' y0 yf0 y1 yf1 y2 yf2 y3 yf3 y4 yf4 y5 yf5 y6 yf6 y7 yf7
                      refine wpMix3_done ?_
                      simp only [List.drop_succ_cons, List.drop_nil]
                      go_wp2
                      go_meet
                      exact ⟨B1, B2, rfl, rfl, R⟩
                  · skip
                    refine wpMix3_h rfl fun R' hR' hO => ?_
                    obtain ⟨w110x, hww110x, hbn, hsn, hln⟩ := laid w04x #[.int .i64 0, .bool false, .int .u64 0, .int .u64 0, .int .u64 0, .int .u64 0, .int .u64 0, .int .u64 0] 42
                    obtain ⟨B2, hB⟩ : ∃ X, w04x.heap.size = X := ⟨_, rfl⟩
                    rw [hB] at hln
                    have LB2 := hid (show W0.heap.size ≤ B2 from by have := (HBW_1.out).size; omega)
                    have HBW_2 := hid (HBW_1.out.trans (hbn.mono HBW_1.out.size))
                    clear HBW_1 hbn hsn
                    have A2_3 := hid (hln)
                    clear hln
                    go_wp2
                    refine hR' _ _ ⟨⟨w110x, HBW_2.out⟩, rfl⟩ ?_
                    clear hR' hO R'
                    refine wpMix3_h2 ?_ ?_
                    · skip
                      refine wpMix3_h rfl fun R' hR' hO => ?_
                      go_wp2_with fail
                      refine (HCUT.out w110x).mono ?_
                      rintro e w28x ⟨rfl, hbn⟩
                      have HBW_4 := hid (HBW_2.out.trans (hbn.mono HBW_2.out.size))
                      have A2_5 := hid (keep_laid A2_3.out hbn)
                      clear HBW_2 A2_3 hbn
                      go_wp2
                      refine hR' _ _ ⟨⟨w28x, HBW_4.out⟩, rfl⟩ ?_
                      clear hR' hO R'
                      refine wpMix3_h rfl fun R' hR' hO => ?_
                      obtain ⟨w39x, hww39x, hbn, hsn, hln⟩ := laid w28x #[.int .i64 0, .bool false, .int .u64 0, .int .u64 0, .int .u64 0, .int .u64 0, .int .u64 0, .int .u64 0] 42
                      obtain ⟨B1, hB⟩ : ∃ X, w28x.heap.size = X := ⟨_, rfl⟩
                      rw [hB] at hln
                      have LB1 := hid (show W0.heap.size ≤ B1 from by have := (HBW_4.out).size; omega)
                      have HNE := hid (show B1 ≠ B2 from by have := lt_laid A2_5.out; omega)
                      have HBW_6 := hid (HBW_4.out.trans (hbn.mono HBW_4.out.size))
                      have A2_7 := hid (keep_laid A2_5.out hbn)
                      clear HBW_4 A2_5 hbn hsn
                      have A1_8 := hid (hln)
                      clear hln
                      go_wp2
                      refine hR' _ _ ⟨⟨w39x, HBW_6.out⟩, rfl⟩ ?_
                      clear hR' hO R'
                      obtain ⟨va1, hva1, a1, a2, a3⟩ := put8 A1_8.out (.int .i64 0) (.bool false) (.int .u64 ((hd : Nat) : Int)) (.int .u64 ((t0 : Nat) : Int)) (.int .u64 ((t1 : Nat) : Int)) (.int .u64 ((t2 : Nat) : Int)) (.int .u64 ((t1 : Nat) : Int)) (.int .u64 0)
                      have y0 := cell_laid (i := 0) A1_8.out rfl
                      have yf0 := free_laid (i := 0) A1_8.out
                      have y1 := cell_laid (i := 1) A1_8.out rfl
                      have yf1 := free_laid (i := 1) A1_8.out
                      have y2 := cell_laid (i := 2) A1_8.out rfl
                      have yf2 := free_laid (i := 2) A1_8.out
                      have y3 := cell_laid (i := 3) A1_8.out rfl
                      have yf3 := free_laid (i := 3) A1_8.out
                      have y4 := cell_laid (i := 4) A1_8.out rfl
                      have yf4 := free_laid (i := 4) A1_8.out
                      have y5 := cell_laid (i := 5) A1_8.out rfl
                      have yf5 := free_laid (i := 5) A1_8.out
                      have y6 := cell_laid (i := 6) A1_8.out rfl
                      have yf6 := free_laid (i := 6) A1_8.out
                      have y7 := cell_laid (i := 7) A1_8.out rfl
                      have yf7 := free_laid (i := 7) A1_8.out
                      have E1 := hid hva1
                      have HC2 := hid (a2 B2 _ (by have := HNE.out; omega) A2_7.out)
                      have HC1 := hid a1
                      have HBA := hid (a3 _ _ LB1.out HBW_6.out)
                      clear hva1 a1 a2 a3
                      refine wpMix3_h rfl fun R' hR' hO => ?_
                      go_wp2
                      rw [← E1.out]
                      refine hR' _ _ ⟨⟨va1, HBA.out⟩, rfl⟩ ?_
                      clear hR' hO R' y0 yf0 y1 yf1 y2 yf2 y3 yf3 y4 yf4 y5 yf5 y6 yf6 y7 yf7
                      obtain ⟨va2, hva2, d1, d2, d3⟩ := put8 HC2.out (.int .i64 5) (.bool true) (.int .u64 ((hd : Nat) : Int)) (.int .u64 ((t0 : Nat) : Int)) (.int .u64 0) (.int .u64 0) (.int .u64 0) (.int .u64 0)
                      have y0 := cell_laid (i := 0) HC2.out rfl
                      have yf0 := free_laid (i := 0) HC2.out
                      have y1 := cell_laid (i := 1) HC2.out rfl
                      have yf1 := free_laid (i := 1) HC2.out
                      have y2 := cell_laid (i := 2) HC2.out rfl
                      have yf2 := free_laid (i := 2) HC2.out
                      have y3 := cell_laid (i := 3) HC2.out rfl
                      have yf3 := free_laid (i := 3) HC2.out
                      have y4 := cell_laid (i := 4) HC2.out rfl
                      have yf4 := free_laid (i := 4) HC2.out
                      have y5 := cell_laid (i := 5) HC2.out rfl
                      have yf5 := free_laid (i := 5) HC2.out
                      have y6 := cell_laid (i := 6) HC2.out rfl
                      have yf6 := free_laid (i := 6) HC2.out
                      have y7 := cell_laid (i := 7) HC2.out rfl
                      have yf7 := free_laid (i := 7) HC2.out
                      have E2 := hid hva2
                      have R : Hid (va2.heap[B1]? = some (.cells #[.int .i64 0, .bool false, .int .u64 ((hd : Nat) : Int), .int .u64 ((t0 : Nat) : Int), .int .u64 ((t1 : Nat) : Int), .int .u64 ((t2 : Nat) : Int), .int .u64 ((t1 : Nat) : Int), .int .u64 0] 42 (0, 0)) ∧ va2.heap[B2]? = some (.cells #[.int .i64 5, .bool true, .int .u64 ((hd : Nat) : Int), .int .u64 ((t0 : Nat) : Int), .int .u64 0, .int .u64 0, .int .u64 0, .int .u64 0] 42 (0, 0)) ∧ Below W0.heap.size W0 va2) := hid ⟨d2 B1 _ HNE.out HC1.out, d1, d3 _ _ LB2.out HBA.out⟩
                      clear hva2 d1 d2 d3
                      refine wpMix3_h rfl fun R' hR' hO => ?_
                      go_wp2
                      rw [← E2.out]
                      refine hR' _ _ ⟨⟨va2, R.out.2.2⟩, rfl⟩ ?_
                      clear hR' hO R' y0 yf0 y1 yf1 y2 yf2 y3 yf3 y4 yf4 y5 yf5 y6 yf6 y7 yf7
                      refine wpMix3_done ?_
                      simp only [List.drop_succ_cons, List.drop_nil]
                      go_wp2
                      go_meet
                      exact ⟨B1, B2, rfl, rfl, R⟩
                    · skip
                      refine wpMix3_h rfl fun R' hR' hO => ?_
                      obtain ⟨w29x, hww29x, hbn, hsn, hln⟩ := laid w110x #[.int .i64 0, .bool false, .int .u64 0, .int .u64 0, .int .u64 0, .int .u64 0, .int .u64 0, .int .u64 0] 42
                      obtain ⟨B1, hB⟩ : ∃ X, w110x.heap.size = X := ⟨_, rfl⟩
                      rw [hB] at hln
                      have LB1 := hid (show W0.heap.size ≤ B1 from by have := (HBW_2.out).size; omega)
                      have HNE := hid (show B1 ≠ B2 from by have := lt_laid A2_3.out; omega)
                      have HBW_4 := hid (HBW_2.out.trans (hbn.mono HBW_2.out.size))
                      have A2_5 := hid (keep_laid A2_3.out hbn)
                      clear HBW_2 A2_3 hbn hsn
                      have A1_6 := hid (hln)
                      clear hln
                      go_wp2
                      refine hR' _ _ ⟨⟨w29x, HBW_4.out⟩, rfl⟩ ?_
                      clear hR' hO R'
                      refine wpMix3_h rfl fun R' hR' hO => ?_
                      go_wp2_with fail
                      refine (HCUT.out w29x).mono ?_
                      rintro e w38x ⟨rfl, hbn⟩
                      have HBW_7 := hid (HBW_4.out.trans (hbn.mono HBW_4.out.size))
                      have A2_8 := hid (keep_laid A2_5.out hbn)
                      have A1_9 := hid (keep_laid A1_6.out hbn)
                      clear HBW_4 A2_5 A1_6 hbn
                      go_wp2
                      refine hR' _ _ ⟨⟨w38x, HBW_7.out⟩, rfl⟩ ?_
                      clear hR' hO R'
                      obtain ⟨va1, hva1, a1, a2, a3⟩ := put8 A1_9.out (.int .i64 0) (.bool false) (.int .u64 ((hd : Nat) : Int)) (.int .u64 ((t0 : Nat) : Int)) (.int .u64 ((t1 : Nat) : Int)) (.int .u64 ((t2 : Nat) : Int)) (.int .u64 ((t1 : Nat) : Int)) (.int .u64 0)
                      have y0 := cell_laid (i := 0) A1_9.out rfl
                      have yf0 := free_laid (i := 0) A1_9.out
                      have y1 := cell_laid (i := 1) A1_9.out rfl
                      have yf1 := free_laid (i := 1) A1_9.out
                      have y2 := cell_laid (i := 2) A1_9.out rfl
                      have yf2 := free_laid (i := 2) A1_9.out
                      have y3 := cell_laid (i := 3) A1_9.out rfl
                      have yf3 := free_laid (i := 3) A1_9.out
                      have y4 := cell_laid (i := 4) A1_9.out rfl
                      have yf4 := free_laid (i := 4) A1_9.out
                      have y5 := cell_laid (i := 5) A1_9.out rfl
                      have yf5 := free_laid (i := 5) A1_9.out
                      have y6 := cell_laid (i := 6) A1_9.out rfl
                      have yf6 := free_laid (i := 6) A1_9.out
                      have y7 := cell_laid (i := 7) A1_9.out rfl
                      have yf7 := free_laid (i := 7) A1_9.out
                      have E1 := hid hva1
                      have HC2 := hid (a2 B2 _ (by have := HNE.out; omega) A2_8.out)
                      have HC1 := hid a1
                      have HBA := hid (a3 _ _ LB1.out HBW_7.out)
                      clear hva1 a1 a2 a3
                      refine wpMix3_h rfl fun R' hR' hO => ?_
                      go_wp2
                      rw [← E1.out]
                      refine hR' _ _ ⟨⟨va1, HBA.out⟩, rfl⟩ ?_
                      clear hR' hO R' y0 yf0 y1 yf1 y2 yf2 y3 yf3 y4 yf4 y5 yf5 y6 yf6 y7 yf7
                      obtain ⟨va2, hva2, d1, d2, d3⟩ := put8 HC2.out (.int .i64 5) (.bool true) (.int .u64 ((hd : Nat) : Int)) (.int .u64 ((t0 : Nat) : Int)) (.int .u64 0) (.int .u64 0) (.int .u64 0) (.int .u64 0)
                      have y0 := cell_laid (i := 0) HC2.out rfl
                      have yf0 := free_laid (i := 0) HC2.out
                      have y1 := cell_laid (i := 1) HC2.out rfl
                      have yf1 := free_laid (i := 1) HC2.out
                      have y2 := cell_laid (i := 2) HC2.out rfl
                      have yf2 := free_laid (i := 2) HC2.out
                      have y3 := cell_laid (i := 3) HC2.out rfl
                      have yf3 := free_laid (i := 3) HC2.out
                      have y4 := cell_laid (i := 4) HC2.out rfl
                      have yf4 := free_laid (i := 4) HC2.out
                      have y5 := cell_laid (i := 5) HC2.out rfl
                      have yf5 := free_laid (i := 5) HC2.out
                      have y6 := cell_laid (i := 6) HC2.out rfl
                      have yf6 := free_laid (i := 6) HC2.out
                      have y7 := cell_laid (i := 7) HC2.out rfl
                      have yf7 := free_laid (i := 7) HC2.out
                      have E2 := hid hva2
                      have R : Hid (va2.heap[B1]? = some (.cells #[.int .i64 0, .bool false, .int .u64 ((hd : Nat) : Int), .int .u64 ((t0 : Nat) : Int), .int .u64 ((t1 : Nat) : Int), .int .u64 ((t2 : Nat) : Int), .int .u64 ((t1 : Nat) : Int), .int .u64 0] 42 (0, 0)) ∧ va2.heap[B2]? = some (.cells #[.int .i64 5, .bool true, .int .u64 ((hd : Nat) : Int), .int .u64 ((t0 : Nat) : Int), .int .u64 0, .int .u64 0, .int .u64 0, .int .u64 0] 42 (0, 0)) ∧ Below W0.heap.size W0 va2) := hid ⟨d2 B1 _ HNE.out HC1.out, d1, d3 _ _ LB2.out HBA.out⟩
                      clear hva2 d1 d2 d3
                      refine wpMix3_h rfl fun R' hR' hO => ?_
                      go_wp2
                      rw [← E2.out]
                      refine hR' _ _ ⟨⟨va2, R.out.2.2⟩, rfl⟩ ?_
                      clear hR' hO R' y0 yf0 y1 yf1 y2 yf2 y3 yf3 y4 yf4 y5 yf5 y6 yf6 y7 yf7
                      refine wpMix3_done ?_
                      simp only [List.drop_succ_cons, List.drop_nil]
                      go_wp2
                      go_meet
                      exact ⟨B1, B2, rfl, rfl, R⟩
                · skip
                  refine wpMix3_h rfl fun R' hR' hO => ?_
                  obtain ⟨w09x, hww09x, hbn, hsn, hln⟩ := laid D #[.int .i64 0, .bool false, .int .u64 0, .int .u64 0, .int .u64 0, .int .u64 0, .int .u64 0, .int .u64 0] 42
                  obtain ⟨B1, hB⟩ : ∃ X, D.heap.size = X := ⟨_, rfl⟩
                  rw [hB] at hln
                  have LB1 := hid (show W0.heap.size ≤ B1 from by have := (HBW.out).size; omega)
                  have HBW_1 := hid (HBW.out.trans (hbn.mono HBW.out.size))
                  clear HBW hbn hsn
                  have A1_2 := hid (hln)
                  clear hln
                  go_wp2
                  refine hR' _ _ ⟨⟨w09x, HBW_1.out⟩, rfl⟩ ?_
                  clear hR' hO R'
                  refine wpMix3_h2 ?_ ?_
                  · skip
                    refine wpMix3_h rfl fun R' hR' hO => ?_
                    go_wp2_with fail
                    refine (HPUT.out w09x).mono ?_
                    rintro e w14x ⟨rfl, hbn⟩
                    have HBW_3 := hid (HBW_1.out.trans (hbn.mono HBW_1.out.size))
                    have A1_4 := hid (keep_laid A1_2.out hbn)
                    clear HBW_1 A1_2 hbn
                    go_wp2
                    refine hR' _ _ ⟨⟨w14x, HBW_3.out⟩, rfl⟩ ?_
                    clear hR' hO R'
                    refine wpMix3_h2 ?_ ?_
                    · skip
                      refine wpMix3_h rfl fun R' hR' hO => ?_
                      go_wp2_with fail
                      refine (HCUT.out w14x).mono ?_
                      rintro e w28x ⟨rfl, hbn⟩
                      have HBW_5 := hid (HBW_3.out.trans (hbn.mono HBW_3.out.size))
                      have A1_6 := hid (keep_laid A1_4.out hbn)
                      clear HBW_3 A1_4 hbn
                      go_wp2
                      refine hR' _ _ ⟨⟨w28x, HBW_5.out⟩, rfl⟩ ?_
                      clear hR' hO R'
                      refine wpMix3_h rfl fun R' hR' hO => ?_
                      obtain ⟨w310x, hww310x, hbn, hsn, hln⟩ := laid w28x #[.int .i64 0, .bool false, .int .u64 0, .int .u64 0, .int .u64 0, .int .u64 0, .int .u64 0, .int .u64 0] 42
                      obtain ⟨B2, hB⟩ : ∃ X, w28x.heap.size = X := ⟨_, rfl⟩
                      rw [hB] at hln
                      have LB2 := hid (show W0.heap.size ≤ B2 from by have := (HBW_5.out).size; omega)
                      have HNE := hid (show B1 ≠ B2 from by have := lt_laid A1_6.out; omega)
                      have HBW_7 := hid (HBW_5.out.trans (hbn.mono HBW_5.out.size))
                      have A1_8 := hid (keep_laid A1_6.out hbn)
                      clear HBW_5 A1_6 hbn hsn
                      have A2_9 := hid (hln)
                      clear hln
                      go_wp2
                      refine hR' _ _ ⟨⟨w310x, HBW_7.out⟩, rfl⟩ ?_
                      clear hR' hO R'
                      obtain ⟨va1, hva1, a1, a2, a3⟩ := put8 A1_8.out (.int .i64 0) (.bool false) (.int .u64 ((hd : Nat) : Int)) (.int .u64 ((t0 : Nat) : Int)) (.int .u64 ((t1 : Nat) : Int)) (.int .u64 ((t2 : Nat) : Int)) (.int .u64 ((t1 : Nat) : Int)) (.int .u64 0)
                      have y0 := cell_laid (i := 0) A1_8.out rfl
                      have yf0 := free_laid (i := 0) A1_8.out
                      have y1 := cell_laid (i := 1) A1_8.out rfl
                      have yf1 := free_laid (i := 1) A1_8.out
                      have y2 := cell_laid (i := 2) A1_8.out rfl
                      have yf2 := free_laid (i := 2) A1_8.out
                      have y3 := cell_laid (i := 3) A1_8.out rfl
                      have yf3 := free_laid (i := 3) A1_8.out
                      have y4 := cell_laid (i := 4) A1_8.out rfl
                      have yf4 := free_laid (i := 4) A1_8.out
                      have y5 := cell_laid (i := 5) A1_8.out rfl
                      have yf5 := free_laid (i := 5) A1_8.out
                      have y6 := cell_laid (i := 6) A1_8.out rfl
                      have yf6 := free_laid (i := 6) A1_8.out
                      have y7 := cell_laid (i := 7) A1_8.out rfl
                      have yf7 := free_laid (i := 7) A1_8.out
                      have E1 := hid hva1
                      have HC2 := hid (a2 B2 _ (by have := HNE.out; omega) A2_9.out)
                      have HC1 := hid a1
                      have HBA := hid (a3 _ _ LB1.out HBW_7.out)
                      clear hva1 a1 a2 a3
                      refine wpMix3_h rfl fun R' hR' hO => ?_
                      go_wp2
                      rw [← E1.out]
                      refine hR' _ _ ⟨⟨va1, HBA.out⟩, rfl⟩ ?_
                      clear hR' hO R' y0 yf0 y1 yf1 y2 yf2 y3 yf3 y4 yf4 y5 yf5 y6 yf6 y7 yf7
                      obtain ⟨va2, hva2, d1, d2, d3⟩ := put8 HC2.out (.int .i64 5) (.bool true) (.int .u64 ((hd : Nat) : Int)) (.int .u64 ((t0 : Nat) : Int)) (.int .u64 0) (.int .u64 0) (.int .u64 0) (.int .u64 0)
                      have y0 := cell_laid (i := 0) HC2.out rfl
                      have yf0 := free_laid (i := 0) HC2.out
                      have y1 := cell_laid (i := 1) HC2.out rfl
                      have yf1 := free_laid (i := 1) HC2.out
                      have y2 := cell_laid (i := 2) HC2.out rfl
                      have yf2 := free_laid (i := 2) HC2.out
                      have y3 := cell_laid (i := 3) HC2.out rfl
                      have yf3 := free_laid (i := 3) HC2.out
                      have y4 := cell_laid (i := 4) HC2.out rfl
                      have yf4 := free_laid (i := 4) HC2.out
                      have y5 := cell_laid (i := 5) HC2.out rfl
                      have yf5 := free_laid (i := 5) HC2.out
                      have y6 := cell_laid (i := 6) HC2.out rfl
                      have yf6 := free_laid (i := 6) HC2.out
                      have y7 := cell_laid (i := 7) HC2.out rfl
                      have yf7 := free_laid (i := 7) HC2.out
                      have E2 := hid hva2
                      have R : Hid (va2.heap[B1]? = some (.cells #[.int .i64 0, .bool false, .int .u64 ((hd : Nat) : Int), .int .u64 ((t0 : Nat) : Int), .int .u64 ((t1 : Nat) : Int), .int .u64 ((t2 : Nat) : Int), .int .u64 ((t1 : Nat) : Int), .int .u64 0] 42 (0, 0)) ∧ va2.heap[B2]? = some (.cells #[.int .i64 5, .bool true, .int .u64 ((hd : Nat) : Int), .int .u64 ((t0 : Nat) : Int), .int .u64 0, .int .u64 0, .int .u64 0, .int .u64 0] 42 (0, 0)) ∧ Below W0.heap.size W0 va2) := hid ⟨d2 B1 _ HNE.out HC1.out, d1, d3 _ _ LB2.out HBA.out⟩
                      clear hva2 d1 d2 d3
                      refine wpMix3_h rfl fun R' hR' hO => ?_
                      go_wp2
                      rw [← E2.out]
                      refine hR' _ _ ⟨⟨va2, R.out.2.2⟩, rfl⟩ ?_
                      clear hR' hO R' y0 yf0 y1 yf1 y2 yf2 y3 yf3 y4 yf4 y5 yf5 y6 yf6 y7 yf7
                      refine wpMix3_done ?_
                      simp only [List.drop_succ_cons, List.drop_nil]
                      go_wp2
                      go_meet
                      exact ⟨B1, B2, rfl, rfl, R⟩
                    · skip
                      refine wpMix3_h rfl fun R' hR' hO => ?_
                      obtain ⟨w210x, hww210x, hbn, hsn, hln⟩ := laid w14x #[.int .i64 0, .bool false, .int .u64 0, .int .u64 0, .int .u64 0, .int .u64 0, .int .u64 0, .int .u64 0] 42
                      obtain ⟨B2, hB⟩ : ∃ X, w14x.heap.size = X := ⟨_, rfl⟩
                      rw [hB] at hln
                      have LB2 := hid (show W0.heap.size ≤ B2 from by have := (HBW_3.out).size; omega)
                      have HNE := hid (show B1 ≠ B2 from by have := lt_laid A1_4.out; omega)
                      have HBW_5 := hid (HBW_3.out.trans (hbn.mono HBW_3.out.size))
                      have A1_6 := hid (keep_laid A1_4.out hbn)
                      clear HBW_3 A1_4 hbn hsn
                      have A2_7 := hid (hln)
                      clear hln
                      go_wp2
                      refine hR' _ _ ⟨⟨w210x, HBW_5.out⟩, rfl⟩ ?_
                      clear hR' hO R'
                      refine wpMix3_h rfl fun R' hR' hO => ?_
                      go_wp2_with fail
                      refine (HCUT.out w210x).mono ?_
                      rintro e w38x ⟨rfl, hbn⟩
                      have HBW_8 := hid (HBW_5.out.trans (hbn.mono HBW_5.out.size))
                      have A1_9 := hid (keep_laid A1_6.out hbn)
                      have A2_10 := hid (keep_laid A2_7.out hbn)
                      clear HBW_5 A1_6 A2_7 hbn
                      go_wp2
                      refine hR' _ _ ⟨⟨w38x, HBW_8.out⟩, rfl⟩ ?_
                      clear hR' hO R'
                      obtain ⟨va1, hva1, a1, a2, a3⟩ := put8 A1_9.out (.int .i64 0) (.bool false) (.int .u64 ((hd : Nat) : Int)) (.int .u64 ((t0 : Nat) : Int)) (.int .u64 ((t1 : Nat) : Int)) (.int .u64 ((t2 : Nat) : Int)) (.int .u64 ((t1 : Nat) : Int)) (.int .u64 0)
                      have y0 := cell_laid (i := 0) A1_9.out rfl
                      have yf0 := free_laid (i := 0) A1_9.out
                      have y1 := cell_laid (i := 1) A1_9.out rfl
                      have yf1 := free_laid (i := 1) A1_9.out
                      have y2 := cell_laid (i := 2) A1_9.out rfl
                      have yf2 := free_laid (i := 2) A1_9.out
                      have y3 := cell_laid (i := 3) A1_9.out rfl
                      have yf3 := free_laid (i := 3) A1_9.out
                      have y4 := cell_laid (i := 4) A1_9.out rfl
                      have yf4 := free_laid (i := 4) A1_9.out
                      have y5 := cell_laid (i := 5) A1_9.out rfl
                      have yf5 := free_laid (i := 5) A1_9.out
                      have y6 := cell_laid (i := 6) A1_9.out rfl
                      have yf6 := free_laid (i := 6) A1_9.out
                      have y7 := cell_laid (i := 7) A1_9.out rfl
                      have yf7 := free_laid (i := 7) A1_9.out
                      have E1 := hid hva1
                      have HC2 := hid (a2 B2 _ (by have := HNE.out; omega) A2_10.out)
                      have HC1 := hid a1
                      have HBA := hid (a3 _ _ LB1.out HBW_8.out)
                      clear hva1 a1 a2 a3
                      refine wpMix3_h rfl fun R' hR' hO => ?_
                      go_wp2
                      rw [← E1.out]
                      refine hR' _ _ ⟨⟨va1, HBA.out⟩, rfl⟩ ?_
                      clear hR' hO R' y0 yf0 y1 yf1 y2 yf2 y3 yf3 y4 yf4 y5 yf5 y6 yf6 y7 yf7
                      obtain ⟨va2, hva2, d1, d2, d3⟩ := put8 HC2.out (.int .i64 5) (.bool true) (.int .u64 ((hd : Nat) : Int)) (.int .u64 ((t0 : Nat) : Int)) (.int .u64 0) (.int .u64 0) (.int .u64 0) (.int .u64 0)
                      have y0 := cell_laid (i := 0) HC2.out rfl
                      have yf0 := free_laid (i := 0) HC2.out
                      have y1 := cell_laid (i := 1) HC2.out rfl
                      have yf1 := free_laid (i := 1) HC2.out
                      have y2 := cell_laid (i := 2) HC2.out rfl
                      have yf2 := free_laid (i := 2) HC2.out
                      have y3 := cell_laid (i := 3) HC2.out rfl
                      have yf3 := free_laid (i := 3) HC2.out
                      have y4 := cell_laid (i := 4) HC2.out rfl
                      have yf4 := free_laid (i := 4) HC2.out
                      have y5 := cell_laid (i := 5) HC2.out rfl
                      have yf5 := free_laid (i := 5) HC2.out
                      have y6 := cell_laid (i := 6) HC2.out rfl
                      have yf6 := free_laid (i := 6) HC2.out
                      have y7 := cell_laid (i := 7) HC2.out rfl
                      have yf7 := free_laid (i := 7) HC2.out
                      have E2 := hid hva2
                      have R : Hid (va2.heap[B1]? = some (.cells #[.int .i64 0, .bool false, .int .u64 ((hd : Nat) : Int), .int .u64 ((t0 : Nat) : Int), .int .u64 ((t1 : Nat) : Int), .int .u64 ((t2 : Nat) : Int), .int .u64 ((t1 : Nat) : Int), .int .u64 0] 42 (0, 0)) ∧ va2.heap[B2]? = some (.cells #[.int .i64 5, .bool true, .int .u64 ((hd : Nat) : Int), .int .u64 ((t0 : Nat) : Int), .int .u64 0, .int .u64 0, .int .u64 0, .int .u64 0] 42 (0, 0)) ∧ Below W0.heap.size W0 va2) := hid ⟨d2 B1 _ HNE.out HC1.out, d1, d3 _ _ LB2.out HBA.out⟩
                      clear hva2 d1 d2 d3
                      refine wpMix3_h rfl fun R' hR' hO => ?_
                      go_wp2
                      rw [← E2.out]
                      refine hR' _ _ ⟨⟨va2, R.out.2.2⟩, rfl⟩ ?_
                      clear hR' hO R' y0 yf0 y1 yf1 y2 yf2 y3 yf3 y4 yf4 y5 yf5 y6 yf6 y7 yf7
                      refine wpMix3_done ?_
                      simp only [List.drop_succ_cons, List.drop_nil]
                      go_wp2
                      go_meet
                      exact ⟨B1, B2, rfl, rfl, R⟩
                  · skip
                    refine wpMix3_h rfl fun R' hR' hO => ?_
                    obtain ⟨w110x, hww110x, hbn, hsn, hln⟩ := laid w09x #[.int .i64 0, .bool false, .int .u64 0, .int .u64 0, .int .u64 0, .int .u64 0, .int .u64 0, .int .u64 0] 42
                    obtain ⟨B2, hB⟩ : ∃ X, w09x.heap.size = X := ⟨_, rfl⟩
                    rw [hB] at hln
                    have LB2 := hid (show W0.heap.size ≤ B2 from by have := (HBW_1.out).size; omega)
                    have HNE := hid (show B1 ≠ B2 from by have := lt_laid A1_2.out; omega)
                    have HBW_3 := hid (HBW_1.out.trans (hbn.mono HBW_1.out.size))
                    have A1_4 := hid (keep_laid A1_2.out hbn)
                    clear HBW_1 A1_2 hbn hsn
                    have A2_5 := hid (hln)
                    clear hln
                    go_wp2
                    refine hR' _ _ ⟨⟨w110x, HBW_3.out⟩, rfl⟩ ?_
                    clear hR' hO R'
                    refine wpMix3_h rfl fun R' hR' hO => ?_
                    go_wp2_with fail
                    refine (HPUT.out w110x).mono ?_
                    rintro e w24x ⟨rfl, hbn⟩
                    have HBW_6 := hid (HBW_3.out.trans (hbn.mono HBW_3.out.size))
                    have A1_7 := hid (keep_laid A1_4.out hbn)
                    have A2_8 := hid (keep_laid A2_5.out hbn)
                    clear HBW_3 A1_4 A2_5 hbn
                    go_wp2
                    refine hR' _ _ ⟨⟨w24x, HBW_6.out⟩, rfl⟩ ?_
                    clear hR' hO R'
                    refine wpMix3_h rfl fun R' hR' hO => ?_
                    go_wp2_with fail
                    refine (HCUT.out w24x).mono ?_
                    rintro e w38x ⟨rfl, hbn⟩
                    have HBW_9 := hid (HBW_6.out.trans (hbn.mono HBW_6.out.size))
                    have A1_10 := hid (keep_laid A1_7.out hbn)
                    have A2_11 := hid (keep_laid A2_8.out hbn)
                    clear HBW_6 A1_7 A2_8 hbn
                    go_wp2
                    refine hR' _ _ ⟨⟨w38x, HBW_9.out⟩, rfl⟩ ?_
                    clear hR' hO R'
                    obtain ⟨va1, hva1, a1, a2, a3⟩ := put8 A1_10.out (.int .i64 0) (.bool false) (.int .u64 ((hd : Nat) : Int)) (.int .u64 ((t0 : Nat) : Int)) (.int .u64 ((t1 : Nat) : Int)) (.int .u64 ((t2 : Nat) : Int)) (.int .u64 ((t1 : Nat) : Int)) (.int .u64 0)
                    have y0 := cell_laid (i := 0) A1_10.out rfl
                    have yf0 := free_laid (i := 0) A1_10.out
                    have y1 := cell_laid (i := 1) A1_10.out rfl
                    have yf1 := free_laid (i := 1) A1_10.out
                    have y2 := cell_laid (i := 2) A1_10.out rfl
                    have yf2 := free_laid (i := 2) A1_10.out
                    have y3 := cell_laid (i := 3) A1_10.out rfl
                    have yf3 := free_laid (i := 3) A1_10.out
                    have y4 := cell_laid (i := 4) A1_10.out rfl
                    have yf4 := free_laid (i := 4) A1_10.out
                    have y5 := cell_laid (i := 5) A1_10.out rfl
                    have yf5 := free_laid (i := 5) A1_10.out
                    have y6 := cell_laid (i := 6) A1_10.out rfl
                    have yf6 := free_laid (i := 6) A1_10.out
                    have y7 := cell_laid (i := 7) A1_10.out rfl
                    have yf7 := free_laid (i := 7) A1_10.out
                    have E1 := hid hva1
                    have HC2 := hid (a2 B2 _ (by have := HNE.out; omega) A2_11.out)
                    have HC1 := hid a1
                    have HBA := hid (a3 _ _ LB1.out HBW_9.out)
                    clear hva1 a1 a2 a3
                    refine wpMix3_h rfl fun R' hR' hO => ?_
                    go_wp2
                    rw [← E1.out]
                    refine hR' _ _ ⟨⟨va1, HBA.out⟩, rfl⟩ ?_
                    clear hR' hO R' y0 yf0 y1 yf1 y2 yf2 y3 yf3 y4 yf4 y5 yf5 y6 yf6 y7 yf7
                    obtain ⟨va2, hva2, d1, d2, d3⟩ := put8 HC2.out (.int .i64 5) (.bool true) (.int .u64 ((hd : Nat) : Int)) (.int .u64 ((t0 : Nat) : Int)) (.int .u64 0) (.int .u64 0) (.int .u64 0) (.int .u64 0)
                    have y0 := cell_laid (i := 0) HC2.out rfl
                    have yf0 := free_laid (i := 0) HC2.out
                    have y1 := cell_laid (i := 1) HC2.out rfl
                    have yf1 := free_laid (i := 1) HC2.out
                    have y2 := cell_laid (i := 2) HC2.out rfl
                    have yf2 := free_laid (i := 2) HC2.out
                    have y3 := cell_laid (i := 3) HC2.out rfl
                    have yf3 := free_laid (i := 3) HC2.out
                    have y4 := cell_laid (i := 4) HC2.out rfl
                    have yf4 := free_laid (i := 4) HC2.out
                    have y5 := cell_laid (i := 5) HC2.out rfl
                    have yf5 := free_laid (i := 5) HC2.out
                    have y6 := cell_laid (i := 6) HC2.out rfl
                    have yf6 := free_laid (i := 6) HC2.out
                    have y7 := cell_laid (i := 7) HC2.out rfl
                    have yf7 := free_laid (i := 7) HC2.out
                    have E2 := hid hva2
                    have R : Hid (va2.heap[B1]? = some (.cells #[.int .i64 0, .bool false, .int .u64 ((hd : Nat) : Int), .int .u64 ((t0 : Nat) : Int), .int .u64 ((t1 : Nat) : Int), .int .u64 ((t2 : Nat) : Int), .int .u64 ((t1 : Nat) : Int), .int .u64 0] 42 (0, 0)) ∧ va2.heap[B2]? = some (.cells #[.int .i64 5, .bool true, .int .u64 ((hd : Nat) : Int), .int .u64 ((t0 : Nat) : Int), .int .u64 0, .int .u64 0, .int .u64 0, .int .u64 0] 42 (0, 0)) ∧ Below W0.heap.size W0 va2) := hid ⟨d2 B1 _ HNE.out HC1.out, d1, d3 _ _ LB2.out HBA.out⟩
                    clear hva2 d1 d2 d3
                    refine wpMix3_h rfl fun R' hR' hO => ?_
                    go_wp2
                    rw [← E2.out]
                    refine hR' _ _ ⟨⟨va2, R.out.2.2⟩, rfl⟩ ?_
                    clear hR' hO R' y0 yf0 y1 yf1 y2 yf2 y3 yf3 y4 yf4 y5 yf5 y6 yf6 y7 yf7
                    refine wpMix3_done ?_
                    simp only [List.drop_succ_cons, List.drop_nil]
                    go_wp2
                    go_meet
                    exact ⟨B1, B2, rfl, rfl, R⟩
                · skip
                  refine wpMix3_h rfl fun R' hR' hO => ?_
                  obtain ⟨w010x, hww010x, hbn, hsn, hln⟩ := laid D #[.int .i64 0, .bool false, .int .u64 0, .int .u64 0, .int .u64 0, .int .u64 0, .int .u64 0, .int .u64 0] 42
                  obtain ⟨B2, hB⟩ : ∃ X, D.heap.size = X := ⟨_, rfl⟩
                  rw [hB] at hln
                  have LB2 := hid (show W0.heap.size ≤ B2 from by have := (HBW.out).size; omega)
                  have HBW_1 := hid (HBW.out.trans (hbn.mono HBW.out.size))
                  clear HBW hbn hsn
                  have A2_2 := hid (hln)
                  clear hln
                  go_wp2
                  refine hR' _ _ ⟨⟨w010x, HBW_1.out⟩, rfl⟩ ?_
                  clear hR' hO R'
                  refine wpMix3_h2 ?_ ?_
                  · skip
                    refine wpMix3_h rfl fun R' hR' hO => ?_
                    go_wp2_with fail
                    refine (HPUT.out w010x).mono ?_
                    rintro e w14x ⟨rfl, hbn⟩
                    have HBW_3 := hid (HBW_1.out.trans (hbn.mono HBW_1.out.size))
                    have A2_4 := hid (keep_laid A2_2.out hbn)
                    clear HBW_1 A2_2 hbn
                    go_wp2
                    refine hR' _ _ ⟨⟨w14x, HBW_3.out⟩, rfl⟩ ?_
                    clear hR' hO R'
                    refine wpMix3_h2 ?_ ?_
                    · skip
                      refine wpMix3_h rfl fun R' hR' hO => ?_
                      go_wp2_with fail
                      refine (HCUT.out w14x).mono ?_
                      rintro e w28x ⟨rfl, hbn⟩
                      have HBW_5 := hid (HBW_3.out.trans (hbn.mono HBW_3.out.size))
                      have A2_6 := hid (keep_laid A2_4.out hbn)
                      clear HBW_3 A2_4 hbn
                      go_wp2
                      refine hR' _ _ ⟨⟨w28x, HBW_5.out⟩, rfl⟩ ?_
                      clear hR' hO R'
                      refine wpMix3_h rfl fun R' hR' hO => ?_
                      obtain ⟨w39x, hww39x, hbn, hsn, hln⟩ := laid w28x #[.int .i64 0, .bool false, .int .u64 0, .int .u64 0, .int .u64 0, .int .u64 0, .int .u64 0, .int .u64 0] 42
                      obtain ⟨B1, hB⟩ : ∃ X, w28x.heap.size = X := ⟨_, rfl⟩
                      rw [hB] at hln
                      have LB1 := hid (show W0.heap.size ≤ B1 from by have := (HBW_5.out).size; omega)
                      have HNE := hid (show B1 ≠ B2 from by have := lt_laid A2_6.out; omega)
                      have HBW_7 := hid (HBW_5.out.trans (hbn.mono HBW_5.out.size))
                      have A2_8 := hid (keep_laid A2_6.out hbn)
                      clear HBW_5 A2_6 hbn hsn
                      have A1_9 := hid (hln)
                      clear hln
                      go_wp2
                      refine hR' _ _ ⟨⟨w39x, HBW_7.out⟩, rfl⟩ ?_
                      clear hR' hO R'
                      obtain ⟨va1, hva1, a1, a2, a3⟩ := put8 A1_9.out (.int .i64 0) (.bool false) (.int .u64 ((hd : Nat) : Int)) (.int .u64 ((t0 : Nat) : Int)) (.int .u64 ((t1 : Nat) : Int)) (.int .u64 ((t2 : Nat) : Int)) (.int .u64 ((t1 : Nat) : Int)) (.int .u64 0)
                      have y0 := cell_laid (i := 0) A1_9.out rfl
                      have yf0 := free_laid (i := 0) A1_9.out
                      have y1 := cell_laid (i := 1) A1_9.out rfl
                      have yf1 := free_laid (i := 1) A1_9.out
                      have y2 := cell_laid (i := 2) A1_9.out rfl
                      have yf2 := free_laid (i := 2) A1_9.out
                      have y3 := cell_laid (i := 3) A1_9.out rfl
                      have yf3 := free_laid (i := 3) A1_9.out
                      have y4 := cell_laid (i := 4) A1_9.out rfl
                      have yf4 := free_laid (i := 4) A1_9.out
                      have y5 := cell_laid (i := 5) A1_9.out rfl
                      have yf5 := free_laid (i := 5) A1_9.out
                      have y6 := cell_laid (i := 6) A1_9.out rfl
                      have yf6 := free_laid (i := 6) A1_9.out
                      have y7 := cell_laid (i := 7) A1_9.out rfl
                      have yf7 := free_laid (i := 7) A1_9.out
                      have E1 := hid hva1
                      have HC2 := hid (a2 B2 _ (by have := HNE.out; omega) A2_8.out)
                      have HC1 := hid a1
                      have HBA := hid (a3 _ _ LB1.out HBW_7.out)
                      clear hva1 a1 a2 a3
                      refine wpMix3_h rfl fun R' hR' hO => ?_
                      go_wp2
                      rw [← E1.out]
                      refine hR' _ _ ⟨⟨va1, HBA.out⟩, rfl⟩ ?_
                      clear hR' hO R' y0 yf0 y1 yf1 y2 yf2 y3 yf3 y4 yf4 y5 yf5 y6 yf6 y7 yf7
                      obtain ⟨va2, hva2, d1, d2, d3⟩ := put8 HC2.out (.int .i64 5) (.bool true) (.int .u64 ((hd : Nat) : Int)) (.int .u64 ((t0 : Nat) : Int)) (.int .u64 0) (.int .u64 0) (.int .u64 0) (.int .u64 0)
                      have y0 := cell_laid (i := 0) HC2.out rfl
                      have yf0 := free_laid (i := 0) HC2.out
                      have y1 := cell_laid (i := 1) HC2.out rfl
                      have yf1 := free_laid (i := 1) HC2.out
                      have y2 := cell_laid (i := 2) HC2.out rfl
                      have yf2 := free_laid (i := 2) HC2.out
                      have y3 := cell_laid (i := 3) HC2.out rfl
                      have yf3 := free_laid (i := 3) HC2.out
                      have y4 := cell_laid (i := 4) HC2.out rfl
                      have yf4 := free_laid (i := 4) HC2.out
                      have y5 := cell_laid (i := 5) HC2.out rfl
                      have yf5 := free_laid (i := 5) HC2.out
                      have y6 := cell_laid (i := 6) HC2.out rfl
                      have yf6 := free_laid (i := 6) HC2.out
                      have y7 := cell_laid (i := 7) HC2.out rfl
                      have yf7 := free_laid (i := 7) HC2.out
                      have E2 := hid hva2
                      have R : Hid (va2.heap[B1]? = some (.cells #[.int .i64 0, .bool false, .int .u64 ((hd : Nat) : Int), .int .u64 ((t0 : Nat) : Int), .int .u64 ((t1 : Nat) : Int), .int .u64 ((t2 : Nat) : Int), .int .u64 ((t1 : Nat) : Int), .int .u64 0] 42 (0, 0)) ∧ va2.heap[B2]? = some (.cells #[.int .i64 5, .bool true, .int .u64 ((hd : Nat) : Int), .int .u64 ((t0 : Nat) : Int), .int .u64 0, .int .u64 0, .int .u64 0, .int .u64 0] 42 (0, 0)) ∧ Below W0.heap.size W0 va2) := hid ⟨d2 B1 _ HNE.out HC1.out, d1, d3 _ _ LB2.out HBA.out⟩
                      clear hva2 d1 d2 d3
                      refine wpMix3_h rfl fun R' hR' hO => ?_
                      go_wp2
                      rw [← E2.out]
                      refine hR' _ _ ⟨⟨va2, R.out.2.2⟩, rfl⟩ ?_
                      clear hR' hO R' y0 yf0 y1 yf1 y2 yf2 y3 yf3 y4 yf4 y5 yf5 y6 yf6 y7 yf7
                      refine wpMix3_done ?_
                      simp only [List.drop_succ_cons, List.drop_nil]
                      go_wp2
                      go_meet
                      exact ⟨B1, B2, rfl, rfl, R⟩
                    · skip
                      refine wpMix3_h rfl fun R' hR' hO => ?_
                      obtain ⟨w29x, hww29x, hbn, hsn, hln⟩ := laid w14x #[.int .i64 0, .bool false, .int .u64 0, .int .u64 0, .int .u64 0, .int .u64 0, .int .u64 0, .int .u64 0] 42
                      obtain ⟨B1, hB⟩ : ∃ X, w14x.heap.size = X := ⟨_, rfl⟩
                      rw [hB] at hln
                      have LB1 := hid (show W0.heap.size ≤ B1 from by have := (HBW_3.out).size; omega)
                      have HNE := hid (show B1 ≠ B2 from by have := lt_laid A2_4.out; omega)
                      have HBW_5 := hid (HBW_3.out.trans (hbn.mono HBW_3.out.size))
                      have A2_6 := hid (keep_laid A2_4.out hbn)
                      clear HBW_3 A2_4 hbn hsn
                      have A1_7 := hid (hln)
                      clear hln
                      go_wp2
                      refine hR' _ _ ⟨⟨w29x, HBW_5.out⟩, rfl⟩ ?_
                      clear hR' hO R'
                      refine wpMix3_h rfl fun R' hR' hO => ?_
                      go_wp2_with fail
                      refine (HCUT.out w29x).mono ?_
                      rintro e w38x ⟨rfl, hbn⟩
                      have HBW_8 := hid (HBW_5.out.trans (hbn.mono HBW_5.out.size))
                      have A2_9 := hid (keep_laid A2_6.out hbn)
                      have A1_10 := hid (keep_laid A1_7.out hbn)
                      clear HBW_5 A2_6 A1_7 hbn
                      go_wp2
                      refine hR' _ _ ⟨⟨w38x, HBW_8.out⟩, rfl⟩ ?_
                      clear hR' hO R'
                      obtain ⟨va1, hva1, a1, a2, a3⟩ := put8 A1_10.out (.int .i64 0) (.bool false) (.int .u64 ((hd : Nat) : Int)) (.int .u64 ((t0 : Nat) : Int)) (.int .u64 ((t1 : Nat) : Int)) (.int .u64 ((t2 : Nat) : Int)) (.int .u64 ((t1 : Nat) : Int)) (.int .u64 0)
                      have y0 := cell_laid (i := 0) A1_10.out rfl
                      have yf0 := free_laid (i := 0) A1_10.out
                      have y1 := cell_laid (i := 1) A1_10.out rfl
                      have yf1 := free_laid (i := 1) A1_10.out
                      have y2 := cell_laid (i := 2) A1_10.out rfl
                      have yf2 := free_laid (i := 2) A1_10.out
                      have y3 := cell_laid (i := 3) A1_10.out rfl
                      have yf3 := free_laid (i := 3) A1_10.out
                      have y4 := cell_laid (i := 4) A1_10.out rfl
                      have yf4 := free_laid (i := 4) A1_10.out
                      have y5 := cell_laid (i := 5) A1_10.out rfl
                      have yf5 := free_laid (i := 5) A1_10.out
                      have y6 := cell_laid (i := 6) A1_10.out rfl
                      have yf6 := free_laid (i := 6) A1_10.out
                      have y7 := cell_laid (i := 7) A1_10.out rfl
                      have yf7 := free_laid (i := 7) A1_10.out
                      have E1 := hid hva1
                      have HC2 := hid (a2 B2 _ (by have := HNE.out; omega) A2_9.out)
                      have HC1 := hid a1
                      have HBA := hid (a3 _ _ LB1.out HBW_8.out)
                      clear hva1 a1 a2 a3
                      refine wpMix3_h rfl fun R' hR' hO => ?_
                      go_wp2
                      rw [← E1.out]
                      refine hR' _ _ ⟨⟨va1, HBA.out⟩, rfl⟩ ?_
                      clear hR' hO R' y0 yf0 y1 yf1 y2 yf2 y3 yf3 y4 yf4 y5 yf5 y6 yf6 y7 yf7
                      obtain ⟨va2, hva2, d1, d2, d3⟩ := put8 HC2.out (.int .i64 5) (.bool true) (.int .u64 ((hd : Nat) : Int)) (.int .u64 ((t0 : Nat) : Int)) (.int .u64 0) (.int .u64 0) (.int .u64 0) (.int .u64 0)
                      have y0 := cell_laid (i := 0) HC2.out rfl
                      have yf0 := free_laid (i := 0) HC2.out
                      have y1 := cell_laid (i := 1) HC2.out rfl
                      have yf1 := free_laid (i := 1) HC2.out
                      have y2 := cell_laid (i := 2) HC2.out rfl
                      have yf2 := free_laid (i := 2) HC2.out
                      have y3 := cell_laid (i := 3) HC2.out rfl
                      have yf3 := free_laid (i := 3) HC2.out
                      have y4 := cell_laid (i := 4) HC2.out rfl
                      have yf4 := free_laid (i := 4) HC2.out
                      have y5 := cell_laid (i := 5) HC2.out rfl
                      have yf5 := free_laid (i := 5) HC2.out
                      have y6 := cell_laid (i := 6) HC2.out rfl
                      have yf6 := free_laid (i := 6) HC2.out
                      have y7 := cell_laid (i := 7) HC2.out rfl
                      have yf7 := free_laid (i := 7) HC2.out
                      have E2 := hid hva2
                      have R : Hid (va2.heap[B1]? = some (.cells #[.int .i64 0, .bool false, .int .u64 ((hd : Nat) : Int), .int .u64 ((t0 : Nat) : Int), .int .u64 ((t1 : Nat) : Int), .int .u64 ((t2 : Nat) : Int), .int .u64 ((t1 : Nat) : Int), .int .u64 0] 42 (0, 0)) ∧ va2.heap[B2]? = some (.cells #[.int .i64 5, .bool true, .int .u64 ((hd : Nat) : Int), .int .u64 ((t0 : Nat) : Int), .int .u64 0, .int .u64 0, .int .u64 0, .int .u64 0] 42 (0, 0)) ∧ Below W0.heap.size W0 va2) := hid ⟨d2 B1 _ HNE.out HC1.out, d1, d3 _ _ LB2.out HBA.out⟩
                      clear hva2 d1 d2 d3
                      refine wpMix3_h rfl fun R' hR' hO => ?_
                      go_wp2
                      rw [← E2.out]
                      refine hR' _ _ ⟨⟨va2, R.out.2.2⟩, rfl⟩ ?_
                      clear hR' hO R' y0 yf0 y1 yf1 y2 yf2 y3 yf3 y4 yf4 y5 yf5 y6 yf6 y7 yf7
                      refine wpMix3_done ?_
                      simp only [List.drop_succ_cons, List.drop_nil]
                      go_wp2
                      go_meet
                      exact ⟨B1, B2, rfl, rfl, R⟩
                  · skip
                    refine wpMix3_h rfl fun R' hR' hO => ?_
                    obtain ⟨w19x, hww19x, hbn, hsn, hln⟩ := laid w010x #[.int .i64 0, .bool false, .int .u64 0, .int .u64 0, .int .u64 0, .int .u64 0, .int .u64 0, .int .u64 0] 42
                    obtain ⟨B1, hB⟩ : ∃ X, w010x.heap.size = X := ⟨_, rfl⟩
                    rw [hB] at hln
                    have LB1 := hid (show W0.heap.size ≤ B1 from by have := (HBW_1.out).size; omega)
                    have HNE := hid (show B1 ≠ B2 from by have := lt_laid A2_2.out; omega)
                    have HBW_3 := hid (HBW_1.out.trans (hbn.mono HBW_1.out.size))
                    have A2_4 := hid (keep_laid A2_2.out hbn)
                    clear HBW_1 A2_2 hbn hsn
                    have A1_5 := hid (hln)
                    clear hln
                    go_wp2
                    refine hR' _ _ ⟨⟨w19x, HBW_3.out⟩, rfl⟩ ?_
                    clear hR' hO R'
                    refine wpMix3_h rfl fun R' hR' hO => ?_
                    go_wp2_with fail
                    refine (HPUT.out w19x).mono ?_
                    rintro e w24x ⟨rfl, hbn⟩
                    have HBW_6 := hid (HBW_3.out.trans (hbn.mono HBW_3.out.size))
                    have A2_7 := hid (keep_laid A2_4.out hbn)
                    have A1_8 := hid (keep_laid A1_5.out hbn)
                    clear HBW_3 A2_4 A1_5 hbn
                    go_wp2
                    refine hR' _ _ ⟨⟨w24x, HBW_6.out⟩, rfl⟩ ?_
                    clear hR' hO R'
                    refine wpMix3_h rfl fun R' hR' hO => ?_
                    go_wp2_with fail
                    refine (HCUT.out w24x).mono ?_
                    rintro e w38x ⟨rfl, hbn⟩
                    have HBW_9 := hid (HBW_6.out.trans (hbn.mono HBW_6.out.size))
                    have A2_10 := hid (keep_laid A2_7.out hbn)
                    have A1_11 := hid (keep_laid A1_8.out hbn)
                    clear HBW_6 A2_7 A1_8 hbn
                    go_wp2
                    refine hR' _ _ ⟨⟨w38x, HBW_9.out⟩, rfl⟩ ?_
                    clear hR' hO R'
                    obtain ⟨va1, hva1, a1, a2, a3⟩ := put8 A1_11.out (.int .i64 0) (.bool false) (.int .u64 ((hd : Nat) : Int)) (.int .u64 ((t0 : Nat) : Int)) (.int .u64 ((t1 : Nat) : Int)) (.int .u64 ((t2 : Nat) : Int)) (.int .u64 ((t1 : Nat) : Int)) (.int .u64 0)
                    have y0 := cell_laid (i := 0) A1_11.out rfl
                    have yf0 := free_laid (i := 0) A1_11.out
                    have y1 := cell_laid (i := 1) A1_11.out rfl
                    have yf1 := free_laid (i := 1) A1_11.out
                    have y2 := cell_laid (i := 2) A1_11.out rfl
                    have yf2 := free_laid (i := 2) A1_11.out
                    have y3 := cell_laid (i := 3) A1_11.out rfl
                    have yf3 := free_laid (i := 3) A1_11.out
                    have y4 := cell_laid (i := 4) A1_11.out rfl
                    have yf4 := free_laid (i := 4) A1_11.out
                    have y5 := cell_laid (i := 5) A1_11.out rfl
                    have yf5 := free_laid (i := 5) A1_11.out
                    have y6 := cell_laid (i := 6) A1_11.out rfl
                    have yf6 := free_laid (i := 6) A1_11.out
                    have y7 := cell_laid (i := 7) A1_11.out rfl
                    have yf7 := free_laid (i := 7) A1_11.out
                    have E1 := hid hva1
                    have HC2 := hid (a2 B2 _ (by have := HNE.out; omega) A2_10.out)
                    have HC1 := hid a1
                    have HBA := hid (a3 _ _ LB1.out HBW_9.out)
                    clear hva1 a1 a2 a3
                    refine wpMix3_h rfl fun R' hR' hO => ?_
                    go_wp2
                    rw [← E1.out]
                    refine hR' _ _ ⟨⟨va1, HBA.out⟩, rfl⟩ ?_
                    clear hR' hO R' y0 yf0 y1 yf1 y2 yf2 y3 yf3 y4 yf4 y5 yf5 y6 yf6 y7 yf7
                    obtain ⟨va2, hva2, d1, d2, d3⟩ := put8 HC2.out (.int .i64 5) (.bool true) (.int .u64 ((hd : Nat) : Int)) (.int .u64 ((t0 : Nat) : Int)) (.int .u64 0) (.int .u64 0) (.int .u64 0) (.int .u64 0)
                    have y0 := cell_laid (i := 0) HC2.out rfl
                    have yf0 := free_laid (i := 0) HC2.out
                    have y1 := cell_laid (i := 1) HC2.out rfl
                    have yf1 := free_laid (i := 1) HC2.out
                    have y2 := cell_laid (i := 2) HC2.out rfl
                    have yf2 := free_laid (i := 2) HC2.out
                    have y3 := cell_laid (i := 3) HC2.out rfl
                    have yf3 := free_laid (i := 3) HC2.out
                    have y4 := cell_laid (i := 4) HC2.out rfl
                    have yf4 := free_laid (i := 4) HC2.out
                    have y5 := cell_laid (i := 5) HC2.out rfl
                    have yf5 := free_laid (i := 5) HC2.out
                    have y6 := cell_laid (i := 6) HC2.out rfl
                    have yf6 := free_laid (i := 6) HC2.out
                    have y7 := cell_laid (i := 7) HC2.out rfl
                    have yf7 := free_laid (i := 7) HC2.out
                    have E2 := hid hva2
                    have R : Hid (va2.heap[B1]? = some (.cells #[.int .i64 0, .bool false, .int .u64 ((hd : Nat) : Int), .int .u64 ((t0 : Nat) : Int), .int .u64 ((t1 : Nat) : Int), .int .u64 ((t2 : Nat) : Int), .int .u64 ((t1 : Nat) : Int), .int .u64 0] 42 (0, 0)) ∧ va2.heap[B2]? = some (.cells #[.int .i64 5, .bool true, .int .u64 ((hd : Nat) : Int), .int .u64 ((t0 : Nat) : Int), .int .u64 0, .int .u64 0, .int .u64 0, .int .u64 0] 42 (0, 0)) ∧ Below W0.heap.size W0 va2) := hid ⟨d2 B1 _ HNE.out HC1.out, d1, d3 _ _ LB2.out HBA.out⟩
                    clear hva2 d1 d2 d3
                    refine wpMix3_h rfl fun R' hR' hO => ?_
                    go_wp2
                    rw [← E2.out]
                    refine hR' _ _ ⟨⟨va2, R.out.2.2⟩, rfl⟩ ?_
                    clear hR' hO R' y0 yf0 y1 yf1 y2 yf2 y3 yf3 y4 yf4 y5 yf5 y6 yf6 y7 yf7
                    refine wpMix3_done ?_
                    simp only [List.drop_succ_cons, List.drop_nil]
                    go_wp2
                    go_meet
                    exact ⟨B1, B2, rfl, rfl, R⟩
              case rest =>
                obtain ⟨B1, B2, rfl, rfl, hcc⟩ := hcut
                obtain ⟨w6, hw6⟩ : ∃ W, W = wc := ⟨_, rfl⟩
                subst hw6
                have HB6 := hid hcc.out.2.2
                have heq1 : ∀ w : World, (Op.equalIn 10000 42 (.agg #[.int .i64 0, .bool false, .int .u64 ((hd : Nat) : Int), .int .u64 ((t0 : Nat) : Int), .int .u64 ((t1 : Nat) : Int), .int .u64 ((t2 : Nat) : Int), .int .u64 ((t1 : Nat) : Int), .int .u64 0]) (.agg #[.int .i64 0, .bool false, .int .u64 ((hd : Nat) : Int), .int .u64 ((t0 : Nat) : Int), .int .u64 ((t1 : Nat) : Int), .int .u64 ((t2 : Nat) : Int), .int .u64 ((t1 : Nat) : Int), .int .u64 0])).run Try.prog w = .ok true w := fun w => by have := ed_eq (putE hd t1 (t0, t1, t2)) (putE hd t1 (t0, t1, t2)) (putE_ok HHD.out HTB.out.2.1 HTB.out) (putE_ok HHD.out HTB.out.2.1 HTB.out) w; rw [decide_eq_true rfl] at this; exact this
                have heq2 : ∀ w : World, (Op.equalIn 10000 42 (.agg #[.int .i64 5, .bool true, .int .u64 ((hd : Nat) : Int), .int .u64 ((t0 : Nat) : Int), .int .u64 0, .int .u64 0, .int .u64 0, .int .u64 0]) (.agg #[.int .i64 5, .bool true, .int .u64 ((hd : Nat) : Int), .int .u64 ((t0 : Nat) : Int), .int .u64 0, .int .u64 0, .int .u64 0, .int .u64 0])).run Try.prog w = .ok true w := fun w => by have := ed_eq (cutE hd t0) (cutE hd t0) (cutE_ok HHD.out HTB.out.1) (cutE_ok HHD.out HTB.out.1) w; rw [decide_eq_true rfl] at this; exact this
                have y0 := cell_laid (i := 0) hcc.out.1 rfl
                have y1 := cell_laid (i := 1) hcc.out.1 rfl
                have y2 := cell_laid (i := 2) hcc.out.1 rfl
                have y3 := cell_laid (i := 3) hcc.out.1 rfl
                have y4 := cell_laid (i := 4) hcc.out.1 rfl
                have y5 := cell_laid (i := 5) hcc.out.1 rfl
                have y6 := cell_laid (i := 6) hcc.out.1 rfl
                have y7 := cell_laid (i := 7) hcc.out.1 rfl
                have g0 := cell_laid (i := 0) hcc.out.2.1 rfl
                have g1 := cell_laid (i := 1) hcc.out.2.1 rfl
                have g2 := cell_laid (i := 2) hcc.out.2.1 rfl
                have g3 := cell_laid (i := 3) hcc.out.2.1 rfl
                have g4 := cell_laid (i := 4) hcc.out.2.1 rfl
                have g5 := cell_laid (i := 5) hcc.out.2.1 rfl
                have g6 := cell_laid (i := 6) hcc.out.2.1 rfl
                have g7 := cell_laid (i := 7) hcc.out.2.1 rfl
                obtain ⟨p0, p1, p2⟩ := cells3 (keep_laid HY.out HB6.out)
                clear hcc
                go_wp2
                go_roundg G
                case measure => have := HK.out; have := HG.out; omega
                case rel => exact ⟨k + 1, by have := HK.out; have := HG.out; omega, by go_num, HB6⟩
    · skip
      go_upto_region 30 with (fail)
      obtain ⟨D, hD⟩ : ∃ DX, (wr).drew = DX := ⟨_, rfl⟩
      have hbD : Below W0.heap.size W0 D := by rw [← hD]; exact hB.out.trans ((Below.refl _ _).drew.mono hB.out.size)
      have HD := hid hD
      have HBD := hid hbD
      have HXD := hid (keep_laid HX.out hbD)
      have HMD := hid (keep_laid HM.out hbD)
      clear hD hbD
      have r0 : ∀ z : Ext D, z.v.cell? ⟨Mb, 0, none⟩ = some (.slice wa0 Mk.W.length wc0) := fun z => cell_laid (keep_laid HMD.out z.b) rfl
      have r1 : ∀ z : Ext D, z.v.cell? ⟨Mb, 1, none⟩ = some (.slice la0 Mk.L.length lc0) := fun z => cell_laid (keep_laid HMD.out z.b) rfl
      have r2 : ∀ z : Ext D, z.v.cell? ⟨Mb, 2, none⟩ = some (.bool Mk.F) := fun z => cell_laid (keep_laid HMD.out z.b) rfl
      have p0 : ∀ z : Ext D, z.v.cell? ⟨Xm, 0, none⟩ = some (.slice wa M.W.length wc0M) := fun z => cell_laid (keep_laid HXD.out z.b) rfl
      have p1 : ∀ z : Ext D, z.v.cell? ⟨Xm, 1, none⟩ = some (.slice la M.L.length lc) := fun z => cell_laid (keep_laid HXD.out z.b) rfl
      have p2 : ∀ z : Ext D, z.v.cell? ⟨Xm, 2, none⟩ = some (.bool M.F) := fun z => cell_laid (keep_laid HXD.out z.b) rfl
      refine wp_region_mix2 (fun W => ∃ z : Ext D, W = z.v) 5 (.q 0 (.q 1 (.h 2 (.h 3 (.q 4 .done))))) (by kernel_rfl) (by kernel_rfl) (by rw [HD.out]; exact ⟨⟨D, Below.refl _ _⟩, rfl⟩) ?_
      rw [HD.out]
      repeat (refine wpMix2_q rfl rfl ?_; go_big_quiet_step (fail); refine wpQuiet_nil ?_)
      refine wpMix2_h rfl fun R' hR' hO => ?_
      go_wp2_with fail
      refine (HOWN.out D (HB.out.trans (HBD.out.mono HB.out.size))).mono ?_
      rintro e v1 ⟨wao, wco, lao, lco, rfl, hoo, hbo⟩
      have hsm := RefSame_any Mk Mk wa0 la0 wao lao wc0 lc0 wco lco v1 (HO.out.grow (HBD.out.trans (hbo.mono HBD.out.size))) hoo.memL
      rw [sameM_self'] at hsm
      have HSM := hid hsm
      unfold memV at HSM
      have HBO := hid hbo
      clear hoo hbo hsm
      unfold memV
      go_wp2
      refine hR' _ _ ⟨⟨v1, HBO.out⟩, rfl⟩ ?_
      clear hR' hO R'
      refine wpMix2_h rfl fun R' hR' hO => ?_
      go_wp2_with fail
      refine HSM.out.mono ?_
      rintro e v2 ⟨rfl, hb2⟩
      have HB2 := hid (step HBO.out hb2)
      clear hb2
      go_wp2
      refine hR' _ _ ⟨⟨v2, HB2.out⟩, rfl⟩ ?_
      clear hR' hO R'
      repeat (refine wpMix2_q rfl rfl ?_; go_big_quiet_step (fail); refine wpQuiet_nil ?_)
      refine wpMix2_done ?_
      simp only [List.drop_succ_cons, List.drop_nil]
      go_wp2
      go_ret
      exact ⟨rfl, HB.out.trans ((HBD.out.trans (HB2.out.mono HBD.out.size)).mono HB.out.size)⟩
end Go.Proofs.Ytoihjmdpbbcbjaa
