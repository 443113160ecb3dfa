/- Walk (printed by gen_wkplays.py): WalkPlays. -/
import Derived.Test.YtipohagcppfgiaaGreatWkR
import Derived.Test.YtipohagcppfgiaaGreatWkS
namespace Go.Proofs.YtipohagcppfgiaaGreat
open Go.RowKit
open Go.Proofs
set_option linter.unusedVariables false
attribute [local go_sem] Oper.semAt_some
theorem icells_lenP (ps : List Int) : (icells ps).length = ps.length := by unfold icells; rw [List.length_map]
theorem icells_takeP (ps : List Int) (k : Nat) : (icells ps).take k = icells (ps.take k) := by unfold icells; rw [List.map_take]
theorem icells_one (ps : List Int) : ∀ u ∈ icells ps, u.oneCell' = true := by
 intro u hu
 obtain ⟨x, -, rfl⟩ := List.mem_map.1 hu
 rfl
theorem play_err (w : Wal) (ps : List Int) : (playP w ps).2 = (wFault w).2 := by
 unfold playP
 by_cases h0 : (wFault w).2 = 0
 ·rw [if_neg (by simp [h0])]; exact h0.symm
 ·rw [if_pos h0]
theorem play_ok1 {w : Wal} {E : Nat} (h : (wFault w).2 = E) (h0 : E = 0) (ps : List Int) : (playP w ps).1 = playG w ps := by
 unfold playP
 rw [if_neg (by rw [h]; simp [h0])]
theorem play_bad {w : Wal} {E : Nat} (h : (wFault w).2 = E) (h0 : E ≠ 0) (ps : List Int) : (playP w ps).1 = zeroG := by
 unfold playP
 rw [if_pos (by rw [h]; exact h0)]
theorem kept_ap {a a' : Option Addr} {W : World} {E : Nat} (h : apartA a E) (hk : keptA W a a') (h2 : E < W.heap.size) : apartA a' E := fun b off e => by
 rcases hk with rfl | hk
 ·exact h b off e
 ·have := hk b off e; omega
/-- The rows of where all are lie apart from a block. -/
def apW (wa la ra : Option Addr) (E : Nat) (g : Gst) : Prop := apartA wa E ∧ apartA la E ∧ apartA ra E
theorem apW.kept {wa la ra wa' la' ra' : Option Addr} {E : Nat} {g g' : Gst} {W : World} (h : apW wa la ra E g) (h1 : keptA W wa wa') (h2 : keptA W la la') (h3 : keptA W ra ra') (hE : E < W.heap.size) : apW wa' la' ra' E g' := ⟨kept_ap h.1 h1 hE, kept_ap h.2.1 h2 hE, kept_ap h.2.2 h3 hE⟩
theorem apW.keep {wa la ra : Option Addr} {wc lc rc E : Nat} {g : Gst} {W W' : World} (h : apW wa la ra E g) (hd : WdL W wa wc la lc ra rc g) (hk : ∀ (k : Nat) (o : Obj), k ≠ E → W.heap[k]? = some o → W'.heap[k]? = some o) : WdL W' wa wc la lc ra rc g := ⟨hd.mem.keepNe h.1 h.2.1 hk, hd.rds.keepNe h.2.2 hk⟩
set_option maxRecDepth 100000 in
set_option maxHeartbeats 16000000 in
theorem plays_walk (w : Wal) (ps : List Int) (pa wa la ja ka : Option Addr) (np pc wc lc jc kc nj nk : Nat) (V : World) (h : WalL V wa wc la lc ja nj jc ka nk kc w) (hp : Leads V pa np pc (icells ps)) (hnp : ps.length = np) (hpo : ∀ n ∈ ps, -9223372036854775808 ≤ n ∧ n ≤ 9223372036854775807) :
  Calls Tryz.prog 4 #[walV wa wc la lc ja nj jc ka nk kc w, .slice pa np pc] V (Ret (.bool true) V) := by
 have HOK := hid h.ok.own
 have HSAME := hid (fun (wa1 la1 ja1 ka1 : Option Addr) (wc1 lc1 jc1 kc1 : Nat) (W : World) (hb : Below V.heap.size V W) (h1 : WalL W wa1 wc1 la1 lc1 ja1 (ownW w).J.length jc1 ka1 (ownW w).K.length kc1 (ownW w)) => same_any w (ownW w) wa la ja ka wa1 la1 ja1 ka1 wc lc jc kc nj nk wc1 lc1 jc1 kc1 _ _ W rfl (h.grow hb) h1)
 have HOWN : Hid (∀ W : World, Below V.heap.size V W → Calls Tryz.prog 6 #[walV wa wc la lc ja nj jc ka nk kc w] W (GivesWl (ownW w) W)) := hid (fun W hb => wown_any w wa la ja ka wc lc jc kc nj nk W (h.grow hb))
 obtain ⟨o, ho⟩ := nm (ownW w)
 rw [ho] at HOWN HOK HSAME
 unfold walV at HOWN HSAME ⊢
 obtain ⟨hd, hhd⟩ := nm (w.head)
 obtain ⟨wl, hwl'⟩ := nm (w.M.W.length)
 obtain ⟨ll, hll'⟩ := nm (w.M.L.length)
 obtain ⟨F, hf⟩ := nm (w.M.F)
 rw [hhd, hwl', hll', hf] at HOWN HSAME ⊢
 obtain ⟨V1, hV1, hb1, hs1, hl1⟩ := laid V (wal8 wa wl wc la ll lc F hd ja nj jc ka nk kc) 30
 obtain ⟨X, hX⟩ := nm (V.heap.size)
 rw [hX] at hl1
 have HX := hid hl1
 have HB := hid hb1
 have HPL := hid hp
 have HPN := hid hnp
 have HPO := hid hpo
 have hplen := hp.len
 have hpcap := hp.1
 obtain ⟨m, hm⟩ := nm (min np 60)
 have hmi : min ((np : Nat) : Int) 60 = ((m : Nat) : Int) := by omega
 have hmn : m ≤ np := by omega
 have hm50 : m ≤ 60 := by omega
 have hmc : m ≤ pc := by omega
 clear h hb1 hs1 hl1 hhd hwl' hll' hf ho hp hnp hpo hm
 go_enter Tryz.func4, Tryz.ntmps4
 go_wp2_with fail
 refine (wakes_any V1).mono ?_
 rintro e w1 ⟨rfl, hb⟩
 have HX1 := hid (klD HX.out hb)
 have HB1 := hid (HB.out.trans (hb.mono HB.out.size))
 clear hb HX HB
 go_wp2_with (refine wlW rfl 30 (.tmp 2) rfl X _ rfl _ HX1.out _ Tryz.underlying30 rfl (by kernel_rfl) ?_; intro v hv; subst hv)
 refine (HOWN.out w1 HB1.out).mono ?_
 rintro e w2 ⟨wa0, wc0, la0, lc0, ja0, jc0, ka0, kc0, rfl, hO⟩
 have HB2 := hid (HB1.out.trans (hO.below.mono HB1.out.size))
 obtain ⟨w3, hw3, hb3, hs3, hl3⟩ := laid w2 #[.slice none 0 0, .slice none 0 0, .bool false, .int .u64 0, .slice none 0 0, .slice none 0 0] 30
 obtain ⟨Wb, hWb⟩ := nm (w2.heap.size)
 rw [hWb] at hl3
 have KW3 := hid hl3
 have HB3 := hid hb3
 have HO2 := hid hO
 have HX2 := hid (klD HX1.out hO.below)
 have hVW : V.heap.size ≤ w2.heap.size := HB2.out.size
 clear hO hb3 hs3 hl3 HX1 HB1 hX
 unfold walV
 go_upto_region 4 with (refine wsP rfl 30 (.tmp 5) (.tmp 18) rfl Wb 0 _ (wal8 wa0 o.M.W.length wc0 la0 o.M.L.length lc0 o.M.F o.head ja0 o.J.length jc0 ka0 o.K.length kc0) _ rfl rfl _ KW3.out (by kernel_rfl) (Nat.le_of_ble_eq_true rfl) (by kernel_rfl) rfl ?_; intro w4 a1 a2 a3 a4; have KW := hid a1; have hbx := a3 _ _ (Nat.le_of_eq hWb) HB3.out; have HB4 := hid (HB2.out.trans (hbx.mono hVW)); have HO := hid (HO2.out.grow hbx); have KX := hid (klD HX2.out hbx); clear HX2 a1 a2 a3 a4 hbx KW3 HB3 HB2 HO2; (try simp only [Act.put]))
 
 clear hw3 hWb
 have HB := HB4
 clear HB4
 have HCL := hid (CloneI_any pa m pc (icells (ps.take m)) w4 (by rw [← icells_takeP]; exact ((HPL.out.grow HB.out)).vtake (by rw [icells_lenP]; exact HPN.out) hmn) (by rw [icells_lenP, List.length_take, HPN.out]; omega) (by omega) (icells_one _))
 have HPT : Hid (∀ n ∈ ps.take m, -9223372036854775808 ≤ n ∧ n ≤ 9223372036854775807) := hid (fun n hn => HPO.out n (List.mem_of_mem_take hn))
 have HML : Hid ((ps.take m).length = m) := hid (by rw [List.length_take, HPN.out]; omega)
 obtain ⟨qs, hqs⟩ := nm (ps.take m)
 rw [hqs] at HCL HPT HML
 clear hqs
 go_wp2_with fail
 refine HCL.out.mono ?_
 rintro e w5 ⟨v5, rfl, hrow, hb5⟩
 obtain ⟨qa, qc, rfl, hql⟩ := Leads.of_own hrow
 have HQ := hid hql
 have hqlen := hql.len
 clear hrow hql HCL
 have KX_1 := hid (klD KX.out hb5)
 have KW_2 := hid (klD KW.out hb5)
 have HO_3 := hid (HO.out.grow hb5)
 have HB_4 := hid (HB.out.trans (hb5.mono HB.out.size))
 clear KX KW HO HB hb5
 obtain ⟨E, hE⟩ := nm ((wFault o).2)
 have HE := hid hE
 have HC := hid (Why_any o wa0 la0 ja0 ka0 wc0 lc0 jc0 kc0 _ _ w5 (HO_3.out.walL HOK.out))
 rw [whyP_eq, hE] at HC
 unfold walV at HC
 go_wp2_with (refine wlW rfl 30 (.tmp 5) rfl Wb _ rfl _ KW_2.out _ Tryz.underlying30 rfl (by kernel_rfl) ?_; intro v hv; subst hv)
 refine HC.out.mono ?_
 rintro e w6 ⟨rfl, hb⟩
 clear HC
 have KX_5 := hid (klD KX_1.out hb)
 have KW_6 := hid (klD KW_2.out hb)
 have HO_7 := hid (HO_3.out.grow hb)
 have HB_8 := hid (HB_4.out.trans (hb.mono HB_4.out.size))
 have HQ_9 := hid (HQ.out.grow hb)
 clear KX_1 KW_2 HO_3 HB_4 HQ hb
 have HC := hid (WBegin_any o wa0 la0 ja0 ka0 wc0 lc0 jc0 kc0 _ _ w6 (HO_7.out.walL HOK.out))
 rw [play_err, hE] at HC
 unfold walV at HC
 obtain ⟨gb, hgb⟩ := nm ((playP o []).1)
 rw [hgb] at HC
 have HGB := hid hgb
 clear hgb
 go_wp2_with (refine wlW rfl 30 (.tmp 5) rfl Wb _ rfl _ KW_6.out _ Tryz.underlying30 rfl (by kernel_rfl) ?_; intro v hv; subst hv)
 refine HC.out.mono ?_
 rintro e w7 ⟨v7, rfl, hg7⟩
 obtain ⟨wa1, wc1, la1, lc1, ra1, rc1, rfl, hmo, hrd, hb7⟩ := hg7
 have HD1 : Hid (WdL w7 wa1 wc1 la1 lc1 ra1 rc1 gb) := hid ⟨hmo.memL, Leads.of_own1 hrd⟩
 have hl1 := (Leads.of_own1 hmo.w).len
 have hl2 := (Leads.of_own1 hrd).len
 clear hmo hrd HC
 have KX_10 := hid (klD KX_5.out hb7)
 have KW_11 := hid (klD KW_6.out hb7)
 have HO_12 := hid (HO_7.out.grow hb7)
 have HB_13 := hid (HB_8.out.trans (hb7.mono HB_8.out.size))
 have HQ_14 := hid (HQ_9.out.grow hb7)
 clear KX_5 KW_6 HO_7 HB_8 HQ_9 hb7
 obtain ⟨zBb, hzBb, hbz, hsz, hlz⟩ := laid w7 #[.slice none 0 0, .slice none 0 0, .bool false, .int .i64 0, .bool false, .int .i64 0, .bool false, .int .u64 0, .int .u64 0, .int .u64 0, .int .u64 0, .int .u64 0, .int .u64 0, .int .i64 0, .int .u64 0, .int .u64 0, .int .u64 0, .int .u64 0, .int .u64 0, .bool false, .slice none 0 0] 49
 obtain ⟨Bb, hBb⟩ := nm (w7.heap.size)
 rw [hBb] at hlz
 have KZ := hid hlz
 have HBZ := hid hbz
 clear hbz hsz hlz
 go_upto_region 7 with (refine wsP rfl 49 (.tmp 7) (.tmp 30) rfl Bb 0 _ (w21 wa1 gb.M.W.length wc1 la1 gb.M.L.length lc1 gb.M.F gb.done gb.edits gb.ed gb.wr ra1 gb.R.length rc1) _ rfl rfl _ KZ.out (by kernel_rfl) (Nat.le_of_ble_eq_true rfl) (by kernel_rfl) rfl ?_; intro uBb a1 a2 a3 a4; have KB1 := hid a1; have HBU := hid (a3 _ _ (Nat.le_of_eq hBb) HBZ.out); clear a1 a2 a3 a4 KZ HBZ; (try simp only [Act.put]))
 have hbu := HBU.out
 have KX_15 := hid (klD KX_10.out hbu)
 have KW_16 := hid (klD KW_11.out hbu)
 have HO_17 := hid (HO_12.out.grow hbu)
 have HB_18 := hid (HB_13.out.trans (hbu.mono HB_13.out.size))
 have HQ_19 := hid (HQ_14.out.grow hbu)
 have HD1_20 := hid (HD1.out.grow hbu)
 clear KX_10 KW_11 HO_12 HB_13 HQ_14 HD1 hbu HBU
 clear hzBb
 have HC := hid (Play_any o qs qa wa0 la0 ja0 ka0 m qc wc0 lc0 jc0 kc0 _ _ uBb (HO_17.out.walL HOK.out) HQ_19.out HML.out HPT.out (by omega))
 rw [play_err, hE] at HC
 unfold walV at HC
 obtain ⟨gg, hgg⟩ := nm ((playP o qs).1)
 rw [hgg] at HC
 have HGG := hid hgg
 clear hgg hE
 go_wp2_with (refine wlW rfl 30 (.tmp 5) rfl Wb _ rfl _ KW_16.out _ Tryz.underlying30 rfl (by kernel_rfl) ?_; intro v hv; subst hv)
 refine HC.out.mono ?_
 rintro e w9 ⟨v9, rfl, hg9⟩
 obtain ⟨wa2, wc2, la2, lc2, ra2, rc2, rfl, hmo, hrd, hb9⟩ := hg9
 have RM := hid hmo
 have RR := hid hrd
 have hl3 := (Leads.of_own1 hmo.w).len
 have hl4 := (Leads.of_own1 hrd).len
 have HU := hid hb9
 clear hmo hrd HC
 clear hb9
 obtain ⟨zGb, hzGb, hbz, hsz, hlz⟩ := laid w9 #[.slice none 0 0, .slice none 0 0, .bool false, .int .i64 0, .bool false, .int .i64 0, .bool false, .int .u64 0, .int .u64 0, .int .u64 0, .int .u64 0, .int .u64 0, .int .u64 0, .int .i64 0, .int .u64 0, .int .u64 0, .int .u64 0, .int .u64 0, .int .u64 0, .bool false, .slice none 0 0] 49
 obtain ⟨Gb, hGb⟩ := nm (w9.heap.size)
 rw [hGb] at hlz
 have KZ := hid hlz
 have HBZ := hid hbz
 clear hbz hsz hlz
 go_upto_region 8 with (refine wsP rfl 49 (.tmp 9) (.tmp 36) rfl Gb 0 _ (w21 wa2 gg.M.W.length wc2 la2 gg.M.L.length lc2 gg.M.F gg.done gg.edits gg.ed gg.wr ra2 gg.R.length rc2) _ rfl rfl _ KZ.out (by kernel_rfl) (Nat.le_of_ble_eq_true rfl) (by kernel_rfl) rfl ?_; intro uGb a1 a2 a3 a4; have KG := hid a1; have HBU := hid (a3 _ _ (Nat.le_of_eq hGb) HBZ.out); clear a1 a2 a3 a4 KZ HBZ; (try simp only [Act.put]))
 have hbu := HBU.out
 have HU_21 := hid (HU.out.trans (hbu.mono HU.out.size))
 have RM_22 := hid (RM.out.grow hbu)
 have RR_23 := hid (ogr RR.out hbu)
 clear HU RM RR hbu HBU
 clear hzGb
 have HC := hid (WCheck_any o wa0 la0 ja0 ka0 wc0 lc0 jc0 kc0 _ _ uGb ((HO_17.out.grow HU_21.out).walL HOK.out))
 unfold walV at HC
 rw [HE.out] at HC
 have tq : (((E : Nat) : Int) != ((E : Nat) : Int)) = false := by simp
 go_wp2_with (refine wlW rfl 30 (.tmp 5) rfl Wb _ rfl _ (klD KW_16.out HU_21.out) _ Tryz.underlying30 rfl (by kernel_rfl) ?_; intro v hv; subst hv)
 refine HC.out.mono ?_
 rintro e w10 ⟨rfl, hb⟩
 clear HC
 have HU_24 := hid (HU_21.out.trans (hb.mono HU_21.out.size))
 have RM_25 := hid (RM_22.out.grow hb)
 have RR_26 := hid (ogr RR_23.out hb)
 have KG_27 := hid (klD KG.out hb)
 clear HU_21 RM_22 RR_23 KG hb
 by_cases hE0 : E = 0
 ·skip
  subst hE0
  have t0 : ((((0 : Nat)) : Int) != 0) = false := by simp
  have HGB2 := hid ((play_ok1 HE.out rfl []).symm.trans HGB.out)
  have HGG2 := hid ((play_ok1 HE.out rfl qs).symm.trans HGG.out)
  clear HGB HGG
  have HF := hid (wFault_list HE.out).2.1
  have HK8 := hid (wFault_ok HE.out)
  have HGV := hid (wGiven HE.out HOK.out)
  have HBD : Hid (beginD o = playG o []) := hid (by show beginD o = ofG o; rw [beginD_eq HF.out]; rfl)
  go_upto_region 12 with (fail)
  clear tq t0
  go_wp2_with (refine wlW rfl 30 (.tmp 2) rfl X _ rfl _ (klD KX_15.out HU_24.out) _ Tryz.underlying30 rfl (by kernel_rfl) ?_; intro v hv; subst hv)
  refine (HOWN.out w10 (HB_18.out.trans (HU_24.out.mono HB_18.out.size))).mono ?_
  rintro e w11 ⟨wa3, wc3, la3, lc3, ja3, jc3, ka3, kc3, rfl, hO3⟩
  have HO3 := hid hO3
  have hb11 := hO3.below
  clear hO3
  have HU_28 := hid (HU_24.out.trans (hb11.mono HU_24.out.size))
  have RM_29 := hid (RM_25.out.grow hb11)
  have RR_30 := hid (ogr RR_26.out hb11)
  have KG_31 := hid (klD KG_27.out hb11)
  clear HU_24 RM_25 RR_26 KG_27 hb11
  have HC := hid (Begin_any o wa3 la3 ja3 ka3 wc3 lc3 jc3 kc3 w11 (HO3.out.walL HOK.out) (by have := HK8.out.2.2.2; omega))
  rw [HBD.out, HGB2.out] at HC
  unfold walV at HC
  unfold walV
  go_wp2_with fail
  refine HC.out.mono ?_
  rintro e w12 ⟨wa4, wc4, la4, lc4, ra4, rc4, rfl, hd4, hb12, hlr4⟩
  have HD4 := hid hd4
  have HLR4 := hid hlr4
  clear hd4 hlr4 HC HO3
  have HU_32 := hid (HU_28.out.trans (hb12.mono HU_28.out.size))
  have RM_33 := hid (RM_29.out.grow hb12)
  have RR_34 := hid (ogr RR_30.out hb12)
  have KG_35 := hid (klD KG_31.out hb12)
  clear HU_28 RM_29 RR_30 KG_31 hb12
  unfold wdV
  obtain ⟨zEb, hzEb, hbz, hsz, hlz⟩ := laid w12 #[.slice none 0 0, .slice none 0 0, .bool false, .int .i64 0, .bool false, .int .i64 0, .bool false, .int .u64 0, .int .u64 0, .int .u64 0, .int .u64 0, .int .u64 0, .int .u64 0, .int .i64 0, .int .u64 0, .int .u64 0, .int .u64 0, .int .u64 0, .int .u64 0, .bool false, .slice none 0 0] 49
  obtain ⟨Eb, hEb⟩ := nm (w12.heap.size)
  rw [hEb] at hlz
  have KZ := hid hlz
  have HBZ := hid hbz
  clear hbz hsz hlz
  go_upto_region 13 with (refine wsP rfl 49 (.tmp 11) (.tmp 74) rfl Eb 0 _ (w21 wa4 gb.M.W.length wc4 la4 gb.M.L.length lc4 gb.M.F gb.done gb.edits gb.ed gb.wr ra4 gb.R.length rc4) _ rfl rfl _ KZ.out (by kernel_rfl) (Nat.le_of_ble_eq_true rfl) (by kernel_rfl) rfl ?_; intro uEb a1 a2 a3 a4; have KE := hid a1; have HBU := hid (a3 _ _ (Nat.le_of_eq hEb) HBZ.out); clear a1 a2 a3 a4 KZ HBZ; (try simp only [Act.put]))
  clear hzEb
  obtain ⟨pub0, hinv0⟩ := play_inv HGV.out []
  have hgk0 := play_ok HOK.out.hh HOK.out.jok HOK.out.kok HOK.out.wok []
  rw [HGB2.out] at hinv0 hgk0
  have hokb := hinv0.p.ok
  have HC := hid (rSameW_any gb wa1 la1 ra1 wa4 la4 ra4 wc1 lc1 rc1 wc4 lc4 rc4 uEb (HD1_20.out.grow (HU_32.out.trans (HBU.out.mono HU_32.out.size))) (HD4.out.grow HBU.out) hgk0.e hgk0.s hgk0.r)
  unfold wdV at HC
  go_wp2_with (first | (refine wlW rfl 49 (.tmp 7) rfl Bb _ rfl _ (klD KB1.out (HU_32.out.trans (HBU.out.mono HU_32.out.size))) _ Tryz.underlying49 rfl (by kernel_rfl) ?_; intro v hv; subst hv) | (refine wlW rfl 49 (.tmp 11) rfl Eb _ rfl _ KE.out _ Tryz.underlying49 rfl (by kernel_rfl) ?_; intro v hv; subst hv))
  refine HC.out.mono ?_
  rintro e w13 ⟨rfl, hb⟩
  have HBR := hid (HBU.out.trans (hb.mono HBU.out.size))
  have KE13 := hid (klD KE.out hb)
  have HD13 := hid (HD4.out.grow HBR.out)
  have HAPE : Hid (apW wa4 la4 ra4 Eb gb) := hid ⟨((HD4.out.mem.lowA hokb).1).apart (Nat.le_of_eq hEb), ((HD4.out.mem.lowA hokb).2).apart (Nat.le_of_eq hEb), fun b off e => by have := HLR4.out b off e; omega⟩
  clear hokb HLR4
  clear hb HC hinv0 hgk0 KE HBU HD4
  go_wp2
  go_loopg [81] m (fun g t81 wr => ∃ (k : Nat) (gk' : Gst) (wa4 la4 ra4 : Option Addr) (wc4 lc4 rc4 : Nat), g + k = m ∧ t81 = .int .i64 k ∧ Hid (gk' = playG o (qs.take k)) ∧ Hid (wr.heap[Eb]? = some (.cells (w21 wa4 gk'.M.W.length wc4 la4 gk'.M.L.length lc4 gk'.M.F gk'.done gk'.edits gk'.ed gk'.wr ra4 gk'.R.length rc4) 49 (0, 0))) ∧ Hid (WdL wr wa4 wc4 la4 lc4 ra4 rc4 gk') ∧ Hid (apW wa4 la4 ra4 Eb gk') ∧ Hid (Below w12.heap.size w12 wr))
  case atStart => exact ⟨0, gb, wa4, la4, ra4, wc4, lc4, rc4, rfl, rfl, hid (by rw [List.take_zero]; exact HGB2.out.symm), KE13, HD13, HAPE, HBR⟩
  case round =>
   clear KE13 HD13 HAPE HBR
   obtain ⟨k, g', wa4, la4, ra4, wc4, lc4, rc4, hk, rfl, hg', hKE, hD, hAP, hBR⟩ := hrel
   have HK := hid hk
   clear hk
   by_cases hlt : k < m
   ·skip
    have tl : decide (((k : Nat) : Int) < ((m : Nat) : Int)) = true := decide_eq_true (by omega)
    obtain ⟨n, hn⟩ : ∃ x, qs[k]? = some x := ⟨_, List.getElem?_eq_getElem (by rw [HML.out]; exact hlt)⟩
    obtain ⟨qb, qo, rfl, hqc⟩ : ∃ b o, qa = some ⟨b, o, none⟩ ∧ wr.cell? ⟨b, o + k, none⟩ = some (.int .i64 n) := by
     obtain ⟨_, _, ⟨q, _⟩ | ⟨b, off, e, h3, h4⟩⟩ := (HQ_19.out.grow (HU_32.out.trans (hBR.out.mono HU_32.out.size)))
     ·omega
     ·exact ⟨b, off, e, h4 k _ (icell_at hn)⟩
    obtain ⟨pub, hinv⟩ := play_inv HGV.out (qs.take k)
    have hgk2 := play_ok HOK.out.hh HOK.out.jok HOK.out.kok HOK.out.wok (qs.take k)
    have hfl := (finds_law HE.out HOK.out (qs.take k)).1
    rw [← hg'.out] at hinv hgk2 hfl
    have HNX : Hid (playG o (qs.take (k + 1)) = pickG o.J o.head g' n) := hid (by rw [take_snoc hn, play_snoc, ← hg'.out])
    have HC := hid (StepA_any o _ g' pub n wa0 la0 ja0 ka0 wa4 la4 ra4 wc0 lc0 jc0 kc0 o.K.length wc4 lc4 rc4 wr (Leads.of_own1 (HO_17.out.grow (HU_32.out.trans (hBR.out.mono HU_32.out.size))).j) hD.out hinv hgk2 (by rw [hfl]; have := HK8.out.2.2.2; omega))
    unfold walV wdV at HC
    obtain ⟨g2, hg2⟩ := nm (pickG o.J o.head g' n)
    rw [hg2] at HC HNX
    clear hg2 hinv hgk2 hfl hn
    go_wp2_with (first | (refine wlW rfl 30 (.tmp 5) rfl Wb _ rfl _ (klD KW_16.out (HU_32.out.trans (hBR.out.mono HU_32.out.size))) _ Tryz.underlying30 rfl (by kernel_rfl) ?_; intro v hv; subst hv) | (refine wlW rfl 49 (.tmp 11) rfl Eb _ rfl _ hKE.out _ Tryz.underlying49 rfl (by kernel_rfl) ?_; intro v hv; subst hv))
    refine HC.out.mono ?_
    rintro e w14 ⟨wa5, wc5, la5, lc5, ra5, rc5, rfl, hd5, hb14, hk1, hk2, hk3⟩
    have hElt := llD hKE.out
    have KE14 := hid (klD hKE.out hb14)
    have HD14 := hid hd5
    have HAP14 : Hid (apW wa5 la5 ra5 Eb g2) := hid (hAP.out.kept hk1 hk2 hk3 hElt)
    have HB14 := hid (hBR.out.trans (hb14.mono hBR.out.size))
    have hE12 := Nat.le_of_eq hEb
    clear hd5 hb14 hk1 hk2 hk3 hKE hD hAP hBR HC hqc
    unfold wdV
    go_wp2_with (refine wsP rfl 49 (.tmp 11) (.tmp 88) rfl Eb 0 _ (w21 wa5 g2.M.W.length wc5 la5 g2.M.L.length lc5 g2.M.F g2.done g2.edits g2.ed g2.wr ra5 g2.R.length rc5) _ rfl rfl _ KE14.out (by kernel_rfl) (Nat.le_of_ble_eq_true rfl) (by kernel_rfl) rfl ?_; intro u15 a1 a2 a3 a4; have KE15 := hid a1; have HD15 := hid (HAP14.out.keep HD14.out a2); have HB15 := hid (a3 _ _ hE12 HB14.out); clear a1 a2 a3 a4 KE14 HD14 HB14; (try simp only [Act.put]))
    go_roundg (gk - 1)
    case measure => have := HK.out; omega
    case rel => exact ⟨k + 1, g2, _, _, _, _, _, _, by have := HK.out; omega, by go_num, hid HNX.out.symm, KE15, HD15, HAP14, HB15⟩
   ·skip
    obtain rfl : k = m := by have := HK.out; omega
    have tl : decide (((k : Nat) : Int) < ((k : Nat) : Int)) = false := decide_eq_false (by omega)
    have HGE : Hid (g' = gg) := hid (by rw [hg'.out, ← HGG2.out, List.take_of_length_le (by rw [HML.out]; exact Nat.le_refl _)])
    have hge := HGE.out
    subst hge
    clear HGE hg'
    have hgk2 := play_ok HOK.out.hh HOK.out.jok HOK.out.kok HOK.out.wok qs
    rw [HGG2.out] at hgk2
    have HC := hid (rSameW_any g' wa2 la2 ra2 wa4 la4 ra4 wc2 lc2 rc2 wc4 lc4 rc4 wr ⟨(RM_33.out.grow hBR.out).memL, Leads.of_own1 (ogr RR_34.out hBR.out)⟩ hD.out hgk2.e hgk2.s hgk2.r)
    unfold wdV at HC
    clear hgk2
    go_wp2_with (first | (refine wlW rfl 49 (.tmp 9) rfl Gb _ rfl _ (klD KG_35.out hBR.out) _ Tryz.underlying49 rfl (by kernel_rfl) ?_; intro v hv; subst hv) | (refine wlW rfl 49 (.tmp 11) rfl Eb _ rfl _ hKE.out _ Tryz.underlying49 rfl (by kernel_rfl) ?_; intro v hv; subst hv))
    refine HC.out.mono ?_
    rintro e w16 ⟨rfl, hb⟩
    have HB16 := hid (hBR.out.trans (hb.mono hBR.out.size))
    clear hb HC hBR hKE hD hAP
    have HU16 := hid (HU_32.out.trans (HB16.out.mono HU_32.out.size))
    have RM16 := hid (RM_33.out.grow HB16.out).w
    have KG16 := hid (klD KG_35.out HB16.out)
    obtain ⟨wn, hwn⟩ := nm (g'.M.W.length)
    rw [hwn] at RM16 KG16 hl3
    have HCS : Hid (∀ v ∈ wcells g'.M.W, ∃ z : Int, v = .int .u64 z) := hid (fun v hv => by obtain ⟨x, -, rfl⟩ := List.mem_map.1 hv; exact ⟨_, rfl⟩)
    have x0 := clD (i := 0) KG16.out rfl
    clear hwn
    go_wp2
    clear x0
    go_loopg [98] wn (fun g t98 wr => ∃ (i : Nat) (cs : List Value), g + i = wn ∧ t98 = .int .i64 i ∧ Hid (wr.ownsRow uBb.heap.size 26 1 (.slice wa2 wn wc2) wn cs) ∧ Hid (∀ v ∈ cs, ∃ z : Int, v = .int .u64 z) ∧ Hid (wr.heap[Gb]? = some (.cells (w21 wa2 wn wc2 la2 g'.M.L.length lc2 g'.M.F g'.done g'.edits g'.ed g'.wr ra2 g'.R.length rc2) 49 (0, 0))) ∧ Hid (Below uBb.heap.size uBb wr))
    case atStart => exact ⟨0, _, rfl, rfl, RM16, HCS, KG16, HU16⟩
    case round =>
     clear RM16 HCS KG16 HU16
     obtain ⟨i, cs, hi, rfl, hW, hcs, hKG, hHU⟩ := hrel
     have HI := hid hi
     clear hi
     by_cases hit : i < wn
     ·skip
      have ti : decide (((i : Nat) : Int) < ((wn : Nat) : Int)) = true := decide_eq_true (by omega)
      obtain ⟨gw, rfl⟩ := row_addr hW.out (by omega)
      have hcl : cs.length = wn * 1 := hW.out.1
      have hck := hW.out.cellAt i (by omega)
      rw [List.getElem?_eq_getElem (by omega)] at hck
      obtain ⟨z, hz⟩ := hcs.out _ (List.getElem_mem (by omega : i < cs.length))
      rw [hz] at hck
      have hfk := hW.out.frozenAt i
      have x0 := clD (i := 0) hKG.out rfl
      obtain ⟨curw, hcw⟩ := own_type hW.out gw rfl
      have HST := hid fun y : Int => (hW.out.stored i (.int .u64 y)).1
      have HCS2 := hid fun y : Int => show ∀ v ∈ cs.set i (.int .u64 y), ∃ z : Int, v = .int .u64 z from fun v hv => by
       rcases List.mem_or_eq_of_mem_set hv with hv | rfl
       ·exact hcs.out v hv
       ·exact ⟨y, rfl⟩
      have HXS := hid fun y : Int => olD (i := i) hKG.out (tyN hKG.out hcw (by decide)) (.int .u64 y)
      have HBS := hid fun y : Int => hHU.out.setCell (p := ⟨gw, i, none⟩) (hW.out.lt gw rfl).1 (.int .u64 y)
      clear hcl hz hW hcs hKG hcw hHU
      go_wp2
      go_roundg (gk - 1)
      case measure => have := HI.out; omega
      case rel => exact ⟨i + 1, _, by have := HI.out; omega, by go_num, hid (HST.out _), hid (HCS2.out _), hid (HXS.out _), hid (HBS.out _)⟩
     ·skip
      obtain rfl : i = wn := by have := HI.out; omega
      have ti : decide (((i : Nat) : Int) < ((i : Nat) : Int)) = false := decide_eq_false (by omega)
      clear hW hcs hKG
      have HC := hid (HSAME.out wa0 la0 ja0 ka0 wc0 lc0 jc0 kc0 wr (HB_18.out.trans (hHU.out.mono HB_18.out.size)) ((HO_17.out.grow hHU.out).walL HOK.out))
      go_wp2_with (first | (refine wlW rfl 30 (.tmp 5) rfl Wb _ rfl _ (klD KW_16.out hHU.out) _ Tryz.underlying30 rfl (by kernel_rfl) ?_; intro v hv; subst hv) | (refine wlW rfl 30 (.tmp 2) rfl X _ rfl _ (klD KX_15.out hHU.out) _ Tryz.underlying30 rfl (by kernel_rfl) ?_; intro v hv; subst hv))
      refine HC.out.mono ?_
      rintro e w17 ⟨rfl, hb⟩
      have HB17 := hid ((HB_18.out.trans (hHU.out.mono HB_18.out.size)).trans (hb.mono (HB_18.out.trans (hHU.out.mono HB_18.out.size)).size))
      clear hb HC
      go_wp2
      go_ret
      exact ⟨rfl, HB17.out⟩
 ·skip
  have t0 : (((E : Nat) : Int) != 0) = true := by simp [hE0]
  have hz1 := (play_bad HE.out hE0 []).symm.trans HGB.out
  have hz2 := (play_bad HE.out hE0 qs).symm.trans HGG.out
  clear HGB HGG
  subst hz1
  subst hz2
  have b0 : w10.cell? ⟨Bb, 0, none⟩ = some (.slice wa1 0 wc1) := clD (i := 0) (klD KB1.out HU_24.out) rfl
  have b20 : w10.cell? ⟨Bb, 20, none⟩ = some (.slice ra1 0 rc1) := clD (i := 20) (klD KB1.out HU_24.out) rfl
  have g0 : w10.cell? ⟨Gb, 0, none⟩ = some (.slice wa2 0 wc2) := clD (i := 0) KG_27.out rfl
  have g20 : w10.cell? ⟨Gb, 20, none⟩ = some (.slice ra2 0 rc2) := clD (i := 20) KG_27.out rfl
  have HBE := hid (HB_18.out.trans (HU_24.out.mono HB_18.out.size))
  go_wp2
  go_ret
  exact ⟨rfl, HBE.out⟩
end Go.Proofs.YtipohagcppfgiaaGreat
