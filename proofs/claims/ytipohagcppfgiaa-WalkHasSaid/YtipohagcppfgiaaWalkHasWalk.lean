/- Walk (printed by gen_wkhas.py): WalkHas. -/
import Derived.Test.YtipohagcppfgiaaWkD
import Derived.Test.YtipohagcppfgiaaWkP
import Derived.Test.YtipohagcppfgiaaLsZ
namespace Go.Proofs.Ytipohagcppfgiaa
open Go.RowKit
open Go.Proofs
set_option linter.unusedVariables false
attribute [local go_sem] Oper.semAt_some
theorem icells_len (ps : List Int) : (icells ps).length = ps.length := by unfold icells; rw [List.length_map]
theorem icells_take (ps : List Int) (k : Nat) : (icells ps).take k = icells (ps.take k) := by unfold icells; rw [List.map_take]
theorem nodesP_okN {M : Mem} {head : Nat} (hW : ∀ x ∈ M.W, x < 18446744073709551616) (h : (nodesP M head).2 = 0) : NdsOk (nodesP M head).1 := fun t ht => (nodesP_nodes hW h t ht).2
theorem afterP_of {w : Wal} (h : (wFault w).2 = 0) {n : Nat} (hn : n ≤ w.J.length) : afterP w ((n : Nat) : Int) = (afterL (wFault w).1 (w.J.take n), 0) := by
  unfold afterP
  rw [if_neg (by omega), if_neg (by omega)]
  rfl
set_option maxRecDepth 100000 in
set_option maxHeartbeats 16000000 in
theorem has_walk (w : Wal) (ps : List Int) (pa wa la ja ka : Option Addr) (np pc wc lc jc kc nj nk : Nat) (V : World) (h : WalL V wa wc la lc ja nj jc ka nk kc w) (hp : Leads V pa np pc (icells ps)) (hnp : ps.length = np) (hpo : ∀ n ∈ ps, -9223372036854775808 ≤ n ∧ n ≤ 9223372036854775807) :
    Calls Try.prog 3 #[walV wa wc la lc ja nj jc ka nk kc w, .slice pa np pc] V (Ret (.bool true) V) := by
  have HOK := hid h.ok.own
  have HOWN : Hid (∀ W : World, Below V.heap.size V W → Calls Try.prog 6 #[walV wa wc la lc ja nj jc ka nk kc w] W (GivesWl (ownW w) W)) := hid (fun W hb => wown_any w wa la ja ka wc lc jc kc nj nk W (h.grow hb))
  obtain ⟨o, ho⟩ : ∃ x, ownW w = x := ⟨_, rfl⟩
  rw [ho] at HOWN HOK
  unfold walV at HOWN ⊢
  obtain ⟨hd, hhd⟩ : ∃ x, w.head = x := ⟨_, rfl⟩
  obtain ⟨wl, hwl'⟩ : ∃ x, w.M.W.length = x := ⟨_, rfl⟩
  obtain ⟨ll, hll'⟩ : ∃ x, w.M.L.length = x := ⟨_, rfl⟩
  obtain ⟨F, hf⟩ : ∃ x, w.M.F = x := ⟨_, rfl⟩
  rw [hhd, hwl', hll', hf] at HOWN ⊢
  obtain ⟨V1, hV1, hb1, hs1, hl1⟩ := laid V (wal8 wa wl wc la ll lc F hd ja nj jc ka nk kc) 30
  obtain ⟨X, hX⟩ : ∃ X, V.heap.size = X := ⟨_, rfl⟩
  rw [hX] at hl1
  have HX := hid hl1
  have HB := hid hb1
  have HPL := hid hp
  have HPN := hid hnp
  have HPO := hid hpo
  have hplen := hp.len
  have hpcap := hp.1
  obtain ⟨m, hm⟩ : ∃ x, min np 50 = x := ⟨_, rfl⟩
  have hmi : min ((np : Nat) : Int) 50 = ((m : Nat) : Int) := by omega
  have hmn : m ≤ np := by omega
  have hm50 : m ≤ 50 := by omega
  have hmc : m ≤ pc := by omega
  clear h hb1 hs1 hl1 hhd hwl' hll' hf ho hp hnp hpo hm
  go_enter Try.func3, Try.ntmps3
  go_wp2_with fail
  refine (wakes_any V1).mono ?_
  rintro e w1 ⟨rfl, hb⟩
  have HX1 := hid (keep_laid HX.out hb)
  have HB1 := hid (HB.out.trans (hb.mono HB.out.size))
  clear hb HX HB
  go_wp2_with (refine wp_loadW rfl 30 (.tmp 2) rfl X _ rfl _ HX1.out _ Try.underlying30 rfl (by kernel_rfl) ?_; intro v hv; subst hv)
  refine (HOWN.out w1 HB1.out).mono ?_
  rintro e w2 ⟨wa0, wc0, la0, lc0, ja0, jc0, ka0, kc0, rfl, hO⟩
  have HB2 := hid (HB1.out.trans (hO.below.mono HB1.out.size))
  obtain ⟨w3, hw3, hb3, hs3, hl3⟩ := laid w2 #[.slice none 0 0, .slice none 0 0, .bool false, .int .u64 0, .slice none 0 0, .slice none 0 0] 30
  obtain ⟨Wb, hWb⟩ : ∃ X, w2.heap.size = X := ⟨_, rfl⟩
  rw [hWb] at hl3
  have KW3 := hid hl3
  have HB3 := hid hb3
  have HO2 := hid hO
  have hVW : V.heap.size ≤ w2.heap.size := HB2.out.size
  clear hO hb3 hs3 hl3 HOWN HX1 HB1 hX
  unfold walV
  go_upto_region 4 with (refine wp_storeP rfl 30 (.tmp 5) (.tmp 18) rfl Wb 0 _ (wal8 wa0 o.M.W.length wc0 la0 o.M.L.length lc0 o.M.F o.head ja0 o.J.length jc0 ka0 o.K.length kc0) _ rfl rfl _ KW3.out (by kernel_rfl) (Nat.le_of_ble_eq_true rfl) (by kernel_rfl) rfl ?_; intro w4 a1 a2 a3 a4; have KW := hid a1; have hbx := a3 _ _ (Nat.le_of_eq hWb) HB3.out; have HB4 := hid (HB2.out.trans (hbx.mono hVW)); have HO := hid (HO2.out.grow hbx); clear a1 a2 a3 a4 hbx KW3 HB3 HB2 HO2; (try simp only [Act.put]))
  clear hw3 hWb
  have HC := hid (WCheck_any o wa0 la0 ja0 ka0 wc0 lc0 jc0 kc0 _ _ w4 (HO.out.walL HOK.out))
  unfold walV at HC
  obtain ⟨E, hE⟩ : ∃ x, (wFault o).2 = x := ⟨_, rfl⟩
  rw [hE] at HC
  have HE := hid hE
  clear hE
  go_wp2_with (refine wp_loadW rfl 30 (.tmp 5) rfl Wb _ rfl _ KW.out _ Try.underlying30 rfl (by kernel_rfl) ?_; intro v hv; subst hv)
  refine HC.out.mono ?_
  rintro e w5 ⟨rfl, hb⟩
  have KW5 := hid (keep_laid KW.out hb)
  have HB5 := hid (HB4.out.trans (hb.mono HB4.out.size))
  have HO5 := hid (HO.out.grow hb)
  clear hb KW HB4 HO HC
  by_cases hE0 : E = 0
  · subst hE0
    have HJ := hid (wFault_ok HE.out)
    go_wp2
    go_loopg [30] (m + 1) (fun g i wr => ∃ (k : Nat), g + k = m + 1 ∧ i = .int .i64 ((k : Nat) : Int) ∧ Hid (Below w5.heap.size w5 wr))
    case atStart => exact ⟨0, rfl, rfl, hid (Below.refl _ _)⟩
    case round =>
      obtain ⟨k, hk, rfl, hbr⟩ := hrel
      have HK := hid hk
      have HBR := hid hbr.out
      clear hk hbr
      by_cases hlt : k < m + 1
      · have tl : decide (((k : Nat) : Int) < (((m + 1 : Nat)) : Int)) = true := decide_eq_true (by omega)
        have tl' : decide (((k : Nat) : Int) < ((m : Nat) : Int) + 1) = true := decide_eq_true (by omega)
        obtain ⟨D, hD⟩ : ∃ DX, World.drew wr = DX := ⟨_, rfl⟩
        have hbD : Below wr.heap.size wr D := by rw [← hD]; exact (Below.refl _ _).drew
        have HD := hid hD
        have HBD := hid (HBR.out.trans (hbD.mono HBR.out.size))
        have KWD := hid (keep_laid KW5.out HBD.out)
        have hkm : k ≤ m := by omega
        have hkc : k ≤ pc := by omega
        have hkn : k ≤ np := by omega
        have HCK : Hid (∀ W : World, Below D.heap.size D W → Calls Try.prog 8 #[.agg (wal8 wa0 o.M.W.length wc0 la0 o.M.L.length lc0 o.M.F o.head ja0 o.J.length jc0 ka0 o.K.length kc0), .slice pa k pc] W (fun e W' => ∃ v, e = .returned (.tuple #[v, .int .i64 0]) ∧ GivesW (playG o (ps.take k)) W v W')) := hid (fun W hb => by
          have hbW := HBD.out.trans (hb.mono HBD.out.size)
          have := Play_any o (ps.take k) pa wa0 la0 ja0 ka0 k pc wc0 lc0 jc0 kc0 _ _ W ((HO5.out.grow hbW).walL HOK.out) (by rw [← icells_take]; exact ((HPL.out.grow HB5.out).grow (hbW.mono (Nat.le_refl _))).vtake (by rw [icells_len]; exact HPN.out) hkn) (by rw [List.length_take, HPN.out]; omega) (fun n hn => HPO.out n (List.mem_of_mem_take hn)) (by omega)
          unfold playP at this
          rw [if_neg (by rw [HE.out]; simp)] at this
          exact this)
        clear hbD hD hlt
        haveI : Nonempty (Ext D) := ⟨⟨D, Below.refl _ _⟩⟩
        go_wp2_with fail
        refine wp_region_mix2 (fun W => ∃ z : Ext D, W = z.v) 11 (.q 0 (.q 1 (.q 2 (.q 3 (.h2 4 (.q 5 (.q 6 (.q 7 (.h 8 (.h 9 (.q 10 (.done))))))) 8 (.h 4 (.q 5 (.q 6 (.q 7 (.h 9 (.q 10 (.done)))))))))))) (by kernel_rfl) (by kernel_rfl) (by rw [HD.out]; exact ⟨⟨D, Below.refl _ _⟩, rfl⟩) ?_
        rw [HD.out]
        refine wpMix2_q rfl rfl ?_
        refine wpQuiet_loadP rfl 30 (.tmp 5) rfl Wb 0 [.slice wa0 o.M.W.length wc0, .slice la0 o.M.L.length lc0, .bool o.M.F, .int .u64 ((o.head : Nat) : Int), .slice ja0 o.J.length jc0, .slice ka0 o.K.length kc0] rfl (by rintro _ ⟨z, rfl⟩; exact rangeAt_part (keep_laid KWD.out z.b) rfl) _ Try.underlying30 rfl (by kernel_rfl) ?_
        intro v hv
        subst hv
        refine wpQuiet_nil ?_
        simp only [Act.put, List.setIfInBounds_toArray, List.set_cons_succ, List.set_cons_zero]
        iterate 3 (refine wpMix2_q rfl rfl ?_; go_big_quiet_step (fail); refine wpQuiet_nil ?_)
        refine wpMix2_h2 ?_ ?_
        · refine wpMix2_h rfl fun R' hR' hO => ?_
          go_wp2_with fail
          refine (HCK.out D (Below.refl _ _)).mono ?_
          rintro e9 w6 ⟨v6, rfl, hg⟩
          obtain ⟨wa', wc', la', lc', ra', rc', rfl, hmo, hrd, hb6⟩ := hg
          obtain ⟨g, hgg⟩ : ∃ x, playG o (ps.take k) = x := ⟨_, rfl⟩
          rw [hgg] at hmo
          rw [hgg]
          have HG := hid hgg
          have HM6 := hid hmo
          clear hrd hmo hgg
          go_wp2
          refine hR' _ _ ⟨⟨w6, hb6⟩, rfl⟩ ?_
          clear hR' hO R' HCK
          iterate 3 (refine wpMix2_q rfl rfl ?_; go_big_quiet_step (fail); refine wpQuiet_nil ?_)
          refine wpMix2_h rfl fun R' hR' hO => ?_
          obtain ⟨w7, hw7, hb7, hs7, hl7⟩ := laid w6 #[.slice none 0 0, .slice none 0 0, .bool false, .int .i64 0, .bool false, .int .i64 0, .bool false, .int .u64 0, .int .u64 0, .int .u64 0, .int .u64 0, .int .u64 0, .int .u64 0, .int .i64 0, .int .u64 0, .int .u64 0, .int .u64 0, .int .u64 0, .int .u64 0, .bool false, .slice none 0 0] 44
          obtain ⟨Tb, hTb⟩ : ∃ X, w6.heap.size = X := ⟨_, rfl⟩
          rw [hTb] at hl7
          have KT7 := hid hl7
          go_wp2
          have HB7 := hid (hb6.trans (hb7.mono hb6.size))
          have HM7 := hid (HM6.out.grow hb7)
          have hDT : D.heap.size ≤ Tb := by have := hb6.size; omega
          refine hR' _ _ ⟨⟨w7, HB7.out⟩, rfl⟩ ?_
          clear hR' hO R' hb7 hs7 hl7 hb6 HM6 hTb hw7
          refine wpMix2_h rfl fun R' hR' hO => ?_
          go_wp2_with (refine wp_storeP rfl 44 (.tmp 7) (.tmp 39) rfl Tb 0 _ (w21 wa' g.M.W.length wc' la' g.M.L.length lc' g.M.F g.done g.edits g.ed g.wr ra' g.R.length rc') _ rfl rfl _ KT7.out (by kernel_rfl) (Nat.le_of_ble_eq_true rfl) (by kernel_rfl) rfl ?_; intro w8 a1 a2 a3 a4; have KT8 := hid a1; have HBX := hid (a3 _ _ hDT HB7.out); have HM8 := hid (MemO.far2 HM7.out KT7.out (by decide) (by decide) a2).memL; clear a1 a2 a3 a4 KT7 HB7 HM7; (try simp only [Act.put]))
          refine hR' _ _ ⟨⟨w8, HBX.out⟩, rfl⟩ ?_
          clear hR' hO R'
          (refine wpMix2_q rfl rfl ?_; go_big_quiet_step (fail); refine wpQuiet_nil ?_)
          refine wpMix2_done ?_
          simp only [List.drop_succ_cons, List.drop_nil]
          have KW8 := hid (keep_laid KWD.out HBX.out)
          have HR8 := hid (HBD.out.trans (HBX.out.mono HBD.out.size))
          clear HBX KWD HBD HD HBR
          obtain ⟨hF, hdl, hnn⟩ := has_law HE.out HOK.out (ps.take k)
          rw [HG.out] at hF hdl hnn
          have HGW : Hid (∀ x ∈ g.M.W, x < 18446744073709551616) := hid (by have := (play_ok HOK.out.hh HOK.out.jok HOK.out.kok HOK.out.wok (ps.take k)).w; rwa [HG.out] at this)
          obtain ⟨L, hL⟩ : ∃ x, afterL (wFault o).1 (o.J.take g.done) = x := ⟨_, rfl⟩
          have HLN : Hid (NdsOk L) := hid (by have := nodesP_okN (head := o.head) HGW.out (by rw [hnn]); rwa [hnn, hL] at this)
          have HLL := hid hL
          have HNO := hid (Nodes_any g.M wa' la' wc' lc' o.head w8 HM8.out HOK.out.hh HGW.out)
          rw [hnn, hL] at HNO
          unfold memV at HNO
          have x0 := cell_laid (i := 0) KT8.out rfl
          have x2 := cell_laid (i := 2) KT8.out rfl
          have x3 := cell_laid (i := 3) KT8.out rfl
          have y3 := cell_laid (i := 3) KW8.out rfl
          have y4 := cell_laid (i := 4) KW8.out rfl
          rw [hF] at x2
          have td : decide (((g.done : Nat) : Int) > ((o.J.length : Nat) : Int)) = false := decide_eq_false (by omega)
          have td' : decide (((o.J.length : Nat) : Int) < ((g.done : Nat) : Int)) = false := decide_eq_false (by omega)
          have hj16 : o.J.length ≤ 16 := HJ.out.2.2.1
          have HDL := hid hdl
          clear hF hnn hL
          go_wp2_with (refine wp_loadP rfl 25 (.tmp 57) rfl Tb 0 _ [.slice wa' g.M.W.length wc', .slice la' g.M.L.length lc', .bool g.M.F] rfl _ KT8.out rfl _ Try.underlying25 rfl (by kernel_rfl) ?_; intro v hv; subst hv)
          refine HNO.out.mono ?_
          rintro e w9 ⟨lv, rfl, hrow, hb9⟩
          dsimp only at hrow
          obtain ⟨lva, lvc, rfl, hlv⟩ := Leads.of_own hrow
          have HL9 := hid hlv
          have KT9 := hid (keep_laid KT8.out hb9)
          have KW9 := hid (keep_laid KW8.out hb9)
          have HR9 := hid (HR8.out.trans (hb9.mono HR8.out.size))
          clear hrow hlv hb9 x0 x2 x3 y3 y4 KT8 KW8 HR8 HNO HM8
          have HA := hid (After_any o ((g.done : Nat) : Int) wa0 la0 ja0 ka0 wc0 lc0 jc0 kc0 _ _ w9 ((HO5.out.grow HR9.out).walL HOK.out) (by omega))
          rw [afterP_of HE.out HDL.out, HLL.out] at HA
          unfold walV at HA
          have x3 := cell_laid (i := 3) KT9.out rfl
          go_wp2_with (refine wp_loadW rfl 30 (.tmp 5) rfl Wb _ rfl _ KW9.out _ Try.underlying30 rfl (by kernel_rfl) ?_; intro v hv; subst hv)
          refine HA.out.mono ?_
          rintro e w10 ⟨nv, rfl, hrow, hb⟩
          dsimp only at hrow
          obtain ⟨nva, nvc, rfl, hlv⟩ := Leads.of_own hrow
          have HN10 := hid hlv
          have HL10 := hid (HL9.out.grow hb)
          have KT10 := hid (keep_laid KT9.out hb)
          have KW10 := hid (keep_laid KW9.out hb)
          have HR10 := hid (HR9.out.trans (hb.mono HR9.out.size))
          clear hrow hlv hb x3 KT9 KW9 HR9 HA HL9
          obtain ⟨d2, hd2⟩ : ∃ x, min (g.done + 1) o.J.length = x := ⟨_, rfl⟩
          have hmin : min (((g.done : Nat) : Int) + 1) ((o.J.length : Nat) : Int) = ((d2 : Nat) : Int) := by omega
          have hmin' : min (((g.done + 1 : Nat)) : Int) ((o.J.length : Nat) : Int) = ((d2 : Nat) : Int) := by omega
          have hd2l : d2 ≤ o.J.length := by omega
          have HA := hid (After_any o ((d2 : Nat) : Int) wa0 la0 ja0 ka0 wc0 lc0 jc0 kc0 _ _ w10 ((HO5.out.grow HR10.out).walL HOK.out) (by omega))
          rw [afterP_of HE.out hd2l] at HA
          unfold walV at HA
          have x3 := cell_laid (i := 3) KT10.out rfl
          have y4 := cell_laid (i := 4) KW10.out rfl
          clear hd2
          go_wp2_with (refine wp_loadW rfl 30 (.tmp 5) rfl Wb _ rfl _ KW10.out _ Try.underlying30 rfl (by kernel_rfl) ?_; intro v hv; subst hv)
          refine HA.out.mono ?_
          rintro e w11 ⟨tv, rfl, hrow, hb⟩
          dsimp only at hrow
          obtain ⟨tva, tvc, rfl, -⟩ := Leads.of_own hrow
          have HN11 := hid (HN10.out.grow hb)
          have HL11 := hid (HL10.out.grow hb)
          have HR11 := hid (HR10.out.trans (hb.mono HR10.out.size))
          clear hrow hb x3 y4 KT10 KW10 HR10 HA HL10 HN10
          have HEQ := hid (EqN_any L L lva nva _ _ lvc nvc w11 rfl rfl HLN.out HLN.out HL11.out HN11.out)
          rw [decide_eq_true rfl] at HEQ
          go_wp2_with fail
          refine HEQ.out.mono ?_
          rintro e w12 ⟨rfl, hb⟩
          have HR12 := hid (HR11.out.trans (hb.mono HR11.out.size))
          clear hb HEQ HL11 HN11 HR11
          go_wp2
          go_roundg (gk - 1)
          case measure => have := HK.out; omega
          case rel => exact ⟨k + 1, by have := HK.out; omega, by go_num, HR12⟩
        · refine wpMix2_h rfl fun R' hR' hO => ?_
          obtain ⟨w7, hw7, hb7, hs7, hl7⟩ := laid D #[.slice none 0 0, .slice none 0 0, .bool false, .int .i64 0, .bool false, .int .i64 0, .bool false, .int .u64 0, .int .u64 0, .int .u64 0, .int .u64 0, .int .u64 0, .int .u64 0, .int .i64 0, .int .u64 0, .int .u64 0, .int .u64 0, .int .u64 0, .int .u64 0, .bool false, .slice none 0 0] 44
          obtain ⟨Tb, hTb⟩ : ∃ X, D.heap.size = X := ⟨_, rfl⟩
          rw [hTb] at hl7
          have KT7 := hid hl7
          go_wp2
          have HB7a := hid hb7
          have hDT : D.heap.size ≤ Tb := by omega
          refine hR' _ _ ⟨⟨w7, hb7⟩, rfl⟩ ?_
          clear hR' hO R' hb7 hs7 hl7 hTb hw7
          refine wpMix2_h rfl fun R' hR' hO => ?_
          go_wp2_with fail
          refine (HCK.out w7 HB7a.out).mono ?_
          rintro e9 w6 ⟨v6, rfl, hg⟩
          obtain ⟨wa', wc', la', lc', ra', rc', rfl, hmo, hrd, hb6⟩ := hg
          obtain ⟨g, hgg⟩ : ∃ x, playG o (ps.take k) = x := ⟨_, rfl⟩
          rw [hgg] at hmo
          rw [hgg]
          have HG := hid hgg
          have HM6 := hid hmo
          clear hrd hmo hgg
          go_wp2
          have HB7 := hid (HB7a.out.trans (hb6.mono HB7a.out.size))
          have KT6 := hid (keep_laid KT7.out hb6)
          have HM7 := HM6
          refine hR' _ _ ⟨⟨w6, HB7.out⟩, rfl⟩ ?_
          clear hR' hO R' HCK hb6 KT7 HB7a HM6
          have KT7 := KT6
          clear KT6
          iterate 3 (refine wpMix2_q rfl rfl ?_; go_big_quiet_step (fail); refine wpQuiet_nil ?_)
          refine wpMix2_h rfl fun R' hR' hO => ?_
          go_wp2_with (refine wp_storeP rfl 44 (.tmp 7) (.tmp 39) rfl Tb 0 _ (w21 wa' g.M.W.length wc' la' g.M.L.length lc' g.M.F g.done g.edits g.ed g.wr ra' g.R.length rc') _ rfl rfl _ KT7.out (by kernel_rfl) (Nat.le_of_ble_eq_true rfl) (by kernel_rfl) rfl ?_; intro w8 a1 a2 a3 a4; have KT8 := hid a1; have HBX := hid (a3 _ _ hDT HB7.out); have HM8 := hid (MemO.far2 HM7.out KT7.out (by decide) (by decide) a2).memL; clear a1 a2 a3 a4 KT7 HB7 HM7; (try simp only [Act.put]))
          refine hR' _ _ ⟨⟨w8, HBX.out⟩, rfl⟩ ?_
          clear hR' hO R'
          (refine wpMix2_q rfl rfl ?_; go_big_quiet_step (fail); refine wpQuiet_nil ?_)
          refine wpMix2_done ?_
          simp only [List.drop_succ_cons, List.drop_nil]
          have KW8 := hid (keep_laid KWD.out HBX.out)
          have HR8 := hid (HBD.out.trans (HBX.out.mono HBD.out.size))
          clear HBX KWD HBD HD HBR
          obtain ⟨hF, hdl, hnn⟩ := has_law HE.out HOK.out (ps.take k)
          rw [HG.out] at hF hdl hnn
          have HGW : Hid (∀ x ∈ g.M.W, x < 18446744073709551616) := hid (by have := (play_ok HOK.out.hh HOK.out.jok HOK.out.kok HOK.out.wok (ps.take k)).w; rwa [HG.out] at this)
          obtain ⟨L, hL⟩ : ∃ x, afterL (wFault o).1 (o.J.take g.done) = x := ⟨_, rfl⟩
          have HLN : Hid (NdsOk L) := hid (by have := nodesP_okN (head := o.head) HGW.out (by rw [hnn]); rwa [hnn, hL] at this)
          have HLL := hid hL
          have HNO := hid (Nodes_any g.M wa' la' wc' lc' o.head w8 HM8.out HOK.out.hh HGW.out)
          rw [hnn, hL] at HNO
          unfold memV at HNO
          have x0 := cell_laid (i := 0) KT8.out rfl
          have x2 := cell_laid (i := 2) KT8.out rfl
          have x3 := cell_laid (i := 3) KT8.out rfl
          have y3 := cell_laid (i := 3) KW8.out rfl
          have y4 := cell_laid (i := 4) KW8.out rfl
          rw [hF] at x2
          have td : decide (((g.done : Nat) : Int) > ((o.J.length : Nat) : Int)) = false := decide_eq_false (by omega)
          have td' : decide (((o.J.length : Nat) : Int) < ((g.done : Nat) : Int)) = false := decide_eq_false (by omega)
          have hj16 : o.J.length ≤ 16 := HJ.out.2.2.1
          have HDL := hid hdl
          clear hF hnn hL
          go_wp2_with (refine wp_loadP rfl 25 (.tmp 57) rfl Tb 0 _ [.slice wa' g.M.W.length wc', .slice la' g.M.L.length lc', .bool g.M.F] rfl _ KT8.out rfl _ Try.underlying25 rfl (by kernel_rfl) ?_; intro v hv; subst hv)
          refine HNO.out.mono ?_
          rintro e w9 ⟨lv, rfl, hrow, hb9⟩
          dsimp only at hrow
          obtain ⟨lva, lvc, rfl, hlv⟩ := Leads.of_own hrow
          have HL9 := hid hlv
          have KT9 := hid (keep_laid KT8.out hb9)
          have KW9 := hid (keep_laid KW8.out hb9)
          have HR9 := hid (HR8.out.trans (hb9.mono HR8.out.size))
          clear hrow hlv hb9 x0 x2 x3 y3 y4 KT8 KW8 HR8 HNO HM8
          have HA := hid (After_any o ((g.done : Nat) : Int) wa0 la0 ja0 ka0 wc0 lc0 jc0 kc0 _ _ w9 ((HO5.out.grow HR9.out).walL HOK.out) (by omega))
          rw [afterP_of HE.out HDL.out, HLL.out] at HA
          unfold walV at HA
          have x3 := cell_laid (i := 3) KT9.out rfl
          go_wp2_with (refine wp_loadW rfl 30 (.tmp 5) rfl Wb _ rfl _ KW9.out _ Try.underlying30 rfl (by kernel_rfl) ?_; intro v hv; subst hv)
          refine HA.out.mono ?_
          rintro e w10 ⟨nv, rfl, hrow, hb⟩
          dsimp only at hrow
          obtain ⟨nva, nvc, rfl, hlv⟩ := Leads.of_own hrow
          have HN10 := hid hlv
          have HL10 := hid (HL9.out.grow hb)
          have KT10 := hid (keep_laid KT9.out hb)
          have KW10 := hid (keep_laid KW9.out hb)
          have HR10 := hid (HR9.out.trans (hb.mono HR9.out.size))
          clear hrow hlv hb x3 KT9 KW9 HR9 HA HL9
          obtain ⟨d2, hd2⟩ : ∃ x, min (g.done + 1) o.J.length = x := ⟨_, rfl⟩
          have hmin : min (((g.done : Nat) : Int) + 1) ((o.J.length : Nat) : Int) = ((d2 : Nat) : Int) := by omega
          have hmin' : min (((g.done + 1 : Nat)) : Int) ((o.J.length : Nat) : Int) = ((d2 : Nat) : Int) := by omega
          have hd2l : d2 ≤ o.J.length := by omega
          have HA := hid (After_any o ((d2 : Nat) : Int) wa0 la0 ja0 ka0 wc0 lc0 jc0 kc0 _ _ w10 ((HO5.out.grow HR10.out).walL HOK.out) (by omega))
          rw [afterP_of HE.out hd2l] at HA
          unfold walV at HA
          have x3 := cell_laid (i := 3) KT10.out rfl
          have y4 := cell_laid (i := 4) KW10.out rfl
          clear hd2
          go_wp2_with (refine wp_loadW rfl 30 (.tmp 5) rfl Wb _ rfl _ KW10.out _ Try.underlying30 rfl (by kernel_rfl) ?_; intro v hv; subst hv)
          refine HA.out.mono ?_
          rintro e w11 ⟨tv, rfl, hrow, hb⟩
          dsimp only at hrow
          obtain ⟨tva, tvc, rfl, -⟩ := Leads.of_own hrow
          have HN11 := hid (HN10.out.grow hb)
          have HL11 := hid (HL10.out.grow hb)
          have HR11 := hid (HR10.out.trans (hb.mono HR10.out.size))
          clear hrow hb x3 y4 KT10 KW10 HR10 HA HL10 HN10
          have HEQ := hid (EqN_any L L lva nva _ _ lvc nvc w11 rfl rfl HLN.out HLN.out HL11.out HN11.out)
          rw [decide_eq_true rfl] at HEQ
          go_wp2_with fail
          refine HEQ.out.mono ?_
          rintro e w12 ⟨rfl, hb⟩
          have HR12 := hid (HR11.out.trans (hb.mono HR11.out.size))
          clear hb HEQ HL11 HN11 HR11
          go_wp2
          go_roundg (gk - 1)
          case measure => have := HK.out; omega
          case rel => exact ⟨k + 1, by have := HK.out; omega, by go_num, HR12⟩
      · have tl : decide (((k : Nat) : Int) < (((m + 1 : Nat)) : Int)) = false := decide_eq_false (by omega)
        have tl' : decide (((k : Nat) : Int) < ((m : Nat) : Int) + 1) = false := decide_eq_false (by omega)
        have HBE := hid (HB5.out.trans (HBR.out.mono HB5.out.size))
        go_wp2
        go_ret
        exact ⟨rfl, HBE.out⟩
  · have tE : (((E : Nat) : Int) != 0) = true := by simp; omega
    go_wp2
    go_ret
    exact ⟨rfl, HB5.out⟩
end Go.Proofs.Ytipohagcppfgiaa
