/- Walk (printed by gen_wkafter.py): WalkAfter. -/
import Derived.Test.YtipohagcppfgiaaGreatWkR
import Derived.Test.YtipohagcppfgiaaGreatWkS
import Derived.Test.YtipohagcppfgiaaGreatWkR9
namespace Go.Proofs.YtipohagcppfgiaaGreat
open Go.RowKit
open Go.Proofs
set_option linter.unusedVariables false
attribute [local go_sem] Oper.semAt_some
theorem icells_lenP (ps : List Int) : (icells ps).length = ps.length := by unfold icells; rw [List.length_map]
theorem icells_takeP (ps : List Int) (k : Nat) : (icells ps).take k = icells (ps.take k) := by unfold icells; rw [List.map_take]
theorem icells_one (ps : List Int) : ∀ u ∈ icells ps, u.oneCell' = true := by
 intro u hu
 obtain ⟨x, -, rfl⟩ := List.mem_map.1 hu
 rfl
theorem kept_ap {a a' : Option Addr} {W : World} {E : Nat} (h : apartA a E) (hk : keptA W a a') (h2 : E < W.heap.size) : apartA a' E := fun b off e => by
 rcases hk with rfl | hk
 ·exact h b off e
 ·have := hk b off e; omega
/-- The rows of where all are lie apart from a block. -/
def apW (wa la ra : Option Addr) (E : Nat) (g : Gst) : Prop := apartA wa E ∧ apartA la E ∧ apartA ra E
theorem apW.kept {wa la ra wa' la' ra' : Option Addr} {E : Nat} {g g' : Gst} {W : World} (h : apW wa la ra E g) (h1 : keptA W wa wa') (h2 : keptA W la la') (h3 : keptA W ra ra') (hE : E < W.heap.size) : apW wa' la' ra' E g' := ⟨kept_ap h.1 h1 hE, kept_ap h.2.1 h2 hE, kept_ap h.2.2 h3 hE⟩
theorem apW.keep {wa la ra : Option Addr} {wc lc rc E : Nat} {g : Gst} {W W' : World} (h : apW wa la ra E g) (hd : WdL W wa wc la lc ra rc g) (hk : ∀ (k : Nat) (o : Obj), k ≠ E → W.heap[k]? = some o → W'.heap[k]? = some o) : WdL W' wa wc la lc ra rc g := ⟨hd.mem.keepNe h.1 h.2.1 hk, hd.rds.keepNe h.2.2 hk⟩
theorem stepJ_mem {xs : List Nd} {j : Jb} {x : Nd} (h : x ∈ stepJ xs j) : x ∈ xs ∨ x = j.2 := by
 unfold stepJ at h
 split at h
 ·exact .inl (List.mem_of_mem_eraseIdx h)
 ·split at h
  ·rcases List.mem_append.1 h with h | h
   ·exact .inl (List.mem_of_mem_take h)
   ·rcases List.mem_cons.1 h with h | h
    ·exact .inr h
    ·exact .inl (List.mem_of_mem_drop h)
  ·exact .inl h
theorem afterL_ok {xs : List Nd} {js : List Jb} (h : NdsOk xs) : (∀ x ∈ js, x.2.Ok) → NdsOk (afterL xs js) := by
 refine snocRec (p := fun js => (∀ x ∈ js, x.2.Ok) → NdsOk (afterL xs js)) (fun _ => h) (fun l j ih hj => ?_) js
 rw [afterL_snoc]
 intro t ht
 rcases stepJ_mem ht with h' | rfl
 ·exact ih (fun x hx => hj x (List.mem_append_left _ hx)) t h'
 ·exact hj j (List.mem_append_right _ (List.mem_singleton.2 rfl))
theorem wFault_nds {w : Wal} (h : (wFault w).2 = 0) (hW : ∀ x ∈ w.M.W, x < 18446744073709551616) : NdsOk (wFault w).1 := by
 obtain ⟨h1, h2, h3, -⟩ := wFault_list h
 have hp := nodesP_some h1 h3
 have := nodesP_nodes (M := w.M) (head := w.head) hW
 rw [hp] at this
 exact fun t ht => (this rfl t ht).2
theorem wIter_R (J : List Jb) (head : Nat) (g : Gst) : ∀ k, (wIter J head g k).R = g.R
 | 0 => rfl
 | k + 1 => by
  show (writeG J head (wIter J head g k)).R = g.R
  rw [writeG_R, wIter_R J head g k]
theorem afterP_in {w : Wal} {xs : List Nd} {n : Nat} (h : wFault w = (xs, 0)) (hn : n ≤ w.J.length) : afterP w ((n : Nat) : Int) = (afterL xs (w.J.take n), 0) := by
 unfold afterP
 rw [h]
 dsimp only
 rw [if_neg (by omega), if_neg (by omega)]
 rfl
theorem afterP_out {w : Wal} {xs : List Nd} {n : Int} (h : wFault w = (xs, 0)) (hn : n < 0 ∨ (w.J.length : Int) < n) : afterP w n = ([], 2) := by
 unfold afterP
 rw [h]
 dsimp only
 rw [if_neg (by omega), if_pos hn]
theorem afterP_bad {w : Wal} {E : Nat} {n : Int} (h : (wFault w).2 = E) (hE : E ≠ 0) : afterP w n = ([], E) := by
 unfold afterP
 rw [h, if_pos hE]
set_option maxRecDepth 100000 in
set_option maxHeartbeats 16000000 in
theorem after_walk (w : Wal) (ps : List Int) (pa wa la ja ka : Option Addr) (np pc wc lc jc kc nj nk : Nat) (V : World) (h : WalL V wa wc la lc ja nj jc ka nk kc w) (hp : Leads V pa np pc (icells ps)) (hnp : ps.length = np) (hpo : ∀ n ∈ ps, -9223372036854775808 ≤ n ∧ n ≤ 9223372036854775807) :
  Calls Tryz.prog 3 #[walV wa wc la lc ja nj jc ka nk kc w, .slice pa np pc] V (Ret (.bool true) V) := by
 have HOK := hid h.ok.own
 have HSAME := hid (fun (wa1 la1 ja1 ka1 : Option Addr) (wc1 lc1 jc1 kc1 : Nat) (W : World) (hb : Below V.heap.size V W) (h1 : WalL W wa1 wc1 la1 lc1 ja1 (ownW w).J.length jc1 ka1 (ownW w).K.length kc1 (ownW w)) => same_any w (ownW w) wa la ja ka wa1 la1 ja1 ka1 wc lc jc kc nj nk wc1 lc1 jc1 kc1 _ _ W rfl (h.grow hb) h1)
 have HOWN : Hid (∀ W : World, Below V.heap.size V W → Calls Tryz.prog 6 #[walV wa wc la lc ja nj jc ka nk kc w] W (GivesWl (ownW w) W)) := hid (fun W hb => wown_any w wa la ja ka wc lc jc kc nj nk W (h.grow hb))
 obtain ⟨o, ho⟩ := nm (ownW w)
 rw [ho] at HOWN HOK HSAME
 unfold walV at HOWN HSAME ⊢
 obtain ⟨hd, hhd⟩ := nm (w.head)
 obtain ⟨wl, hwl'⟩ := nm (w.M.W.length)
 obtain ⟨ll, hll'⟩ := nm (w.M.L.length)
 obtain ⟨F, hf⟩ := nm (w.M.F)
 rw [hhd, hwl', hll', hf] at HOWN HSAME ⊢
 obtain ⟨V1, hV1, hb1, hs1, hl1⟩ := laid V (wal8 wa wl wc la ll lc F hd ja nj jc ka nk kc) 30
 obtain ⟨X, hX⟩ := nm (V.heap.size)
 rw [hX] at hl1
 have HX := hid hl1
 have HB := hid hb1
 have HPL := hid hp
 have HPN := hid hnp
 have HPO := hid hpo
 have hplen := hp.len
 have hpcap := hp.1
 obtain ⟨m, hm⟩ := nm (min np 60)
 have hmi : min ((np : Nat) : Int) 60 = ((m : Nat) : Int) := by omega
 have hmn : m ≤ np := by omega
 have hm50 : m ≤ 60 := by omega
 have hmc : m ≤ pc := by omega
 clear h hb1 hs1 hl1 hhd hwl' hll' hf ho hp hnp hpo hm
 go_enter Tryz.func3, Tryz.ntmps3
 go_wp2_with fail
 refine (wakes_any V1).mono ?_
 rintro e w1 ⟨rfl, hb⟩
 have HX1 := hid (klD HX.out hb)
 have HB1 := hid (HB.out.trans (hb.mono HB.out.size))
 clear hb HX HB
 go_wp2_with (refine wlW rfl 30 (.tmp 2) rfl X _ rfl _ HX1.out _ Tryz.underlying30 rfl (by kernel_rfl) ?_; intro v hv; subst hv)
 refine (HOWN.out w1 HB1.out).mono ?_
 rintro e w2 ⟨wa0, wc0, la0, lc0, ja0, jc0, ka0, kc0, rfl, hO⟩
 have HB2 := hid (HB1.out.trans (hO.below.mono HB1.out.size))
 obtain ⟨w3, hw3, hb3, hs3, hl3⟩ := laid w2 #[.slice none 0 0, .slice none 0 0, .bool false, .int .u64 0, .slice none 0 0, .slice none 0 0] 30
 obtain ⟨Wb, hWb⟩ := nm (w2.heap.size)
 rw [hWb] at hl3
 have KW3 := hid hl3
 have HB3 := hid hb3
 have HO2 := hid hO
 have HX2 := hid (klD HX1.out hO.below)
 have hVW : V.heap.size ≤ w2.heap.size := HB2.out.size
 clear hO hb3 hs3 hl3 HX1 HB1 hX
 unfold walV
 go_upto_region 4 with (refine wsP rfl 30 (.tmp 5) (.tmp 21) rfl Wb 0 _ (wal8 wa0 o.M.W.length wc0 la0 o.M.L.length lc0 o.M.F o.head ja0 o.J.length jc0 ka0 o.K.length kc0) _ rfl rfl _ KW3.out (by kernel_rfl) (Nat.le_of_ble_eq_true rfl) (by kernel_rfl) rfl ?_; intro w4 a1 a2 a3 a4; have KW := hid a1; have hbx := a3 _ _ (Nat.le_of_eq hWb) HB3.out; have HB4 := hid (HB2.out.trans (hbx.mono hVW)); have HO := hid (HO2.out.grow hbx); have KX := hid (klD HX2.out hbx); clear HX2 a1 a2 a3 a4 hbx KW3 HB3 HB2 HO2; (try simp only [Act.put]))
 
 clear hw3 hWb hmi hmn hm50 hmc
 have HB := HB4
 clear HB4
 obtain ⟨⟨xs, E⟩, hxE⟩ : ∃ x, wFault o = x := ⟨_, rfl⟩
 have HXE := hid hxE
 have hE : (wFault o).2 = E := by rw [hxE]
 have HE := hid hE
 have HK8 : Hid (E = 0 → o.J.length ≤ 16 ∧ o.K.length ≤ 8) := hid (fun e => by have := wFault_ok (w := o) (by rw [hE]; exact e); exact ⟨this.2.2.1, this.2.2.2⟩)
 have HC := hid (Why_any o wa0 la0 ja0 ka0 wc0 lc0 jc0 kc0 _ _ w4 (HO.out.walL HOK.out))
 rw [whyP_eq, hE] at HC
 unfold walV at HC
 clear hxE hE
 go_wp2_with (refine wlW rfl 30 (.tmp 5) rfl Wb _ rfl _ KW.out _ Tryz.underlying30 rfl (by kernel_rfl) ?_; intro v hv; subst hv)
 refine HC.out.mono ?_
 rintro e w5 ⟨rfl, hb⟩
 clear HC
 have KX_1 := hid (klD KX.out hb)
 have KW_2 := hid (klD KW.out hb)
 have HO_3 := hid (HO.out.grow hb)
 have HB_4 := hid (HB.out.trans (hb.mono HB.out.size))
 clear KX KW HO HB hb
 have HPL5 := hid (HPL.out.grow HB_4.out)
 go_upto_block 0 with (fail)
 go_cut [] (fun W => Hid (Below w5.heap.size w5 W))
 case first =>
  go_wp2
  go_loopg [26] np (fun g t26 wr => ∃ (k : Nat), g + k = np ∧ t26 = .int .i64 k ∧ Hid (Below w5.heap.size w5 wr))
  case atStart => exact ⟨0, rfl, rfl, hid (Below.refl _ _)⟩
  case round =>
   obtain ⟨k, hk, rfl, hBR⟩ := hrel
   have HK := hid hk
   clear hk
   by_cases hlt : k < np
   ·skip
    have tl : decide (((k : Nat) : Int) < ((np : Nat) : Int)) = true := decide_eq_true (by omega)
    obtain ⟨n, hn⟩ : ∃ x, ps[k]? = some x := ⟨_, List.getElem?_eq_getElem (by rw [HPN.out]; exact hlt)⟩
    obtain ⟨pb, po, rfl, hpc⟩ : ∃ b o, pa = some ⟨b, o, none⟩ ∧ wr.cell? ⟨b, o + k, none⟩ = some (.int .i64 n) := by
     obtain ⟨_, _, ⟨q, _⟩ | ⟨b, off, e, h3, h4⟩⟩ := HPL5.out.grow hBR.out
     ·omega
     ·exact ⟨b, off, e, h4 k _ (icell_at hn)⟩
    have HPB := hid (HPO.out n (List.mem_of_getElem? hn))
    clear hn
    by_cases h6 : k = 6
    ·skip
     have t6 : (((k : Nat) : Int) == 6) = true := by simp; omega
     clear h6
     skip
     go_wp2
     go_meet
     exact hBR
    ·skip
     have t6 : (((k : Nat) : Int) == 6) = false := by simp; omega
     clear h6
     have HC := hid (After_any o n wa0 la0 ja0 ka0 wc0 lc0 jc0 kc0 _ _ wr ((HO_3.out.grow hBR.out).walL HOK.out) HPB.out)
     unfold walV at HC
     obtain ⟨⟨L, C⟩, hLC⟩ : ∃ x, afterP o n = x := ⟨_, rfl⟩
     rw [hLC] at HC
     have HLC := hid hLC
     clear hLC
     go_wp2_with (refine wlW rfl 30 (.tmp 5) rfl Wb _ rfl _ (klD KW_2.out hBR.out) _ Tryz.underlying30 rfl (by kernel_rfl) ?_; intro v hv; subst hv)
     refine HC.out.mono ?_
     rintro e w7 ⟨v7, rfl, hrow, hb7⟩
     dsimp only at hrow
     obtain ⟨ln, hln⟩ := nm (L.length)
     rw [hln] at hrow
     obtain ⟨va, vc, rfl, hvl⟩ := Leads.of_own hrow
     have HVL := hid hvl
     have HLN := hid hln
     have hvlen := hvl.len
     have HB7 := hid (hBR.out.trans (hb7.mono hBR.out.size))
     clear hrow hvl hln hb7 HC tl t6 hpc
     have tC : (((C : Nat) : Int) != ((C : Nat) : Int)) = false := by simp
     by_cases hE0 : E = 0
     ·skip
      subst hE0
      have t0 : ((((0 : Nat)) : Int) == 0) = true := by simp
      have hj16 := (HK8.out rfl).1
      have y4 := clD (i := 4) (klD KW_2.out HB7.out) rfl
      by_cases hin : n < 0 ∨ ((o.J.length : Nat) : Int) < n
      ·skip
       have HR := hid (HLC.out.symm.trans (afterP_out HXE.out hin))
       obtain ⟨rfl, rfl⟩ : L = [] ∧ C = 2 := by have := HR.out; simp only [Prod.mk.injEq] at this; exact this
       obtain rfl : ln = 0 := HLN.out.symm
       by_cases hn0 : n < 0
       ·skip
        have g1 : decide (n ≥ (0 : Int)) = false := decide_eq_false (by omega)
        have g1' : decide ((0 : Int) ≤ n) = false := decide_eq_false (by omega)
        clear hin hn0 HR
        have HC := hid (rSame_any [] [] va none 0 0 vc 0 w7 rfl rfl (fun t ht => by cases ht) (fun t ht => by cases ht) HVL.out ⟨Nat.le_refl _, Nat.zero_le _, .inl ⟨rfl, rfl⟩⟩)
        rw [decide_eq_true rfl] at HC
        go_wp2_with fail
        refine HC.out.mono ?_
        rintro e w8 ⟨rfl, hb⟩
        have HB8 := hid (HB7.out.trans (hb.mono HB7.out.size))
        clear hb HC
        go_wp2
        go_roundg (gk - 1)
        case measure => have := HK.out; omega
        case rel => exact ⟨k + 1, by have := HK.out; omega, by go_num, HB8⟩
       ·skip
        have g1 : decide (n ≥ (0 : Int)) = true := decide_eq_true (by omega)
        have g1' : decide ((0 : Int) ≤ n) = true := decide_eq_true (by omega)
        have g2 : decide (n ≤ ((o.J.length : Nat) : Int)) = false := decide_eq_false (by omega)
        clear hin hn0 HR
        have HC := hid (rSame_any [] [] va none 0 0 vc 0 w7 rfl rfl (fun t ht => by cases ht) (fun t ht => by cases ht) HVL.out ⟨Nat.le_refl _, Nat.zero_le _, .inl ⟨rfl, rfl⟩⟩)
        rw [decide_eq_true rfl] at HC
        go_wp2_with fail
        refine HC.out.mono ?_
        rintro e w8 ⟨rfl, hb⟩
        have HB8 := hid (HB7.out.trans (hb.mono HB7.out.size))
        clear hb HC
        go_wp2
        go_roundg (gk - 1)
        case measure => have := HK.out; omega
        case rel => exact ⟨k + 1, by have := HK.out; omega, by go_num, HB8⟩
      ·skip
       obtain ⟨m', rfl⟩ : ∃ m' : Nat, n = ((m' : Nat) : Int) := ⟨n.toNat, by omega⟩
       have hmJ : m' ≤ o.J.length := by omega
       have HR := hid (HLC.out.symm.trans (afterP_in HXE.out hmJ))
       obtain ⟨hL1, hC1⟩ : L = afterL xs (o.J.take m') ∧ C = 0 := by have := HR.out; simp only [Prod.mk.injEq] at this; exact this
       subst hC1
       have HLE := hid hL1
       clear hL1 HR
       have HNO : Hid (NdsOk L) := hid (by rw [HLE.out]; exact afterL_ok (by have := wFault_nds HE.out HOK.out.wok; rwa [HXE.out] at this) fun x hx => HOK.out.jok x (List.mem_of_mem_take hx))
       have g1 : decide (((m' : Nat) : Int) ≥ (0 : Int)) = true := decide_eq_true (by omega)
       have g1' : decide ((0 : Int) ≤ ((m' : Nat) : Int)) = true := decide_eq_true (by omega)
       have g2 : decide (((m' : Nat) : Int) ≤ ((o.J.length : Nat) : Int)) = true := decide_eq_true (by omega)
       have g2' : decide (m' ≤ o.J.length) = true := decide_eq_true hmJ
       have HXL := hid (wFault_list HE.out)
       have HSM := hid (wFault_small HE.out)
       rw [HXE.out] at HXL HSM
       have HC := hid (rAfter_any o m' xs wa0 la0 ja0 ka0 wc0 lc0 jc0 kc0 _ _ w7 ((HO_3.out.grow HB7.out).walL HOK.out) HXL.out.1 HXL.out.2.2.1 HSM.out.1 hmJ hj16)
       rw [← HLE.out] at HC
       unfold walV at HC
       clear hin
       go_wp2_with (refine wlW rfl 30 (.tmp 5) rfl Wb _ rfl _ (klD KW_2.out HB7.out) _ Tryz.underlying30 rfl (by kernel_rfl) ?_; intro v hv; subst hv)
       refine HC.out.mono ?_
       rintro e w8 ⟨v8, rfl, hrow, hb8⟩
       rw [HLN.out] at hrow
       obtain ⟨ua, uc, rfl, hul⟩ := Leads.of_own hrow
       have HUL := hid hul
       have hulen := hul.len
       have HVL8 := hid (HVL.out.grow hb8)
       have HB8' := hid (HB7.out.trans (hb8.mono HB7.out.size))
       clear hrow hul hb8 HC HVL HB7 y4 g1 g1' g2 g2'
       have HC := hid (rSame_any L L va ua ln ln vc uc w8 HLN.out HLN.out HNO.out HNO.out HVL8.out HUL.out)
       rw [decide_eq_true rfl] at HC
       go_wp2_with fail
       refine HC.out.mono ?_
       rintro e w8 ⟨rfl, hb⟩
       have HB8 := hid (HB8'.out.trans (hb.mono HB8'.out.size))
       clear hb HC
       go_wp2
       go_roundg (gk - 1)
       case measure => have := HK.out; omega
       case rel => exact ⟨k + 1, by have := HK.out; omega, by go_num, HB8⟩
     ·skip
      have HR := hid (HLC.out.symm.trans (afterP_bad HE.out hE0))
      obtain ⟨rfl, rfl⟩ : L = [] ∧ C = E := by have := HR.out; simp only [Prod.mk.injEq] at this; exact this
      obtain rfl : ln = 0 := HLN.out.symm
      have t0 : (((C : Nat) : Int) == 0) = false := by simp [hE0]
      clear HR
      have HC := hid (rSame_any [] [] va none 0 0 vc 0 w7 rfl rfl (fun t ht => by cases ht) (fun t ht => by cases ht) HVL.out ⟨Nat.le_refl _, Nat.zero_le _, .inl ⟨rfl, rfl⟩⟩)
      rw [decide_eq_true rfl] at HC
      go_wp2_with fail
      refine HC.out.mono ?_
      rintro e w8 ⟨rfl, hb⟩
      have HB8 := hid (HB7.out.trans (hb.mono HB7.out.size))
      clear hb HC
      go_wp2
      go_roundg (gk - 1)
      case measure => have := HK.out; omega
      case rel => exact ⟨k + 1, by have := HK.out; omega, by go_num, HB8⟩
   ·skip
    have tl : decide (((k : Nat) : Int) < ((np : Nat) : Int)) = false := decide_eq_false (by have := HK.out; omega)
    go_wp2
    go_meet
    exact hBR
 case rest =>
  have hBR := hcut
  obtain ⟨wT, hwT⟩ : ∃ x, x = wc := ⟨_, rfl⟩
  subst hwT
  have HT := hid hBR.out
  obtain ⟨NS, hNS⟩ : ∃ N, (wFault o).2 = 0 → AllSteps o N := by
   by_cases h0 : (wFault o).2 = 0
   ·obtain ⟨N, hN⟩ := all_steps h0 HOK.out; exact ⟨N, fun _ => hN⟩
   ·exact ⟨0, fun e => absurd e h0⟩
  have HNS := hid hNS
  have HC := hid (Whole_any o NS wa0 la0 ja0 ka0 wc0 lc0 jc0 kc0 _ _ wT ((HO_3.out.grow HT.out).walL HOK.out) hNS)
  unfold wholeP at HC
  rw [HE.out] at HC
  unfold walV at HC
  clear hNS
  by_cases hE0 : E = 0
  ·skip
   subst hE0
   rw [if_neg (by simp)] at HC
   dsimp only at HC
   have HAS := hid (HNS.out HE.out)
   have hNSb := (HNS.out HE.out).small
   have HGV := hid (wGiven HE.out HOK.out)
   have HF := hid (wFault_list HE.out).2.1
   have HKJ := hid (HK8.out rfl)
   have HBD : Hid (beginD o = ofG o) := hid (beginD_eq HF.out).symm
   obtain ⟨gg, hgg⟩ := nm (wIter o.J o.head (ofG o) NS)
   rw [hgg] at HC
   have HGG := hid hgg
   clear hgg HNS
   go_wp2_with (refine wlW rfl 30 (.tmp 5) rfl Wb _ rfl _ (klD KW_2.out HT.out) _ Tryz.underlying30 rfl (by kernel_rfl) ?_; intro v hv; subst hv)
   refine HC.out.mono ?_
   rintro e w9 ⟨v9, rfl, hg9⟩
   obtain ⟨wa2, wc2, la2, lc2, ra2, rc2, rfl, hmo, hrd, hb9⟩ := hg9
   have HD2 : Hid (WdL w9 wa2 wc2 la2 lc2 ra2 rc2 gg) := hid ⟨hmo.memL, Leads.of_own1 hrd⟩
   have HB9 := hid (HT.out.trans (hb9.mono HT.out.size))
   clear hmo hrd hb9 HC HT
   obtain ⟨zGb, hzGb, hbz, hsz, hlz⟩ := laid w9 #[.slice none 0 0, .slice none 0 0, .bool false, .int .i64 0, .bool false, .int .i64 0, .bool false, .int .u64 0, .int .u64 0, .int .u64 0, .int .u64 0, .int .u64 0, .int .u64 0, .int .i64 0, .int .u64 0, .int .u64 0, .int .u64 0, .int .u64 0, .int .u64 0, .bool false, .slice none 0 0] 49
   obtain ⟨Gb, hGb⟩ := nm (w9.heap.size)
   rw [hGb] at hlz
   have KZ := hid hlz
   have HBZ := hid hbz
   clear hbz hsz hlz
   go_upto_region 20 with (refine wsP rfl 49 (.tmp 13) (.tmp 67) rfl Gb 0 _ (w21 wa2 gg.M.W.length wc2 la2 gg.M.L.length lc2 gg.M.F gg.done gg.edits gg.ed gg.wr ra2 gg.R.length rc2) _ rfl rfl _ KZ.out (by kernel_rfl) (Nat.le_of_ble_eq_true rfl) (by kernel_rfl) rfl ?_; intro uGb a1 a2 a3 a4; have KG := hid a1; have HBU := hid (a3 _ _ (Nat.le_of_eq hGb) HBZ.out); clear a1 a2 a3 a4 KZ HBZ; (try simp only [Act.put]))
   clear hzGb hGb
   have HDG := hid (HD2.out.grow HBU.out)
   have HBG := hid (HB9.out.trans (HBU.out.mono HB9.out.size))
   clear HD2 HB9 HBU
   have t0 : ((((0 : Nat)) : Int) != 0) = false := by simp
   go_upto_region 22 with (fail)
   clear t0
   go_wp2_with (refine wlW rfl 30 (.tmp 2) rfl X _ rfl _ (klD KX_1.out HBG.out) _ Tryz.underlying30 rfl (by kernel_rfl) ?_; intro v hv; subst hv)
   refine (HOWN.out uGb (HB_4.out.trans (HBG.out.mono HB_4.out.size))).mono ?_
   rintro e w11 ⟨wa3, wc3, la3, lc3, ja3, jc3, ka3, kc3, rfl, hO3⟩
   have HO3 := hid hO3
   have KG11 := hid (klD KG.out hO3.below)
   have HDG11 := hid (HDG.out.grow hO3.below)
   have HB11 := hid (HBG.out.trans (hO3.below.mono HBG.out.size))
   clear hO3 KG HDG HBG
   have HC := hid (Begin_any o wa3 la3 ja3 ka3 wc3 lc3 jc3 kc3 w11 (HO3.out.walL HOK.out) (by have := HKJ.out.2; omega))
   rw [HBD.out] at HC
   unfold walV at HC
   unfold walV
   go_wp2_with fail
   refine HC.out.mono ?_
   rintro e w12 ⟨wa4, wc4, la4, lc4, ra4, rc4, rfl, hd4, hb12, hlr4⟩
   have HD4 := hid hd4
   have HLR4 := hid hlr4
   have KG12 := hid (klD KG11.out hb12)
   have HDG12 := hid (HDG11.out.grow hb12)
   have HB12 := hid (HB11.out.trans (hb12.mono HB11.out.size))
   clear hd4 hb12 hlr4 HC HO3 KG11 HDG11 HB11
   unfold wdV
   obtain ⟨zEb, hzEb, hbz, hsz, hlz⟩ := laid w12 #[.slice none 0 0, .slice none 0 0, .bool false, .int .i64 0, .bool false, .int .i64 0, .bool false, .int .u64 0, .int .u64 0, .int .u64 0, .int .u64 0, .int .u64 0, .int .u64 0, .int .i64 0, .int .u64 0, .int .u64 0, .int .u64 0, .int .u64 0, .int .u64 0, .bool false, .slice none 0 0] 49
   obtain ⟨Eb, hEb⟩ := nm (w12.heap.size)
   rw [hEb] at hlz
   have KZ := hid hlz
   have HBZ := hid hbz
   clear hbz hsz hlz
   obtain ⟨g0, hg0⟩ := nm (ofG o)
   rw [hg0] at HD4
   go_wp2_with (refine wsP rfl 49 (.tmp 16) (.tmp 88) rfl Eb 0 _ (w21 wa4 g0.M.W.length wc4 la4 g0.M.L.length lc4 g0.M.F g0.done g0.edits g0.ed g0.wr ra4 g0.R.length rc4) _ rfl rfl _ KZ.out (by kernel_rfl) (Nat.le_of_ble_eq_true rfl) (by kernel_rfl) rfl ?_; intro uEb a1 a2 a3 a4; have KE := hid a1; have HBU := hid (a3 _ _ (Nat.le_of_eq hEb) HBZ.out); clear a1 a2 a3 a4 KZ HBZ; (try simp only [Act.put]))
   clear hzEb
   have hinv0 := of_inv HGV.out
   rw [hg0] at hinv0
   have hokb := hinv0.p.ok
   have HAPE : Hid (apW wa4 la4 ra4 Eb g0) := hid ⟨((HD4.out.mem.lowA hokb).1).apart (Nat.le_of_eq hEb), ((HD4.out.mem.lowA hokb).2).apart (Nat.le_of_eq hEb), fun b off e => by have := HLR4.out b off e; omega⟩
   have HD13 := hid (HD4.out.grow HBU.out)
   have HG0 := hid hg0
   clear hinv0 hokb HLR4 HD4 hg0
   go_loopg [17] NS (fun g t17 wr => ∃ (k : Nat) (gk' : Gst) (wa4 la4 ra4 : Option Addr) (wc4 lc4 rc4 : Nat), g + k = NS ∧ t17 = .int .i64 k ∧ Hid (gk' = wIter o.J o.head (ofG o) k) ∧ Hid (wr.heap[Eb]? = some (.cells (w21 wa4 gk'.M.W.length wc4 la4 gk'.M.L.length lc4 gk'.M.F gk'.done gk'.edits gk'.ed gk'.wr ra4 gk'.R.length rc4) 49 (0, 0))) ∧ Hid (WdL wr wa4 wc4 la4 lc4 ra4 rc4 gk') ∧ Hid (apW wa4 la4 ra4 Eb gk') ∧ Hid (Below w12.heap.size w12 wr))
   case atStart => exact ⟨0, g0, wa4, la4, ra4, wc4, lc4, rc4, rfl, rfl, hid HG0.out.symm, KE, HD13, HAPE, HBU⟩
   case round =>
    clear KE HD13 HAPE HBU
    obtain ⟨k, g', wa4, la4, ra4, wc4, lc4, rc4, hk, rfl, hg', hKE, hD, hAP, hBR⟩ := hrel
    have HK := hid hk
    clear hk
    have HBW := hid (HB12.out.trans (hBR.out.mono HB12.out.size))
    have e3 := clD (i := 3) hKE.out rfl
    have y4 := clD (i := 4) (klD KW_2.out HBW.out) rfl
    have hj16 : o.J.length ≤ 16 := HKJ.out.1
    by_cases hlt : k < NS
    ·skip
     have hdl : g'.done < o.J.length := by rw [hg'.out]; exact HAS.out.lt k hlt
     have tl : decide (((g'.done : Nat) : Int) < ((o.J.length : Nat) : Int)) = true := decide_eq_true (by omega)
     have tl' : decide (g'.done < o.J.length) = true := decide_eq_true hdl
     obtain ⟨pub, hinv⟩ := iter_inv HGV.out (of_inv HGV.out) k
     have hgk2 := wIter_ok HOK.out.hh HOK.out.jok (of_ok HOK.out.hh HOK.out.jok HOK.out.kok HOK.out.wok) k
     have hfl : (wIter o.J o.head (ofG o) k).R.length = o.K.length := by rw [wIter_R]; exact seeksK_len _ _
     rw [← hg'.out] at hinv hgk2 hfl
     have HNX : Hid (wIter o.J o.head (ofG o) (k + 1) = pickG o.J o.head g' 0) := hid (by rw [hg'.out]; rfl)
     have HC := hid (StepA_any o _ g' pub 0 wa0 la0 ja0 ka0 wa4 la4 ra4 wc0 lc0 jc0 kc0 o.K.length wc4 lc4 rc4 wr (Leads.of_own1 (HO_3.out.grow HBW.out).j) hD.out hinv hgk2 (by rw [hfl]; have := HKJ.out.2; omega))
     unfold walV wdV at HC
     obtain ⟨g2, hg2⟩ := nm (pickG o.J o.head g' 0)
     rw [hg2] at HC HNX
     clear hg2 hinv hgk2 hfl hdl
     go_wp2_with (first | (refine wlW rfl 30 (.tmp 5) rfl Wb _ rfl _ (klD KW_2.out HBW.out) _ Tryz.underlying30 rfl (by kernel_rfl) ?_; intro v hv; subst hv) | (refine wlW rfl 49 (.tmp 16) rfl Eb _ rfl _ hKE.out _ Tryz.underlying49 rfl (by kernel_rfl) ?_; intro v hv; subst hv))
     refine HC.out.mono ?_
     rintro e w14 ⟨wa5, wc5, la5, lc5, ra5, rc5, rfl, hd5, hb14, hk1, hk2, hk3⟩
     have hElt := llD hKE.out
     have KE14 := hid (klD hKE.out hb14)
     have HD14 := hid hd5
     have HAP14 : Hid (apW wa5 la5 ra5 Eb g2) := hid (hAP.out.kept hk1 hk2 hk3 hElt)
     have HB14 := hid (hBR.out.trans (hb14.mono hBR.out.size))
     have hE12 := Nat.le_of_eq hEb
     clear hd5 hb14 hk1 hk2 hk3 hKE hD hAP hBR HC HBW e3 y4 tl tl'
     unfold wdV
     go_wp2_with (refine wsP rfl 49 (.tmp 16) (.tmp 97) rfl Eb 0 _ (w21 wa5 g2.M.W.length wc5 la5 g2.M.L.length lc5 g2.M.F g2.done g2.edits g2.ed g2.wr ra5 g2.R.length rc5) _ rfl rfl _ KE14.out (by kernel_rfl) (Nat.le_of_ble_eq_true rfl) (by kernel_rfl) rfl ?_; intro u15 a1 a2 a3 a4; have KE15 := hid a1; have HD15 := hid (HAP14.out.keep HD14.out a2); have HB15 := hid (a3 _ _ hE12 HB14.out); clear a1 a2 a3 a4 KE14 HD14 HB14; (try simp only [Act.put]))
     go_roundg (gk - 1)
     case measure => have := HK.out; omega
     case rel => exact ⟨k + 1, g2, _, _, _, _, _, _, by have := HK.out; omega, by go_num, hid HNX.out.symm, KE15, HD15, HAP14, HB15⟩
    ·skip
     obtain rfl : k = NS := by have := HK.out; omega
     have hge : g' = gg := by rw [hg'.out]; exact HGG.out
     subst hge
     clear hg'
     have hdl : g'.done = o.J.length := by rw [← HGG.out]; exact HAS.out.dn
     have tl : decide (((g'.done : Nat) : Int) < ((o.J.length : Nat) : Int)) = false := decide_eq_false (by omega)
     have tl' : decide (g'.done < o.J.length) = false := decide_eq_false (by omega)
     have tk : (((k : Nat) : Int) == ((k : Nat) : Int)) = true := by simp
     have t0 : ((((0 : Nat)) : Int) == 0) = true := by simp
     have hgk2 := wIter_ok HOK.out.hh HOK.out.jok (of_ok HOK.out.hh HOK.out.jok HOK.out.kok HOK.out.wok) k
     rw [HGG.out] at hgk2
     have HC := hid (rSameW_any g' wa2 la2 ra2 wa4 la4 ra4 wc2 lc2 rc2 wc4 lc4 rc4 wr (HDG12.out.grow hBR.out) hD.out hgk2.e hgk2.s hgk2.r)
     unfold wdV at HC
     clear hgk2 hdl
     have KGr := hid (klD KG12.out hBR.out)
     go_wp2_with (first | (refine wp_loadG rfl 49 (.tmp 13) rfl Gb _ rfl _ KGr.out _ Tryz.underlying49 rfl (by kernel_rfl) ?_; intro v hv; subst hv) | (refine wp_loadG rfl 49 (.tmp 16) rfl Eb _ rfl _ hKE.out _ Tryz.underlying49 rfl (by kernel_rfl) ?_; intro v hv; subst hv))
     refine HC.out.mono ?_
     rintro e w16 ⟨rfl, hb⟩
     have HB16 := hid (HBW.out.trans (hb.mono HBW.out.size))
     clear hb HC hBR hKE hD hAP HBW e3 y4 tl tl' KGr
     have HC := hid (HSAME.out wa0 la0 ja0 ka0 wc0 lc0 jc0 kc0 w16 (HB_4.out.trans (HB16.out.mono HB_4.out.size)) ((HO_3.out.grow HB16.out).walL HOK.out))
     go_wp2_with (first | (refine wp_loadG rfl 30 (.tmp 5) rfl Wb _ rfl _ (klD KW_2.out HB16.out) _ Tryz.underlying30 rfl (by kernel_rfl) ?_; intro v hv; subst hv) | (refine wp_loadG rfl 30 (.tmp 2) rfl X _ rfl _ (klD KX_1.out HB16.out) _ Tryz.underlying30 rfl (by kernel_rfl) ?_; intro v hv; subst hv))
     refine HC.out.mono ?_
     rintro e w17 ⟨rfl, hb⟩
     have HB17 := hid ((HB_4.out.trans (HB16.out.mono HB_4.out.size)).trans (hb.mono (HB_4.out.trans (HB16.out.mono HB_4.out.size)).size))
     clear hb HC
     go_wp2
     go_ret
     exact ⟨rfl, HB17.out⟩
  ·skip
   rw [if_pos hE0] at HC
   dsimp only at HC
   have t0 : (((E : Nat) : Int) != 0) = true := by simp [hE0]
   have t1 : (((E : Nat) : Int) == ((E : Nat) : Int)) = true := by simp
   go_wp2_with (refine wlW rfl 30 (.tmp 5) rfl Wb _ rfl _ (klD KW_2.out HT.out) _ Tryz.underlying30 rfl (by kernel_rfl) ?_; intro v hv; subst hv)
   refine HC.out.mono ?_
   rintro e w9 ⟨v9, rfl, hg9⟩
   obtain ⟨wa2, wc2, la2, lc2, ra2, rc2, rfl, hmo, hrd, hb9⟩ := hg9
   have HB9 := hid (HT.out.trans (hb9.mono HT.out.size))
   have hlz1 := (Leads.of_own1 hmo.w).len
   have hlz2 := (Leads.of_own1 hmo.l).len
   have hlz3 := (Leads.of_own1 hrd).len
   clear hmo hrd hb9 HC HT
   obtain ⟨zGb, hzGb, hbz, hsz, hlz⟩ := laid w9 #[.slice none 0 0, .slice none 0 0, .bool false, .int .i64 0, .bool false, .int .i64 0, .bool false, .int .u64 0, .int .u64 0, .int .u64 0, .int .u64 0, .int .u64 0, .int .u64 0, .int .i64 0, .int .u64 0, .int .u64 0, .int .u64 0, .int .u64 0, .int .u64 0, .bool false, .slice none 0 0] 49
   obtain ⟨Gb, hGb⟩ := nm (w9.heap.size)
   rw [hGb] at hlz
   have KZ := hid hlz
   have HBZ := hid hbz
   clear hbz hsz hlz
   go_upto_region 20 with (refine wsP rfl 49 (.tmp 13) (.tmp 67) rfl Gb 0 _ (w21 wa2 zeroG.M.W.length wc2 la2 zeroG.M.L.length lc2 zeroG.M.F zeroG.done zeroG.edits zeroG.ed zeroG.wr ra2 zeroG.R.length rc2) _ rfl rfl _ KZ.out (by kernel_rfl) (Nat.le_of_ble_eq_true rfl) (by kernel_rfl) rfl ?_; intro uGb a1 a2 a3 a4; have KG := hid a1; have HBU := hid (a3 _ _ (Nat.le_of_eq hGb) HBZ.out); clear a1 a2 a3 a4 KZ HBZ; (try simp only [Act.put]))
   have HBG := hid (HB9.out.trans (HBU.out.mono HB9.out.size))
   have g0 : uGb.cell? ⟨Gb, 0, none⟩ = some (.slice wa2 0 wc2) := clD (i := 0) KG.out rfl
   have HBE := hid (HB_4.out.trans (HBG.out.mono HB_4.out.size))
   clear hzGb hGb
   go_wp2
   go_ret
   exact ⟨rfl, HBE.out⟩
end Go.Proofs.YtipohagcppfgiaaGreat
