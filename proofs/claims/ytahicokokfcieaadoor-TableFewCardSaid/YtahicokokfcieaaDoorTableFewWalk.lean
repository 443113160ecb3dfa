/- TableFew: the walk of the law (printed by gen_few.py). -/
import Derived.Test.YtahicokokfcieaaDoorTbP4
import Derived.Deep.LoopGhost
namespace Go.Proofs.YtahicokokfcieaaDoor
open Go.RowKit
open Go.Proofs
set_option linter.unusedVariables false
attribute [local go_sem] Oper.semAt_some
structure FInv (V : World) (Y L : Nat) (M : Mem) (l : Lk) (wa : Option Addr) (wc : Nat) (la : Option Addr) (lc : Nat) (bs : Nat) (va : Option Addr) (m vc : Nat) (xs : List Rw) (W : World) : Prop where
  by_ : W.heap[Y]? = some (.cells #[.slice wa M.W.length wc, .slice la M.L.length lc, .bool M.F] 38 (0, 0))
  bl : W.heap[L]? = some (.cells #[.int .i64 l.ph, .int .u64 ((l.root : Nat) : Int), .int .u64 ((l.key : Nat) : Int), .int .u64 ((l.array : Nat) : Int), .int .i64 l.many, .int .i64 l.s.ph, .int .u64 ((l.s.hash : Nat) : Int), .int .u64 ((l.s.key : Nat) : Int), .int .u64 ((l.s.link : Nat) : Int), .int .u64 ((l.s.node : Nat) : Int), .int .u64 ((l.s.val : Nat) : Int), .bool l.s.found] 46 (0, 0))
  mem : MemO V.heap.size wa wc la lc M W
  row : W.ownsRow bs 53 4 (.slice va m vc) m (rwcells xs)
  bel : Below V.heap.size V W
structure RLm (A B : Nat) (cs cs' : Array Value) where
  w : World
  ba : w.heap[A]? = some (.cells cs 38 (0, 0))
  bb : w.heap[B]? = some (.cells cs' 46 (0, 0))
/-- Between two rows that are counted. -/
structure Cnt (b key : Nat) (val0 : Nat) (xs : List Rw) (j c : Nat) (F : Bool) (v : Nat) : Prop where
  c : c = cntB b (xs.take j)
  f : F = true ↔ ∃ r ∈ xs.take j, r.2.2.1 = key
  v : F = true → v = val0
theorem cnt_next {b key val0 : Nat} {xs : List Rw} {j c : Nat} {F : Bool} {v : Nat} {r : Rw} (h : Cnt b key val0 xs j c F v) (hr : xs[j]? = some r) (hv : r.2.2.1 = key → r.2.2.2 = val0) :
    Cnt b key val0 xs (j + 1) (if r.1 = b then c + 1 else c) (if r.2.2.1 = key then true else F) (if r.2.2.1 = key then r.2.2.2 else v) := by
  have e : xs.take (j + 1) = xs.take j ++ [r] := by rw [List.take_add_one, hr]; rfl
  refine ⟨?_, ?_, ?_⟩
  · rw [e, cntB_append, ← h.c]
    unfold cntB
    by_cases hb : r.1 = b <;> simp [hb]
  · rw [e]
    by_cases hk : r.2.2.1 = key
    · simp [hk]
    · rw [if_neg hk, h.f]
      constructor
      · rintro ⟨x, hx, hxk⟩; exact ⟨x, List.mem_append_left _ hx, hxk⟩
      · rintro ⟨x, hx, hxk⟩
        rcases List.mem_append.1 hx with hx | hx
        · exact ⟨x, hx, hxk⟩
        · rw [List.mem_singleton] at hx; subst hx; exact absurd hxk hk
  · by_cases hk : r.2.2.1 = key
    · rw [if_pos hk, if_pos hk]; exact fun _ => hv hk
    · rw [if_neg hk, if_neg hk]; exact h.v
set_option maxRecDepth 100000 in
set_option maxHeartbeats 16000000 in
theorem tableFew_walk (M : Mem) (wa la : Option Addr) (wc lc root key : Nat) (V : World) (hg : Glob V) (h : MemL V wa wc la lc M) (hr : root < 18446744073709551616) (hkey : key < 18446744073709551616) (hW : ∀ x ∈ M.W, x < 18446744073709551616) :
    Calls Tryd.prog 4 #[memV wa wc la lc M, .int .u64 ((root : Nat) : Int), .int .u64 ((key : Nat) : Int)] V (Ret (.bool true) V) := by
  have HG := hid hg
  have hV0 : 0 < V.heap.size := hg.one
  have hwl := h.w.len
  have hll := h.l.len
  have HW := hid hW
  have HM0 := hid h
  clear hg hW h
  unfold memV
  obtain ⟨V1, hV1, hb, hs, hl⟩ := laid V #[.slice wa M.W.length wc, .slice la M.L.length lc, .bool M.F] 38
  obtain ⟨X, hX⟩ : ∃ X, V.heap.size = X := ⟨_, rfl⟩
  rw [hX] at hl
  have hVX : V.heap.size ≤ X := by omega
  have KX_1 := hid (hl)
  have HB_2 := hid (hb)
  clear hb hs hl
  go_enter Tryd.func4, Tryd.ntmps4
  go_wp2_with fail
  refine (wakes_any V1 (HG.out.grow HB_2.out)).mono ?_
  rintro e w3 ⟨rfl, hb⟩
  have KX_4 := hid (keep_laid KX_1.out hb)
  have HB_5 := hid (step HB_2.out hb)
  clear KX_1 HB_2 hb hX
  have x0 := cell_laid (i := 0) KX_4.out rfl
  have x1 := cell_laid (i := 1) KX_4.out rfl
  have x2 := cell_laid (i := 2) KX_4.out rfl
  have hbz := HB_5.out.size
  go_wp2_with fail
  refine (lawown_any M wa la wc lc w3 (HM0.out.grow HB_5.out)).mono ?_
  rintro e w6 ⟨ya, yc, za, zc, rfl, ho, hb⟩
  have KX_7 := hid (keep_laid KX_4.out hb)
  have HB_8 := hid (step HB_5.out hb)
  clear KX_4 HB_5 hb x0 x1 x2
  obtain ⟨M1, hM1⟩ : ∃ x, take96 M = x := ⟨_, rfl⟩
  have hW1 := take96_wok HW.out
  rw [hM1] at ho hW1 ⊢
  have HWC := hid hW1
  clear hM1 hW1
  have HO_9 : Hid (MemO V.heap.size ya yc za zc M1 w6) := hid (ho.base hbz)
  clear ho hbz
  unfold memV
  have yl := HO_9.out.memL.w.len
  have zl := HO_9.out.memL.l.len
  obtain ⟨w10, hw10, hb, hs, hl⟩ := laid w6 #[.slice none 0 0, .slice none 0 0, .bool false] 38
  obtain ⟨Y, hY⟩ : ∃ X, w6.heap.size = X := ⟨_, rfl⟩
  rw [hY] at hl
  have nXY : X ≠ Y := by have := lt_laid KX_7.out; omega
  have hVY : V.heap.size ≤ Y := by have := HB_8.out.size; omega
  have KX_11 := hid (keep_laid KX_7.out hb)
  have HB_12 := hid (step HB_8.out hb)
  have HO_13 := hid (HO_9.out.grow hb)
  clear KX_7 HB_8 HO_9
  have KY_14 := hid (hl)
  clear hb hs hl
  go_wp2_with (refine wp_storeP rfl 38 (.tmp 7) (.tmp 26) rfl Y 0 _ #[.slice ya M1.W.length yc, .slice za M1.L.length zc, .bool M1.F] _ rfl rfl _ KY_14.out (by kernel_rfl) (Nat.le_of_ble_eq_true rfl) (by kernel_rfl) rfl ?_; intro w15 a1 a2 a3 a4; have KX_16 := hid (a2 _ _ (by first | exact nXY | exact Ne.symm nYX) KX_11.out); have HB_17 := hid (a3 V.heap.size V hVY HB_12.out); have HO_18 : Hid (MemO V.heap.size ya yc za zc M1 w15) := hid (⟨own_keep HO_13.out.w fun k o hk ho => a2 k o (own_neT HO_13.out.w KY_14.out (by decide) k hk) ho, own_keep HO_13.out.l fun k o hk ho => a2 k o (own_neT HO_13.out.l KY_14.out (by decide) k hk) ho⟩); have KY_19 := hid (a1); clear a1 a2 a3 a4 KX_11 HB_12 HO_13 KY_14; (try simp only [Act.put]); have x0 := cell_laid (i := 0) KY_19.out rfl; have x1 := cell_laid (i := 1) KY_19.out rfl; have x2 := cell_laid (i := 2) KY_19.out rfl)
  clear hY
  clear KX_16
  have HRW := hid (Rows_any root ya yc za zc M1 w15 hr HWC.out HO_18.out.memL (HG.out.grow HB_17.out))
  unfold memV at HRW
  refine HRW.out.mono ?_
  clear HRW
  rintro e w20 ⟨hb, ⟨-, rfl⟩ | ⟨-, -, rfl⟩ | ⟨hok, xs, met, v, hxs, rfl, hrow⟩⟩
  · skip
    have HB_21 := hid (step HB_17.out hb)
    have HO_22 := hid (HO_18.out.grow hb)
    have KY_23 := hid (keep_laid KY_19.out hb)
    clear HB_17 HO_18 KY_19 hb x0 x1 x2
    go_wp2
    go_ret
    exact ⟨rfl, HB_21.out⟩
  · skip
    have HB_24 := hid (step HB_17.out hb)
    have HO_25 := hid (HO_18.out.grow hb)
    have KY_26 := hid (keep_laid KY_19.out hb)
    clear HB_17 HO_18 KY_19 hb x0 x1 x2
    go_wp2
    go_ret
    exact ⟨rfl, HB_24.out⟩
  · skip
    have HB_27 := hid (step HB_17.out hb)
    have HO_28 := hid (HO_18.out.grow hb)
    have KY_29 := hid (keep_laid KY_19.out hb)
    clear HB_17 HO_18 KY_19
    obtain ⟨bs, hbs⟩ : ∃ x, w15.heap.size = x := ⟨_, rfl⟩
    rw [hbs] at hrow
    clear hbs
    have HR_30 := hid (hrow)
    clear hb hrow x0 x1 x2
    obtain ⟨va, vc, rfl, -⟩ := Leads.of_own HR_30.out
    have HOK := hid hok
    obtain ⟨hxok, hx4⟩ := rows_ok hok HWC.out hxs
    have HXO := hid hxok
    obtain ⟨hrun, hN⟩ := look_run hok HWC.out hr hkey hxs
    obtain ⟨a, d, f, hd2, hd4, hlE, hcnt, hfnd, hfval⟩ := few_law hok hxs hkey
    obtain ⟨⟨lE, N⟩, hlt⟩ : ∃ x, lookT M1 root key = x := ⟨_, rfl⟩
    rw [hlt] at hrun hN hlE hcnt
    dsimp only at hrun hN hlE hcnt
    have hlen := cntB_le (ofN key d) xs
    obtain ⟨m, hm⟩ : ∃ m, xs.length = m := ⟨_, rfl⟩
    rw [hm] at hx4 hlen HR_30 ⊢
    have HM := hid hm
    have HRUN := hid hrun
    have HLE := hid hlE
    have HCNT := hid hcnt
    have HFN := hid hfnd
    have HFV := hid hfval
    have hN2 : N ≤ 2 + 4 * m := by omega
    clear hok hxs hxok hrun hlE hcnt hfnd hfval hlt hm hlen
    have hvl := (Leads.of_own1 HR_30.out).len
    have xf : w20.cell? ⟨Y, 2, none⟩ = some (.bool M1.F) := cell_laid (i := 2) KY_29.out rfl
    have HASK := hid (fun W => Ask_any root key W)
    unfold lkV lk12 at HASK
    go_wp2_with fail
    refine (HASK.out w20).mono ?_
    rintro e w31 ⟨rfl, hb⟩
    have HB_32 := hid (step HB_27.out hb)
    have HO_33 := hid (HO_28.out.grow hb)
    have KY_34 := hid (keep_laid KY_29.out hb)
    have HR_35 := hid (own_grow HR_30.out hb)
    clear HB_27 HO_28 KY_29 HR_30 hb xf HASK
    obtain ⟨l0, hl0⟩ : ∃ l, askK root key = l := ⟨_, rfl⟩
    rw [hl0] at HRUN ⊢
    have hli : LInv l0 := by rw [← hl0]; intro h; exact absurd h (by show ¬ (0 : Int) = 1; decide)
    have hph : l0.ph = 0 := by rw [← hl0]; rfl
    have HPH := hid hph
    have HLI := hid hli
    clear hl0 hli hph
    obtain ⟨w36, hw36, hb, hs, hl⟩ := laid w31 #[.int .i64 0, .int .u64 0, .int .u64 0, .int .u64 0, .int .i64 0, .int .i64 0, .int .u64 0, .int .u64 0, .int .u64 0, .int .u64 0, .int .u64 0, .bool false] 46
    obtain ⟨L, hL⟩ : ∃ X, w31.heap.size = X := ⟨_, rfl⟩
    rw [hL] at hl
    have nYL : Y ≠ L := by have := lt_laid KY_34.out; omega
    have hVL : V.heap.size ≤ L := by have := HB_32.out.size; omega
    have HB_37 := hid (step HB_32.out hb)
    have HO_38 := hid (HO_33.out.grow hb)
    have KY_39 := hid (keep_laid KY_34.out hb)
    have HR_40 := hid (own_grow HR_35.out hb)
    clear HB_32 HO_33 KY_34 HR_35
    have KL_41 := hid (hl)
    clear hb hs hl
    obtain ⟨m4, hm4⟩ : ∃ x, 4 * m + 4 = x := ⟨_, rfl⟩
    obtain ⟨m4a, hm4a⟩ : ∃ x, 4 * m = x := ⟨_, rfl⟩
    have hmul : IntKind.i64.wrap ((4 : Int) * ((m : Nat) : Int)) = ((m4a : Nat) : Int) := by rw [IntKind.wrap_i64]; omega
    have hadd : IntKind.i64.wrap (((m4a : Nat) : Int) + 4) = ((m4 : Nat) : Int) := by rw [IntKind.wrap_i64]; omega
    have hm4l : m4 ≤ 100000 := by omega
    have HM4 := hid hm4
    clear hm4 hm4a
    go_wp2_with (refine wp_storeP rfl 46 (.tmp 11) (.tmp 39) rfl L 0 _ #[.int .i64 l0.ph, .int .u64 ((l0.root : Nat) : Int), .int .u64 ((l0.key : Nat) : Int), .int .u64 ((l0.array : Nat) : Int), .int .i64 l0.many, .int .i64 l0.s.ph, .int .u64 ((l0.s.hash : Nat) : Int), .int .u64 ((l0.s.key : Nat) : Int), .int .u64 ((l0.s.link : Nat) : Int), .int .u64 ((l0.s.node : Nat) : Int), .int .u64 ((l0.s.val : Nat) : Int), .bool l0.s.found] _ rfl rfl _ KL_41.out (by kernel_rfl) (Nat.le_of_ble_eq_true rfl) (by kernel_rfl) rfl ?_; intro w42 a1 a2 a3 a4; have HB_43 := hid (a3 V.heap.size V hVL HB_37.out); have HO_44 : Hid (MemO V.heap.size ya yc za zc M1 w42) := hid (⟨own_keep HO_38.out.w fun k o hk ho => a2 k o (own_neT HO_38.out.w KL_41.out (by decide) k hk) ho, own_keep HO_38.out.l fun k o hk ho => a2 k o (own_neT HO_38.out.l KL_41.out (by decide) k hk) ho⟩); have KY_45 := hid (a2 _ _ (by first | exact nYL | exact Ne.symm nLY) KY_39.out); have HR_46 := hid (own_keep HR_40.out fun k o hk ho => a2 k o (own_neT HR_40.out KL_41.out (by decide) k hk) ho); have KL_47 := hid (a1); clear a1 a2 a3 a4 HB_37 HO_38 KY_39 HR_40 KL_41; (try simp only [Act.put]))
    clear hL
    have HF0 : Hid (FInv V Y L M1 l0 ya yc za zc bs va m vc xs w42) := hid ⟨KY_45.out, KL_47.out, HO_44.out, HR_46.out, HB_43.out⟩
    clear KY_45 KL_47 HO_44 HR_46 HB_43
    have hN1 : 1 ≤ N := by
      rcases HRUN.out.two with ⟨-, e, q⟩ | ⟨l', g, hg, -, -⟩
      · have := HPH.out; rw [e, HLE.out] at this; exact absurd this (by show ¬ (2 : Int) = 0; decide)
      · omega
    go_loopg [12, 44] N (fun g t12 t44 wr => ∃ (k : Nat) (l : Lk) (ya za : Option Addr) (yc zc : Nat), t12 = .int .i64 ((k : Nat) : Int) ∧ t44 = .int .i64 ((k : Nat) : Int) ∧ Hid (k + g = N ∧ 1 ≤ g ∧ LkRun M1 l g lE ∧ LInv l) ∧ Hid (FInv V Y L M1 l ya yc za zc bs va m vc xs wr))
    case atStart => exact ⟨0, l0, ya, za, yc, zc, rfl, rfl, hid ⟨by omega, hN1, HRUN.out, HLI.out⟩, HF0⟩
    case round =>
      clear HF0 HRUN HLI HPH yl zl
      obtain ⟨k, l, ya, za, yc, zc, rfl, rfl, hk, hF⟩ := hrel
      obtain ⟨hkn, hg1, hrun, hinv⟩ := hk.out
      rcases hrun.two with ⟨e0, -, -⟩ | ⟨l', g', hgk, hstep, hrun'⟩
      · omega
      have hne : l' ≠ l := fun e => by have := LkRun.uniq hrun (e ▸ hrun'); omega
      have hchk := chk_of hinv hstep
      have hinv' : LInv l' := by have := linv_step HOK.out HWC.out hrun.ok hinv; rw [hstep] at this; exact this
      have HST := hid (fun W h1 h2 => TStep_any M1 l ya za yc zc W h1 h2 HWC.out hrun.ok)
      have hP : tstepP M1 l = (M1, l', 0) := by unfold tstepP; rw [if_neg (by rw [HOK.out]; decide), if_neg (by rw [hchk]; decide), hstep]
      rw [hP] at HST
      unfold memV lkV lk12 at HST
      try dsimp only at HST
      have heq := lk_eq l' l hrun'.ok hrun.ok
      rw [decide_eq_false hne] at heq
      have HRUN := hid hrun'
      have HINV := hid hinv'
      have HGK := hid hgk
      have HKN := hid hkn
      have t1 : decide (((k : Nat) : Int) < ((m4 : Nat) : Int)) = true := decide_eq_true (by have := HM4.out; omega)
      have t1' : ((k : Nat) : Int) < ((m4 : Nat) : Int) := by have := HM4.out; omega
      clear hk hkn hg1 hrun hinv hstep hrun' hne hchk hinv' hP hgk
      have KY_48 := hid (hF.out.by_)
      have KL_49 := hid (hF.out.bl)
      have HO_50 : Hid (MemO V.heap.size ya yc za zc M1 wr) := hid (hF.out.mem)
      have HR_51 := hid (hF.out.row)
      have HB_52 := hid (hF.out.bel)
      clear hF
      have yl := HO_50.out.memL.w.len
      have zl := HO_50.out.memL.l.len
      have nYL : Y ≠ L := type_ne KY_48.out KL_49.out (by decide)
      have x0 := cell_laid (i := 0) KY_48.out rfl
      have x1 := cell_laid (i := 1) KY_48.out rfl
      have x2 := cell_laid (i := 2) KY_48.out rfl
      have y0 := cell_laid (i := 0) KL_49.out rfl
      have y1 := cell_laid (i := 1) KL_49.out rfl
      have y2 := cell_laid (i := 2) KL_49.out rfl
      have y3 := cell_laid (i := 3) KL_49.out rfl
      have y4 := cell_laid (i := 4) KL_49.out rfl
      have y5 := cell_laid (i := 5) KL_49.out rfl
      have y6 := cell_laid (i := 6) KL_49.out rfl
      have y7 := cell_laid (i := 7) KL_49.out rfl
      have y8 := cell_laid (i := 8) KL_49.out rfl
      have y9 := cell_laid (i := 9) KL_49.out rfl
      have y10 := cell_laid (i := 10) KL_49.out rfl
      have y11 := cell_laid (i := 11) KL_49.out rfl
      go_wp2_with fail
      refine (HST.out wr HO_50.out.memL (HG.out.grow HB_52.out)).mono ?_
      rintro e w53 ⟨qa, qc, pa, pc, rfl, hoq, hb⟩
      have hoq2 := hoq.base HB_52.out.size
      have KY_54 := hid (keep_laid KY_48.out hb)
      have KL_55 := hid (keep_laid KL_49.out hb)
      have HO_56 := hid (HO_50.out.grow hb)
      have HR_57 := hid (own_grow HR_51.out hb)
      have HB_58 := hid (step HB_52.out hb)
      clear KY_48 KL_49 HO_50 HR_51 HB_52 hb hoq HST x0 x1 x2 y0 y1 y2 y3 y4 y5 y6 y7 y8 y9 y10 y11
      have HOQ_59 : Hid (MemO V.heap.size qa qc pa pc M1 w53) := hid (hoq2)
      clear hoq2
      have ql := HOQ_59.out.memL.w.len
      have pl := HOQ_59.out.memL.l.len
      unfold memV lkV lk12
      try dsimp only
      clear HO_56
      obtain ⟨w60, hw60, hb, hs, hl⟩ := laid w53 #[.slice none 0 0, .slice none 0 0, .bool false] 38
      obtain ⟨A, hA⟩ : ∃ X, w53.heap.size = X := ⟨_, rfl⟩
      rw [hA] at hl
      have nYA : Y ≠ A := by have := lt_laid KY_54.out; omega
      have nLA : L ≠ A := by have := lt_laid KL_55.out; omega
      have hVA : V.heap.size ≤ A := by have := HB_58.out.size; omega
      have KY_61 := hid (keep_laid KY_54.out hb)
      have KL_62 := hid (keep_laid KL_55.out hb)
      have HR_63 := hid (own_grow HR_57.out hb)
      have HB_64 := hid (step HB_58.out hb)
      have HOQ_65 := hid (HOQ_59.out.grow hb)
      clear KY_54 KL_55 HR_57 HB_58 HOQ_59
      have KA_66 := hid (hl)
      clear hb hs hl
      obtain ⟨w67, hw67, hb, hs, hl⟩ := laid w60 #[.int .i64 0, .int .u64 0, .int .u64 0, .int .u64 0, .int .i64 0, .int .i64 0, .int .u64 0, .int .u64 0, .int .u64 0, .int .u64 0, .int .u64 0, .bool false] 46
      obtain ⟨B, hB⟩ : ∃ X, w60.heap.size = X := ⟨_, rfl⟩
      rw [hB] at hl
      have nYB : Y ≠ B := by have := lt_laid KY_61.out; omega
      have nLB : L ≠ B := by have := lt_laid KL_62.out; omega
      have nAB : A ≠ B := by have := lt_laid KA_66.out; omega
      have hVB : V.heap.size ≤ B := by have := HB_64.out.size; omega
      have KY_68 := hid (keep_laid KY_61.out hb)
      have KL_69 := hid (keep_laid KL_62.out hb)
      have HR_70 := hid (own_grow HR_63.out hb)
      have HB_71 := hid (step HB_64.out hb)
      have HOQ_72 := hid (HOQ_65.out.grow hb)
      have KA_73 := hid (keep_laid KA_66.out hb)
      clear KY_61 KL_62 HR_63 HB_64 HOQ_65 KA_66
      have KB_74 := hid (hl)
      clear hb hs hl
      go_upto_region 16 with (first | (refine wp_storeP rfl 38 (.tmp 13) (.tmp 50) rfl A 0 _ #[.slice qa M1.W.length qc, .slice pa M1.L.length pc, .bool M1.F] _ rfl rfl _ KA_73.out (by kernel_rfl) (Nat.le_of_ble_eq_true rfl) (by kernel_rfl) rfl ?_; intro w75 a1 a2 a3 a4; have KY_76 := hid (a2 _ _ (by first | exact nYA | exact Ne.symm nAY) KY_68.out); have KL_77 := hid (a2 _ _ (by first | exact nLA | exact Ne.symm nAL) KL_69.out); have HR_78 := hid (own_keep HR_70.out fun k o hk ho => a2 k o (own_neT HR_70.out KA_73.out (by decide) k hk) ho); have HB_79 := hid (a3 V.heap.size V hVA HB_71.out); have HOQ_80 : Hid (MemO V.heap.size qa qc pa pc M1 w75) := hid (⟨own_keep HOQ_72.out.w fun k o hk ho => a2 k o (own_neT HOQ_72.out.w KA_73.out (by decide) k hk) ho, own_keep HOQ_72.out.l fun k o hk ho => a2 k o (own_neT HOQ_72.out.l KA_73.out (by decide) k hk) ho⟩); have KA_81 := hid (a1); have KB_82 := hid (a2 _ _ (by first | exact nBA | exact Ne.symm nAB) KB_74.out); clear a1 a2 a3 a4 KY_68 KL_69 HR_70 HB_71 HOQ_72 KA_73 KB_74; (try simp only [Act.put])) | (refine wp_storeP rfl 46 (.tmp 14) (.tmp 51) rfl B 0 _ #[.int .i64 l'.ph, .int .u64 ((l'.root : Nat) : Int), .int .u64 ((l'.key : Nat) : Int), .int .u64 ((l'.array : Nat) : Int), .int .i64 l'.many, .int .i64 l'.s.ph, .int .u64 ((l'.s.hash : Nat) : Int), .int .u64 ((l'.s.key : Nat) : Int), .int .u64 ((l'.s.link : Nat) : Int), .int .u64 ((l'.s.node : Nat) : Int), .int .u64 ((l'.s.val : Nat) : Int), .bool l'.s.found] _ rfl rfl _ KB_82.out (by kernel_rfl) (Nat.le_of_ble_eq_true rfl) (by kernel_rfl) rfl ?_; intro w83 a1 a2 a3 a4; have KY_84 := hid (a2 _ _ (by first | exact nYB | exact Ne.symm nBY) KY_76.out); have KL_85 := hid (a2 _ _ (by first | exact nLB | exact Ne.symm nBL) KL_77.out); have HR_86 := hid (own_keep HR_78.out fun k o hk ho => a2 k o (own_neT HR_78.out KB_82.out (by decide) k hk) ho); have HB_87 := hid (a3 V.heap.size V hVB HB_79.out); have HOQ_88 : Hid (MemO V.heap.size qa qc pa pc M1 w83) := hid (⟨own_keep HOQ_80.out.w fun k o hk ho => a2 k o (own_neT HOQ_80.out.w KB_82.out (by decide) k hk) ho, own_keep HOQ_80.out.l fun k o hk ho => a2 k o (own_neT HOQ_80.out.l KB_82.out (by decide) k hk) ho⟩); have KA_89 := hid (a2 _ _ (by first | exact nAB | exact Ne.symm nBA) KA_81.out); have KB_90 := hid (a1); clear a1 a2 a3 a4 KY_76 KL_77 HR_78 HB_79 HOQ_80 KA_81 KB_82; (try simp only [Act.put]); have b0 := cell_laid (i := 0) KB_90.out rfl; have b1 := cell_laid (i := 1) KB_90.out rfl; have b2 := cell_laid (i := 2) KB_90.out rfl; have b3 := cell_laid (i := 3) KB_90.out rfl; have b4 := cell_laid (i := 4) KB_90.out rfl; have b5 := cell_laid (i := 5) KB_90.out rfl; have b6 := cell_laid (i := 6) KB_90.out rfl; have b7 := cell_laid (i := 7) KB_90.out rfl; have b8 := cell_laid (i := 8) KB_90.out rfl; have b9 := cell_laid (i := 9) KB_90.out rfl; have b10 := cell_laid (i := 10) KB_90.out rfl; have b11 := cell_laid (i := 11) KB_90.out rfl; have y0 := cell_laid (i := 0) KL_85.out rfl; have y1 := cell_laid (i := 1) KL_85.out rfl; have y2 := cell_laid (i := 2) KL_85.out rfl; have y3 := cell_laid (i := 3) KL_85.out rfl; have y4 := cell_laid (i := 4) KL_85.out rfl; have y5 := cell_laid (i := 5) KL_85.out rfl; have y6 := cell_laid (i := 6) KL_85.out rfl; have y7 := cell_laid (i := 7) KL_85.out rfl; have y8 := cell_laid (i := 8) KL_85.out rfl; have y9 := cell_laid (i := 9) KL_85.out rfl; have y10 := cell_laid (i := 10) KL_85.out rfl; have y11 := cell_laid (i := 11) KL_85.out rfl))
      clear hA hB heq b0 y0 b1 y1 b2 y2 b3 y3 b4 y4 b5 y5 b6 y6 b7 y7 b8 y8 b9 y9 b10 y10 b11 y11
      obtain ⟨D, hD⟩ : ∃ DX, w83.drew = DX := ⟨_, rfl⟩
      have hb : Below w83.heap.size w83 D := by rw [← hD]; exact (Below.refl _ _).drew
      have HD := hid hD
      clear hD
      have KY_91 := hid (keep_laid KY_84.out hb)
      have KL_92 := hid (keep_laid KL_85.out hb)
      have HR_93 := hid (own_grow HR_86.out hb)
      have HB_94 := hid (step HB_87.out hb)
      have HOQ_95 := hid (HOQ_88.out.grow hb)
      have KA_96 := hid (keep_laid KA_89.out hb)
      have KB_97 := hid (keep_laid KB_90.out hb)
      clear KY_84 KL_85 HR_86 HB_87 HOQ_88 KA_89 KB_90 hb
      haveI : Nonempty (RLm A B #[.slice qa M1.W.length qc, .slice pa M1.L.length pc, .bool M1.F] #[.int .i64 l'.ph, .int .u64 ((l'.root : Nat) : Int), .int .u64 ((l'.key : Nat) : Int), .int .u64 ((l'.array : Nat) : Int), .int .i64 l'.many, .int .i64 l'.s.ph, .int .u64 ((l'.s.hash : Nat) : Int), .int .u64 ((l'.s.key : Nat) : Int), .int .u64 ((l'.s.link : Nat) : Int), .int .u64 ((l'.s.node : Nat) : Int), .int .u64 ((l'.s.val : Nat) : Int), .bool l'.s.found]) := ⟨⟨D, KA_96.out, KB_97.out⟩⟩
      have r0 : ∀ z : RLm A B #[.slice qa M1.W.length qc, .slice pa M1.L.length pc, .bool M1.F] #[.int .i64 l'.ph, .int .u64 ((l'.root : Nat) : Int), .int .u64 ((l'.key : Nat) : Int), .int .u64 ((l'.array : Nat) : Int), .int .i64 l'.many, .int .i64 l'.s.ph, .int .u64 ((l'.s.hash : Nat) : Int), .int .u64 ((l'.s.key : Nat) : Int), .int .u64 ((l'.s.link : Nat) : Int), .int .u64 ((l'.s.node : Nat) : Int), .int .u64 ((l'.s.val : Nat) : Int), .bool l'.s.found], z.w.cell? ⟨A, 0, none⟩ = some (.slice qa M1.W.length qc) := fun z => cell_laid (i := 0) z.ba rfl
      have r1 : ∀ z : RLm A B #[.slice qa M1.W.length qc, .slice pa M1.L.length pc, .bool M1.F] #[.int .i64 l'.ph, .int .u64 ((l'.root : Nat) : Int), .int .u64 ((l'.key : Nat) : Int), .int .u64 ((l'.array : Nat) : Int), .int .i64 l'.many, .int .i64 l'.s.ph, .int .u64 ((l'.s.hash : Nat) : Int), .int .u64 ((l'.s.key : Nat) : Int), .int .u64 ((l'.s.link : Nat) : Int), .int .u64 ((l'.s.node : Nat) : Int), .int .u64 ((l'.s.val : Nat) : Int), .bool l'.s.found], z.w.cell? ⟨A, 1, none⟩ = some (.slice pa M1.L.length pc) := fun z => cell_laid (i := 1) z.ba rfl
      have r2 : ∀ z : RLm A B #[.slice qa M1.W.length qc, .slice pa M1.L.length pc, .bool M1.F] #[.int .i64 l'.ph, .int .u64 ((l'.root : Nat) : Int), .int .u64 ((l'.key : Nat) : Int), .int .u64 ((l'.array : Nat) : Int), .int .i64 l'.many, .int .i64 l'.s.ph, .int .u64 ((l'.s.hash : Nat) : Int), .int .u64 ((l'.s.key : Nat) : Int), .int .u64 ((l'.s.link : Nat) : Int), .int .u64 ((l'.s.node : Nat) : Int), .int .u64 ((l'.s.val : Nat) : Int), .bool l'.s.found], z.w.cell? ⟨A, 2, none⟩ = some (.bool M1.F) := fun z => cell_laid (i := 2) z.ba rfl
      have q0 : ∀ z : RLm A B #[.slice qa M1.W.length qc, .slice pa M1.L.length pc, .bool M1.F] #[.int .i64 l'.ph, .int .u64 ((l'.root : Nat) : Int), .int .u64 ((l'.key : Nat) : Int), .int .u64 ((l'.array : Nat) : Int), .int .i64 l'.many, .int .i64 l'.s.ph, .int .u64 ((l'.s.hash : Nat) : Int), .int .u64 ((l'.s.key : Nat) : Int), .int .u64 ((l'.s.link : Nat) : Int), .int .u64 ((l'.s.node : Nat) : Int), .int .u64 ((l'.s.val : Nat) : Int), .bool l'.s.found], z.w.cell? ⟨B, 0, none⟩ = some (.int .i64 l'.ph) := fun z => cell_laid (i := 0) z.bb rfl
      have q1 : ∀ z : RLm A B #[.slice qa M1.W.length qc, .slice pa M1.L.length pc, .bool M1.F] #[.int .i64 l'.ph, .int .u64 ((l'.root : Nat) : Int), .int .u64 ((l'.key : Nat) : Int), .int .u64 ((l'.array : Nat) : Int), .int .i64 l'.many, .int .i64 l'.s.ph, .int .u64 ((l'.s.hash : Nat) : Int), .int .u64 ((l'.s.key : Nat) : Int), .int .u64 ((l'.s.link : Nat) : Int), .int .u64 ((l'.s.node : Nat) : Int), .int .u64 ((l'.s.val : Nat) : Int), .bool l'.s.found], z.w.cell? ⟨B, 1, none⟩ = some (.int .u64 ((l'.root : Nat) : Int)) := fun z => cell_laid (i := 1) z.bb rfl
      have q2 : ∀ z : RLm A B #[.slice qa M1.W.length qc, .slice pa M1.L.length pc, .bool M1.F] #[.int .i64 l'.ph, .int .u64 ((l'.root : Nat) : Int), .int .u64 ((l'.key : Nat) : Int), .int .u64 ((l'.array : Nat) : Int), .int .i64 l'.many, .int .i64 l'.s.ph, .int .u64 ((l'.s.hash : Nat) : Int), .int .u64 ((l'.s.key : Nat) : Int), .int .u64 ((l'.s.link : Nat) : Int), .int .u64 ((l'.s.node : Nat) : Int), .int .u64 ((l'.s.val : Nat) : Int), .bool l'.s.found], z.w.cell? ⟨B, 2, none⟩ = some (.int .u64 ((l'.key : Nat) : Int)) := fun z => cell_laid (i := 2) z.bb rfl
      have q3 : ∀ z : RLm A B #[.slice qa M1.W.length qc, .slice pa M1.L.length pc, .bool M1.F] #[.int .i64 l'.ph, .int .u64 ((l'.root : Nat) : Int), .int .u64 ((l'.key : Nat) : Int), .int .u64 ((l'.array : Nat) : Int), .int .i64 l'.many, .int .i64 l'.s.ph, .int .u64 ((l'.s.hash : Nat) : Int), .int .u64 ((l'.s.key : Nat) : Int), .int .u64 ((l'.s.link : Nat) : Int), .int .u64 ((l'.s.node : Nat) : Int), .int .u64 ((l'.s.val : Nat) : Int), .bool l'.s.found], z.w.cell? ⟨B, 3, none⟩ = some (.int .u64 ((l'.array : Nat) : Int)) := fun z => cell_laid (i := 3) z.bb rfl
      have q4 : ∀ z : RLm A B #[.slice qa M1.W.length qc, .slice pa M1.L.length pc, .bool M1.F] #[.int .i64 l'.ph, .int .u64 ((l'.root : Nat) : Int), .int .u64 ((l'.key : Nat) : Int), .int .u64 ((l'.array : Nat) : Int), .int .i64 l'.many, .int .i64 l'.s.ph, .int .u64 ((l'.s.hash : Nat) : Int), .int .u64 ((l'.s.key : Nat) : Int), .int .u64 ((l'.s.link : Nat) : Int), .int .u64 ((l'.s.node : Nat) : Int), .int .u64 ((l'.s.val : Nat) : Int), .bool l'.s.found], z.w.cell? ⟨B, 4, none⟩ = some (.int .i64 l'.many) := fun z => cell_laid (i := 4) z.bb rfl
      have q5 : ∀ z : RLm A B #[.slice qa M1.W.length qc, .slice pa M1.L.length pc, .bool M1.F] #[.int .i64 l'.ph, .int .u64 ((l'.root : Nat) : Int), .int .u64 ((l'.key : Nat) : Int), .int .u64 ((l'.array : Nat) : Int), .int .i64 l'.many, .int .i64 l'.s.ph, .int .u64 ((l'.s.hash : Nat) : Int), .int .u64 ((l'.s.key : Nat) : Int), .int .u64 ((l'.s.link : Nat) : Int), .int .u64 ((l'.s.node : Nat) : Int), .int .u64 ((l'.s.val : Nat) : Int), .bool l'.s.found], z.w.cell? ⟨B, 5, none⟩ = some (.int .i64 l'.s.ph) := fun z => cell_laid (i := 5) z.bb rfl
      have q6 : ∀ z : RLm A B #[.slice qa M1.W.length qc, .slice pa M1.L.length pc, .bool M1.F] #[.int .i64 l'.ph, .int .u64 ((l'.root : Nat) : Int), .int .u64 ((l'.key : Nat) : Int), .int .u64 ((l'.array : Nat) : Int), .int .i64 l'.many, .int .i64 l'.s.ph, .int .u64 ((l'.s.hash : Nat) : Int), .int .u64 ((l'.s.key : Nat) : Int), .int .u64 ((l'.s.link : Nat) : Int), .int .u64 ((l'.s.node : Nat) : Int), .int .u64 ((l'.s.val : Nat) : Int), .bool l'.s.found], z.w.cell? ⟨B, 6, none⟩ = some (.int .u64 ((l'.s.hash : Nat) : Int)) := fun z => cell_laid (i := 6) z.bb rfl
      have q7 : ∀ z : RLm A B #[.slice qa M1.W.length qc, .slice pa M1.L.length pc, .bool M1.F] #[.int .i64 l'.ph, .int .u64 ((l'.root : Nat) : Int), .int .u64 ((l'.key : Nat) : Int), .int .u64 ((l'.array : Nat) : Int), .int .i64 l'.many, .int .i64 l'.s.ph, .int .u64 ((l'.s.hash : Nat) : Int), .int .u64 ((l'.s.key : Nat) : Int), .int .u64 ((l'.s.link : Nat) : Int), .int .u64 ((l'.s.node : Nat) : Int), .int .u64 ((l'.s.val : Nat) : Int), .bool l'.s.found], z.w.cell? ⟨B, 7, none⟩ = some (.int .u64 ((l'.s.key : Nat) : Int)) := fun z => cell_laid (i := 7) z.bb rfl
      have q8 : ∀ z : RLm A B #[.slice qa M1.W.length qc, .slice pa M1.L.length pc, .bool M1.F] #[.int .i64 l'.ph, .int .u64 ((l'.root : Nat) : Int), .int .u64 ((l'.key : Nat) : Int), .int .u64 ((l'.array : Nat) : Int), .int .i64 l'.many, .int .i64 l'.s.ph, .int .u64 ((l'.s.hash : Nat) : Int), .int .u64 ((l'.s.key : Nat) : Int), .int .u64 ((l'.s.link : Nat) : Int), .int .u64 ((l'.s.node : Nat) : Int), .int .u64 ((l'.s.val : Nat) : Int), .bool l'.s.found], z.w.cell? ⟨B, 8, none⟩ = some (.int .u64 ((l'.s.link : Nat) : Int)) := fun z => cell_laid (i := 8) z.bb rfl
      have q9 : ∀ z : RLm A B #[.slice qa M1.W.length qc, .slice pa M1.L.length pc, .bool M1.F] #[.int .i64 l'.ph, .int .u64 ((l'.root : Nat) : Int), .int .u64 ((l'.key : Nat) : Int), .int .u64 ((l'.array : Nat) : Int), .int .i64 l'.many, .int .i64 l'.s.ph, .int .u64 ((l'.s.hash : Nat) : Int), .int .u64 ((l'.s.key : Nat) : Int), .int .u64 ((l'.s.link : Nat) : Int), .int .u64 ((l'.s.node : Nat) : Int), .int .u64 ((l'.s.val : Nat) : Int), .bool l'.s.found], z.w.cell? ⟨B, 9, none⟩ = some (.int .u64 ((l'.s.node : Nat) : Int)) := fun z => cell_laid (i := 9) z.bb rfl
      have q10 : ∀ z : RLm A B #[.slice qa M1.W.length qc, .slice pa M1.L.length pc, .bool M1.F] #[.int .i64 l'.ph, .int .u64 ((l'.root : Nat) : Int), .int .u64 ((l'.key : Nat) : Int), .int .u64 ((l'.array : Nat) : Int), .int .i64 l'.many, .int .i64 l'.s.ph, .int .u64 ((l'.s.hash : Nat) : Int), .int .u64 ((l'.s.key : Nat) : Int), .int .u64 ((l'.s.link : Nat) : Int), .int .u64 ((l'.s.node : Nat) : Int), .int .u64 ((l'.s.val : Nat) : Int), .bool l'.s.found], z.w.cell? ⟨B, 10, none⟩ = some (.int .u64 ((l'.s.val : Nat) : Int)) := fun z => cell_laid (i := 10) z.bb rfl
      have q11 : ∀ z : RLm A B #[.slice qa M1.W.length qc, .slice pa M1.L.length pc, .bool M1.F] #[.int .i64 l'.ph, .int .u64 ((l'.root : Nat) : Int), .int .u64 ((l'.key : Nat) : Int), .int .u64 ((l'.array : Nat) : Int), .int .i64 l'.many, .int .i64 l'.s.ph, .int .u64 ((l'.s.hash : Nat) : Int), .int .u64 ((l'.s.key : Nat) : Int), .int .u64 ((l'.s.link : Nat) : Int), .int .u64 ((l'.s.node : Nat) : Int), .int .u64 ((l'.s.val : Nat) : Int), .bool l'.s.found], z.w.cell? ⟨B, 11, none⟩ = some (.bool l'.s.found) := fun z => cell_laid (i := 11) z.bb rfl
      refine wp_region_mix2 (fun W => ∃ z : RLm A B #[.slice qa M1.W.length qc, .slice pa M1.L.length pc, .bool M1.F] #[.int .i64 l'.ph, .int .u64 ((l'.root : Nat) : Int), .int .u64 ((l'.key : Nat) : Int), .int .u64 ((l'.array : Nat) : Int), .int .i64 l'.many, .int .i64 l'.s.ph, .int .u64 ((l'.s.hash : Nat) : Int), .int .u64 ((l'.s.key : Nat) : Int), .int .u64 ((l'.s.link : Nat) : Int), .int .u64 ((l'.s.node : Nat) : Int), .int .u64 ((l'.s.val : Nat) : Int), .bool l'.s.found], W = z.w) 4 (.q 0 (.q 1 (.h 2 (.h 3 .done)))) (by kernel_rfl) (by kernel_rfl) (by rw [HD.out]; exact ⟨⟨D, KA_96.out, KB_97.out⟩, rfl⟩) ?_
      rw [HD.out]
      iterate 2 (refine wpMix2_q rfl rfl ?_; go_big_quiet_step (fail); refine wpQuiet_nil ?_)
      refine wpMix2_h rfl fun R' hR' hO => ?_
      go_wp2_with (refine wp_storeP rfl 38 (.tmp 7) (.tmp 58) rfl Y 0 _ #[.slice qa M1.W.length qc, .slice pa M1.L.length pc, .bool M1.F] _ rfl rfl _ KY_91.out (by kernel_rfl) (Nat.le_of_ble_eq_true rfl) (by kernel_rfl) rfl ?_; intro w98 a1 a2 a3 a4; have KY_99 := hid (a1); have KL_100 := hid (a2 _ _ (by first | exact nLY | exact Ne.symm nYL) KL_92.out); have HR_101 := hid (own_keep HR_93.out fun k o hk ho => a2 k o (own_neT HR_93.out KY_91.out (by decide) k hk) ho); have HB_102 := hid (a3 V.heap.size V hVY HB_94.out); have HOQ_103 : Hid (MemO V.heap.size qa qc pa pc M1 w98) := hid (⟨own_keep HOQ_95.out.w fun k o hk ho => a2 k o (own_neT HOQ_95.out.w KY_91.out (by decide) k hk) ho, own_keep HOQ_95.out.l fun k o hk ho => a2 k o (own_neT HOQ_95.out.l KY_91.out (by decide) k hk) ho⟩); have KA_104 := hid (a2 _ _ (by first | exact nAY | exact Ne.symm nYA) KA_96.out); have KB_105 := hid (a2 _ _ (by first | exact nBY | exact Ne.symm nYB) KB_97.out); clear a1 a2 a3 a4 KY_91 KL_92 HR_93 HB_94 HOQ_95 KA_96 KB_97; (try simp only [Act.put]))
      refine hR' _ _ ⟨⟨w98, KA_104.out, KB_105.out⟩, rfl⟩ ?_
      clear hR' hO R'
      refine wpMix2_h rfl fun R' hR' hO => ?_
      go_wp2_with (refine wp_storeP rfl 46 (.tmp 11) (.tmp 59) rfl L 0 _ #[.int .i64 l'.ph, .int .u64 ((l'.root : Nat) : Int), .int .u64 ((l'.key : Nat) : Int), .int .u64 ((l'.array : Nat) : Int), .int .i64 l'.many, .int .i64 l'.s.ph, .int .u64 ((l'.s.hash : Nat) : Int), .int .u64 ((l'.s.key : Nat) : Int), .int .u64 ((l'.s.link : Nat) : Int), .int .u64 ((l'.s.node : Nat) : Int), .int .u64 ((l'.s.val : Nat) : Int), .bool l'.s.found] _ rfl rfl _ KL_100.out (by kernel_rfl) (Nat.le_of_ble_eq_true rfl) (by kernel_rfl) rfl ?_; intro w106 a1 a2 a3 a4; have KY_107 := hid (a2 _ _ (by first | exact nYL | exact Ne.symm nLY) KY_99.out); have KL_108 := hid (a1); have HR_109 := hid (own_keep HR_101.out fun k o hk ho => a2 k o (own_neT HR_101.out KL_100.out (by decide) k hk) ho); have HB_110 := hid (a3 V.heap.size V hVL HB_102.out); have HOQ_111 : Hid (MemO V.heap.size qa qc pa pc M1 w106) := hid (⟨own_keep HOQ_103.out.w fun k o hk ho => a2 k o (own_neT HOQ_103.out.w KL_100.out (by decide) k hk) ho, own_keep HOQ_103.out.l fun k o hk ho => a2 k o (own_neT HOQ_103.out.l KL_100.out (by decide) k hk) ho⟩); have KA_112 := hid (a2 _ _ (by first | exact nAL | exact Ne.symm nLA) KA_104.out); have KB_113 := hid (a2 _ _ (by first | exact nBL | exact Ne.symm nLB) KB_105.out); clear a1 a2 a3 a4 KY_99 KL_100 HR_101 HB_102 HOQ_103 KA_104 KB_105; (try simp only [Act.put]))
      refine hR' _ _ ⟨⟨w106, KA_112.out, KB_113.out⟩, rfl⟩ ?_
      clear hR' hO R'
      refine wpMix2_done ?_
      simp only [List.drop_succ_cons, List.drop_nil]
      clear HD r0 r1 r2 q0 q1 q2 q3 q4 q5 q6 q7 q8 q9 q10 q11
      clear KA_112 KB_113
      have y0 := cell_laid (i := 0) KL_108.out rfl
      have HF9 : Hid (FInv V Y L M1 l' qa qc pa pc bs va m vc xs w106) := hid ⟨KY_107.out, KL_108.out, HOQ_111.out, HR_109.out, HB_110.out⟩
      clear KY_107 KL_108 HOQ_111 HR_109 HB_110
      by_cases hp2 : l'.ph = 2
      · skip
        have hg0 : g' = 0 ∧ l' = lE := by
          rcases HRUN.out.two with ⟨e0, e1, -⟩ | ⟨l2, g2, -, hs, -⟩
          · exact ⟨e0, e1⟩
          · rw [lookE_over hp2] at hs; simp at hs
        obtain ⟨fp, fh, fk, fl, fn, fv, ff⟩ := f
        have hle : l' = _ := hg0.2.trans HLE.out
        obtain ⟨p, hp⟩ : ∃ p, 2 ^ d = p := ⟨_, rfl⟩
        obtain ⟨hdep, hp4, hp16⟩ := pow_dep hd2 hd4
        rw [hp] at hdep hp4 hp16 hle
        have HOF := hid (fun W => Of_some key ((p : Nat) : Int) d W (by omega) hdep)
        obtain ⟨b0, hb0⟩ : ∃ x, ofN key d = x := ⟨_, rfl⟩
        have hb0l := ofN_lt (key := key) (show d ≤ 64 by omega)
        rw [hb0] at HOF HCNT hb0l
        rw [hp] at hb0l
        have HFN2 : Hid (ff = true ↔ ∃ r ∈ xs, r.2.2.1 = key) := hid HFN.out
        have HFV2 : Hid (∀ r ∈ xs, r.2.2.1 = key → r.2.2.2 = fv) := hid HFV.out
        have HF8 : Hid (FInv V Y L M1 ⟨2, root, key, a, ((p : Nat) : Int), ⟨fp, fh, fk, fl, fn, fv, ff⟩⟩ qa qc pa pc bs va m vc xs w106) := hid (by have := HF9.out; rw [hle] at this; exact this)
        obtain ⟨k', hk'⟩ : ∃ x, k + 1 = x := ⟨_, rfl⟩
        have HNK : Hid (k' = N) := hid (by have := HKN.out; have := HGK.out; have := hg0.1; omega)
        have hkk : ((k : Nat) : Int) + 1 = ((k' : Nat) : Int) := by omega
        have p2 : (l'.ph == 2) = true := by rw [hle]; rfl
        have y4 : w106.cell? ⟨L, 4, none⟩ = some (.int .i64 ((p : Nat) : Int)) := cell_laid (i := 4) HF8.out.bl rfl
        clear hp hb0 hdep hle hp2 hg0 hk' HFN HFV HF9 HRUN HINV
        go_wp2_with fail
        refine (HOF.out w106).mono ?_
        rintro e w114 ⟨rfl, hb⟩
        have HF7 : Hid (FInv V Y L M1 ⟨2, root, key, a, ((p : Nat) : Int), ⟨fp, fh, fk, fl, fn, fv, ff⟩⟩ qa qc pa pc bs va m vc xs w114) := hid ⟨keep_laid HF8.out.by_ hb, keep_laid HF8.out.bl hb, HF8.out.mem.grow hb, own_grow HF8.out.row hb, step HF8.out.bel hb⟩
        clear hb HOF HF8 y0 y4 p2 hkk
        go_wp2
        go_loopg [18, 19, 20, 75] m (fun g t18 t19 t20 t75 wr => ∃ (j c : Nat) (F : Bool) (v : Nat), t18 = .int .i64 ((c : Nat) : Int) ∧ t19 = .bool F ∧ t20 = .int .u64 ((v : Nat) : Int) ∧ t75 = .int .i64 ((j : Nat) : Int) ∧ Hid (j + g = m ∧ Cnt b0 key fv xs j c F v) ∧ Hid (FInv V Y L M1 ⟨2, root, key, a, ((p : Nat) : Int), ⟨fp, fh, fk, fl, fn, fv, ff⟩⟩ qa qc pa pc bs va m vc xs wr))
        case atStart => exact ⟨0, 0, false, 0, rfl, rfl, rfl, rfl, hid ⟨by omega, ⟨rfl, by simp, by intro h; cases h⟩⟩, HF7⟩
        case round =>
          clear HF7
          obtain ⟨j, c, F, v, rfl, rfl, rfl, rfl, hj, hF⟩ := hrel
          obtain ⟨hjm, hcn⟩ := hj.out
          have HJM := hid hjm
          have HCN := hid hcn
          clear hj hjm hcn
          by_cases hjl : j < m
          · skip
            have KY_115 := hid (hF.out.by_)
            have KL_116 := hid (hF.out.bl)
            have HOQ_117 : Hid (MemO V.heap.size qa qc pa pc M1 wr) := hid (hF.out.mem)
            have HR_118 := hid (hF.out.row)
            have HB_119 := hid (hF.out.bel)
            have hcl : c ≤ 5000 := by have h1 := HCN.out.c; have h2 := cntB_le b0 (xs.take j); rw [List.length_take] at h2; omega
            clear hF
            obtain ⟨⟨r0, r1, r2, r3⟩, hrj⟩ : ∃ x, xs[j]? = some x := ⟨_, List.getElem?_eq_getElem (by rw [HM.out]; exact hjl)⟩
            obtain ⟨b', off', hva, -, hcc⟩ := (Leads.of_own1 HR_118.out).rw hjl hrj
            obtain ⟨g0, g1, g2, g3⟩ := hcc wr (Below.refl _ _)
            have HVA := hid hva
            have hc1 := cnt_next HCN.out hrj (HFV2.out _ (List.mem_of_getElem? hrj))
            dsimp only at hc1
            have hjl' : ((j : Nat) : Int) < ((m : Nat) : Int) := by omega
            have t1 : decide (((j : Nat) : Int) < ((m : Nat) : Int)) = true := decide_eq_true hjl'
            clear hcc hrj
            have HC1 := hid hc1
            clear hc1
            subst hva
            have HKLT : Hid (∀ q, (Value.slice (some ⟨b', off', none⟩) m vc).ownBlock = some q → q < wr.heap.size) := hid (fun q hq => (HR_118.out.lt q hq).2)
            obtain ⟨w120, hw120, hb, hs, hl⟩ := laid wr #[.int .i64 0, .int .u64 0, .int .u64 0, .int .u64 0] 53
            obtain ⟨R, hR⟩ : ∃ X, wr.heap.size = X := ⟨_, rfl⟩
            rw [hR] at hl
            have nYR : Y ≠ R := by have := lt_laid KY_115.out; omega
            have nLR : L ≠ R := by have := lt_laid KL_116.out; omega
            have hVR : V.heap.size ≤ R := by have := HB_119.out.size; omega
            have KY_121 := hid (keep_laid KY_115.out hb)
            have KL_122 := hid (keep_laid KL_116.out hb)
            have HOQ_123 := hid (HOQ_117.out.grow hb)
            have HR_124 := hid (own_grow HR_118.out hb)
            have HB_125 := hid (step HB_119.out hb)
            clear KY_115 KL_116 HOQ_117 HR_118 HB_119
            have KR_126 := hid (hl)
            clear hb hs hl
            by_cases hb0' : r0 = b0
            · skip
              have e0 : (((r0 : Nat) : Int) == ((b0 : Nat) : Int)) = true := by simp [hb0']
              by_cases hk0 : r2 = key
              · skip
                have e2 : (((r2 : Nat) : Int) == ((key : Nat) : Int)) = true := by simp [hk0]
                have hc2 := HC1.out
                rw [if_pos hb0'] at hc2
                rw [if_pos hk0, if_pos hk0] at hc2
                have HC2 := hid hc2
                have HB0 := hid hb0'
                have HK0 := hid hk0
                clear hc2 hb0' hk0 HC1
                go_upto_region 30 with (refine wp_storeP rfl 53 (.tmp 22) (.tmp 78) rfl R 0 _ #[.int .i64 ((r0 : Nat) : Int), .int .u64 ((r1 : Nat) : Int), .int .u64 ((r2 : Nat) : Int), .int .u64 ((r3 : Nat) : Int)] _ rfl rfl _ KR_126.out (by kernel_rfl) (Nat.le_of_ble_eq_true rfl) (by kernel_rfl) rfl ?_; intro w127 a1 a2 a3 a4; have KY_128 := hid (a2 _ _ (by first | exact nYR | exact Ne.symm nRY) KY_121.out); have KL_129 := hid (a2 _ _ (by first | exact nLR | exact Ne.symm nRL) KL_122.out); have HOQ_130 : Hid (MemO V.heap.size qa qc pa pc M1 w127) := hid (⟨own_keep HOQ_123.out.w fun k o hk ho => a2 k o (own_neT HOQ_123.out.w KR_126.out (by decide) k hk) ho, own_keep HOQ_123.out.l fun k o hk ho => a2 k o (own_neT HOQ_123.out.l KR_126.out (by decide) k hk) ho⟩); have HB_131 := hid (a3 V.heap.size V hVR HB_125.out); have KR_132 := hid (a1); have HR_133 := hid (own_keep HR_124.out fun k o hk ho => a2 k o (by have := HKLT.out k hk; omega) ho); clear a1 a2 a3 a4 HR_124 KY_121 KL_122 HOQ_123 HB_125 KR_126; (try simp only [Act.put]); have z0 := cell_laid (i := 0) KR_132.out rfl; have z2 := cell_laid (i := 2) KR_132.out rfl)
                clear hR
                have f3 : ∀ z : Ext w127, z.v.cell? ⟨R, 3, none⟩ = some (.int .u64 ((r3 : Nat) : Int)) := fun z => cell_laid (i := 3) (keep_laid KR_132.out z.b) rfl
                refine wp_region_ext (by kernel_rfl) (by kernel_rfl) ?_
                repeat (go_big_quiet_step (fail))
                refine wpQuiet_nil ?_
                rintro v134 ⟨x8, e8⟩
                have hb := x8.b
                rw [← e8] at hb
                clear e8 x8 f3
                have KY_135 := hid (keep_laid KY_128.out hb)
                have KL_136 := hid (keep_laid KL_129.out hb)
                have HOQ_137 := hid (HOQ_130.out.grow hb)
                have HB_138 := hid (step HB_131.out hb)
                have KR_139 := hid (keep_laid KR_132.out hb)
                have HR_140 := hid (own_grow HR_133.out hb)
                clear KY_128 KL_129 HOQ_130 HB_131 KR_132 HR_133 hb
                have HF6 : Hid (FInv V Y L M1 ⟨2, root, key, a, ((p : Nat) : Int), ⟨fp, fh, fk, fl, fn, fv, ff⟩⟩ qa qc pa pc bs (some ⟨b', off', none⟩) m vc xs v134) := hid ⟨KY_135.out, KL_136.out, HOQ_137.out, HR_140.out, HB_138.out⟩
                go_wp2
                go_roundg (gk - 1)
                case measure => have := HJM.out; omega
                case rel => exact ⟨j + 1, c + 1, true, r3, by go_num, rfl, rfl, by go_num, hid ⟨by have := HJM.out; omega, HC2.out⟩, HF6⟩
              · skip
                have e2 : (((r2 : Nat) : Int) == ((key : Nat) : Int)) = false := by simp; omega
                have hc2 := HC1.out
                rw [if_pos hb0'] at hc2
                rw [if_neg hk0, if_neg hk0] at hc2
                have HC2 := hid hc2
                have HB0 := hid hb0'
                have HK0 := hid hk0
                clear hc2 hb0' hk0 HC1
                go_wp2_with (refine wp_storeP rfl 53 (.tmp 22) (.tmp 78) rfl R 0 _ #[.int .i64 ((r0 : Nat) : Int), .int .u64 ((r1 : Nat) : Int), .int .u64 ((r2 : Nat) : Int), .int .u64 ((r3 : Nat) : Int)] _ rfl rfl _ KR_126.out (by kernel_rfl) (Nat.le_of_ble_eq_true rfl) (by kernel_rfl) rfl ?_; intro w127 a1 a2 a3 a4; have KY_128 := hid (a2 _ _ (by first | exact nYR | exact Ne.symm nRY) KY_121.out); have KL_129 := hid (a2 _ _ (by first | exact nLR | exact Ne.symm nRL) KL_122.out); have HOQ_130 : Hid (MemO V.heap.size qa qc pa pc M1 w127) := hid (⟨own_keep HOQ_123.out.w fun k o hk ho => a2 k o (own_neT HOQ_123.out.w KR_126.out (by decide) k hk) ho, own_keep HOQ_123.out.l fun k o hk ho => a2 k o (own_neT HOQ_123.out.l KR_126.out (by decide) k hk) ho⟩); have HB_131 := hid (a3 V.heap.size V hVR HB_125.out); have KR_132 := hid (a1); have HR_133 := hid (own_keep HR_124.out fun k o hk ho => a2 k o (by have := HKLT.out k hk; omega) ho); clear a1 a2 a3 a4 HR_124 KY_121 KL_122 HOQ_123 HB_125 KR_126; (try simp only [Act.put]); have z0 := cell_laid (i := 0) KR_132.out rfl; have z2 := cell_laid (i := 2) KR_132.out rfl)
                clear hR
                have HF6 : Hid (FInv V Y L M1 ⟨2, root, key, a, ((p : Nat) : Int), ⟨fp, fh, fk, fl, fn, fv, ff⟩⟩ qa qc pa pc bs (some ⟨b', off', none⟩) m vc xs w127) := hid ⟨KY_128.out, KL_129.out, HOQ_130.out, HR_133.out, HB_131.out⟩
                go_roundg (gk - 1)
                case measure => have := HJM.out; omega
                case rel => exact ⟨j + 1, c + 1, F, v, by go_num, rfl, rfl, by go_num, hid ⟨by have := HJM.out; omega, HC2.out⟩, HF6⟩
            · skip
              have e0 : (((r0 : Nat) : Int) == ((b0 : Nat) : Int)) = false := by simp; omega
              by_cases hk0 : r2 = key
              · skip
                have e2 : (((r2 : Nat) : Int) == ((key : Nat) : Int)) = true := by simp [hk0]
                have hc2 := HC1.out
                rw [if_neg hb0'] at hc2
                rw [if_pos hk0, if_pos hk0] at hc2
                have HC2 := hid hc2
                have HB0 := hid hb0'
                have HK0 := hid hk0
                clear hc2 hb0' hk0 HC1
                go_upto_region 30 with (refine wp_storeP rfl 53 (.tmp 22) (.tmp 78) rfl R 0 _ #[.int .i64 ((r0 : Nat) : Int), .int .u64 ((r1 : Nat) : Int), .int .u64 ((r2 : Nat) : Int), .int .u64 ((r3 : Nat) : Int)] _ rfl rfl _ KR_126.out (by kernel_rfl) (Nat.le_of_ble_eq_true rfl) (by kernel_rfl) rfl ?_; intro w127 a1 a2 a3 a4; have KY_128 := hid (a2 _ _ (by first | exact nYR | exact Ne.symm nRY) KY_121.out); have KL_129 := hid (a2 _ _ (by first | exact nLR | exact Ne.symm nRL) KL_122.out); have HOQ_130 : Hid (MemO V.heap.size qa qc pa pc M1 w127) := hid (⟨own_keep HOQ_123.out.w fun k o hk ho => a2 k o (own_neT HOQ_123.out.w KR_126.out (by decide) k hk) ho, own_keep HOQ_123.out.l fun k o hk ho => a2 k o (own_neT HOQ_123.out.l KR_126.out (by decide) k hk) ho⟩); have HB_131 := hid (a3 V.heap.size V hVR HB_125.out); have KR_132 := hid (a1); have HR_133 := hid (own_keep HR_124.out fun k o hk ho => a2 k o (by have := HKLT.out k hk; omega) ho); clear a1 a2 a3 a4 HR_124 KY_121 KL_122 HOQ_123 HB_125 KR_126; (try simp only [Act.put]); have z0 := cell_laid (i := 0) KR_132.out rfl; have z2 := cell_laid (i := 2) KR_132.out rfl)
                clear hR
                have f3 : ∀ z : Ext w127, z.v.cell? ⟨R, 3, none⟩ = some (.int .u64 ((r3 : Nat) : Int)) := fun z => cell_laid (i := 3) (keep_laid KR_132.out z.b) rfl
                refine wp_region_ext (by kernel_rfl) (by kernel_rfl) ?_
                repeat (go_big_quiet_step (fail))
                refine wpQuiet_nil ?_
                rintro v141 ⟨x8, e8⟩
                have hb := x8.b
                rw [← e8] at hb
                clear e8 x8 f3
                have KY_142 := hid (keep_laid KY_128.out hb)
                have KL_143 := hid (keep_laid KL_129.out hb)
                have HOQ_144 := hid (HOQ_130.out.grow hb)
                have HB_145 := hid (step HB_131.out hb)
                have KR_146 := hid (keep_laid KR_132.out hb)
                have HR_147 := hid (own_grow HR_133.out hb)
                clear KY_128 KL_129 HOQ_130 HB_131 KR_132 HR_133 hb
                have HF6 : Hid (FInv V Y L M1 ⟨2, root, key, a, ((p : Nat) : Int), ⟨fp, fh, fk, fl, fn, fv, ff⟩⟩ qa qc pa pc bs (some ⟨b', off', none⟩) m vc xs v141) := hid ⟨KY_142.out, KL_143.out, HOQ_144.out, HR_147.out, HB_145.out⟩
                go_wp2
                go_roundg (gk - 1)
                case measure => have := HJM.out; omega
                case rel => exact ⟨j + 1, c, true, r3, rfl, rfl, rfl, by go_num, hid ⟨by have := HJM.out; omega, HC2.out⟩, HF6⟩
              · skip
                have e2 : (((r2 : Nat) : Int) == ((key : Nat) : Int)) = false := by simp; omega
                have hc2 := HC1.out
                rw [if_neg hb0'] at hc2
                rw [if_neg hk0, if_neg hk0] at hc2
                have HC2 := hid hc2
                have HB0 := hid hb0'
                have HK0 := hid hk0
                clear hc2 hb0' hk0 HC1
                go_wp2_with (refine wp_storeP rfl 53 (.tmp 22) (.tmp 78) rfl R 0 _ #[.int .i64 ((r0 : Nat) : Int), .int .u64 ((r1 : Nat) : Int), .int .u64 ((r2 : Nat) : Int), .int .u64 ((r3 : Nat) : Int)] _ rfl rfl _ KR_126.out (by kernel_rfl) (Nat.le_of_ble_eq_true rfl) (by kernel_rfl) rfl ?_; intro w127 a1 a2 a3 a4; have KY_128 := hid (a2 _ _ (by first | exact nYR | exact Ne.symm nRY) KY_121.out); have KL_129 := hid (a2 _ _ (by first | exact nLR | exact Ne.symm nRL) KL_122.out); have HOQ_130 : Hid (MemO V.heap.size qa qc pa pc M1 w127) := hid (⟨own_keep HOQ_123.out.w fun k o hk ho => a2 k o (own_neT HOQ_123.out.w KR_126.out (by decide) k hk) ho, own_keep HOQ_123.out.l fun k o hk ho => a2 k o (own_neT HOQ_123.out.l KR_126.out (by decide) k hk) ho⟩); have HB_131 := hid (a3 V.heap.size V hVR HB_125.out); have KR_132 := hid (a1); have HR_133 := hid (own_keep HR_124.out fun k o hk ho => a2 k o (by have := HKLT.out k hk; omega) ho); clear a1 a2 a3 a4 HR_124 KY_121 KL_122 HOQ_123 HB_125 KR_126; (try simp only [Act.put]); have z0 := cell_laid (i := 0) KR_132.out rfl; have z2 := cell_laid (i := 2) KR_132.out rfl)
                clear hR
                have HF6 : Hid (FInv V Y L M1 ⟨2, root, key, a, ((p : Nat) : Int), ⟨fp, fh, fk, fl, fn, fv, ff⟩⟩ qa qc pa pc bs (some ⟨b', off', none⟩) m vc xs w127) := hid ⟨KY_128.out, KL_129.out, HOQ_130.out, HR_133.out, HB_131.out⟩
                go_roundg (gk - 1)
                case measure => have := HJM.out; omega
                case rel => exact ⟨j + 1, c, F, v, rfl, rfl, rfl, by go_num, hid ⟨by have := HJM.out; omega, HC2.out⟩, HF6⟩
          · skip
            have t1 : decide (((j : Nat) : Int) < ((m : Nat) : Int)) = false := decide_eq_false (by omega)
            have t1' : ¬ ((j : Nat) : Int) < ((m : Nat) : Int) := by omega
            have hjm : j = m := by have := HJM.out; omega
            have hcn := HCN.out
            have hcn : Cnt b0 key fv xs m c F v := hjm ▸ HCN.out
            have htk : xs.take m = xs := List.take_of_length_le (by rw [HM.out]; exact Nat.le_refl _)
            have hc := hcn.c
            have hf := hcn.f
            rw [htk] at hc hf
            have hFf : F = ff := by rw [Bool.eq_iff_iff, hf, HFN2.out]
            have hvf := hcn.v
            obtain ⟨c4, hc4⟩ : ∃ x, 4 * c = x := ⟨_, rfl⟩
            obtain ⟨c6, hc6⟩ : ∃ x, 2 + c4 = x := ⟨_, rfl⟩
            have hle6 : k' ≤ c6 := by have := HNK.out; have := HCNT.out; omega
            have hcm : c ≤ m := by rw [hc, ← HM.out]; exact cntB_le _ _
            have hmul4 : IntKind.i64.wrap ((4 : Int) * ((c : Nat) : Int)) = ((c4 : Nat) : Int) := by rw [IntKind.wrap_i64]; omega
            have hadd6 : IntKind.i64.wrap ((2 : Int) + ((c4 : Nat) : Int)) = ((c6 : Nat) : Int) := by rw [IntKind.wrap_i64]; omega
            have hd6 : decide (((k' : Nat) : Int) ≤ ((c6 : Nat) : Int)) = true := decide_eq_true (by omega)
            have hd6' : ((k' : Nat) : Int) ≤ ((c6 : Nat) : Int) := by omega
            have hFF : (M1.F == M1.F) = true := by simp
            have y0 : wr.cell? ⟨L, 0, none⟩ = some (.int .i64 2) := cell_laid (i := 0) hF.out.bl rfl
            have y10 : wr.cell? ⟨L, 10, none⟩ = some (.int .u64 ((fv : Nat) : Int)) := cell_laid (i := 10) hF.out.bl rfl
            have y11 : wr.cell? ⟨L, 11, none⟩ = some (.bool ff) := cell_laid (i := 11) hF.out.bl rfl
            have x2 := cell_laid (i := 2) hF.out.by_ rfl
            have HB9 := hid hF.out.bel
            clear hF hcn htk hc hf hjm hc4 hc6 hle6 HCN HJM
            subst hFf
            cases F with
            | false =>
              clear hvf
              go_wp2
              go_ret
              exact ⟨rfl, HB9.out⟩
            | true =>
              obtain rfl := hvf rfl
              clear hvf
              go_wp2
              go_ret
              exact ⟨rfl, HB9.out⟩
      · skip
        have p2 : (l'.ph == 2) = false := by simp [hp2]
        have hg1 : 1 ≤ g' := by
          rcases HRUN.out.two with ⟨e0, e1, -⟩ | ⟨l2, g2, hg, -, -⟩
          · rw [e1, HLE.out] at hp2; exact absurd rfl hp2
          · omega
        have HG1 := hid hg1
        clear hp2 hg1
        go_wp2
        go_roundg g'
        case measure => have := HGK.out; omega
        case rel => exact ⟨k + 1, l', qa, pa, qc, pc, by go_num, by go_num, hid ⟨by have := HKN.out; have := HGK.out; omega, HG1.out, HRUN.out, HINV.out⟩, HF9⟩
end Go.Proofs.YtahicokokfcieaaDoor
