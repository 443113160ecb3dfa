/- Several texts in one. -/
import Derived.Test.YtahicokokfcieaaGreatDoorTb17
namespace Go.Proofs.YtahicokokfcieaaGreatDoor
open Go.RowKit
open Go.Proofs
set_option linter.unusedVariables false
attribute [local go_sem] Oper.semAt_some
theorem stepM_word {M M' : Mem} {st d : Bool} {q : Int} {new x : Nat} (hW : ∀ x ∈ M.W, x < 18446744073709551616) (h : stepM M st q new = (M', x, d)) : x < 18446744073709551616 := by
  have : x = (stepM M st q new).2.1 := by rw [h]
  rw [this]
  unfold stepM
  split
  · show M.W.getD q.toNat 0 < _
    rw [List.getD_eq_getElem?_getD]
    cases hq : M.W[q.toNat]? with
    | none => decide
    | some y => exact hW y (List.mem_of_getElem? hq)
  · show (0 : Nat) < _
    decide
theorem Glob.keepR {V W : World} {R : Nat} (h : Glob V) (hR : R ≠ 0) (hs : V.heap.size ≤ W.heap.size) (a2 : ∀ (k : Nat) (o : Obj), k ≠ R → V.heap[k]? = some o → W.heap[k]? = some o) : Glob W := by
  have e0 : W.heap[0]? = V.heap[0]? := by
    have hl := h.one
    rw [Array.getElem?_eq_getElem hl]
    exact a2 0 _ (Ne.symm hR) (Array.getElem?_eq_getElem hl)
  have k : ∀ i v, V.cell? ⟨0, i, none⟩ = some v → W.cell? ⟨0, i, none⟩ = some v := fun i v hv => by
    unfold World.cell? at hv ⊢
    rw [e0]
    exact hv
  exact ⟨Nat.le_trans h.one hs, k _ _ h.c0, k _ _ h.c1, k _ _ h.c2, k _ _ h.c3⟩
set_option maxRecDepth 100000 in
set_option maxHeartbeats 8000000 in
theorem look_root (B R S n : Nat) (M : Mem) (l : Lk) (V1 : World) (h : RunT B R M n V1) (hS : V1.heap[S]? = some (.cells (lk12 l) 43 (0, 0))) (hB : B ≤ V1.heap.size) (hok : okM M = true) (hroot : l.root < 18446744073709551616) (hg : Glob V1) (hW : ∀ x ∈ M.W, x < 18446744073709551616) (hkey : l.key < 18446744073709551616) (hR0 : R ≠ 0) (h0 : l.ph = 0) (hn : n ≤ 1000000) :
    Calls Tryz.prog 55 #[.pointer (some ⟨R, 0, none⟩), .pointer (some ⟨S, 0, none⟩)] V1 (GivesLook B R S n (lookE M l) V1) := by
  obtain ⟨lp, root, key, array, many, s⟩ := l
  dsimp only at h0 hroot hkey
  subst h0
  obtain ⟨m, hm⟩ : ∃ m, min root 4096 = m := ⟨_, rfl⟩
  have hmi : min ((root : Nat) : Int) 4096 = ((m : Nat) : Int) := by omega
  have hm2 : m ≤ 4096 := by omega
  obtain ⟨⟨M', x, d⟩, hX⟩ : ∃ X, stepM M false ((m : Nat) : Int) 0 = X := ⟨_, rfl⟩
  obtain ⟨wa, wc, la, lc, hR, hO⟩ := h
  have hx : x < 18446744073709551616 := stepM_word hW hX
  obtain ⟨X, hXE⟩ : ∃ X, lookE M ⟨0, root, key, array, many, s⟩ = X := ⟨_, rfl⟩
  rw [hXE]
  have HE := hid hXE
  have HX := hid hX
  have HMI := hid hm
  have HGL := hid hg
  have HR := hid hR
  have HSS := hid hS
  have HO := hid hO
  have hwl := hO.memL.w.len
  have hll := hO.memL.l.len
  have HST : Hid (∀ W, Below V1.heap.size V1 W → Calls Tryz.prog 77 #[.agg #[.slice wa M.W.length wc, .slice la M.L.length lc, .bool M.F], .agg #[.int .i64 1, .int .i64 ((m : Nat) : Int), .int .u64 0, .int .u64 0]] W (GivesG M' x d W)) := hid (fun W hb => by
    have := Step_any M wa la wc lc false 1 ((m : Nat) : Int) 0 0 W (HO.out.memL.grow hb) hok (by omega) rfl
    rw [hX] at this
    exact this)
  have r0 : ∀ z : Ext V1, z.v.cell? ⟨R, 0, none⟩ = some (.slice wa M.W.length wc) := fun z => cell_laid (keep_laid HR.out z.b) rfl
  have r1 : ∀ z : Ext V1, z.v.cell? ⟨R, 1, none⟩ = some (.slice la M.L.length lc) := fun z => cell_laid (keep_laid HR.out z.b) rfl
  have r2 : ∀ z : Ext V1, z.v.cell? ⟨R, 2, none⟩ = some (.bool M.F) := fun z => cell_laid (keep_laid HR.out z.b) rfl
  have s1 : ∀ z : Ext V1, z.v.cell? ⟨S, 1, none⟩ = some (.int .u64 ((root : Nat) : Int)) := fun z => cell_laid (i := 1) (keep_laid HSS.out z.b) rfl
  have s0 : V1.cell? ⟨S, 0, none⟩ = some (.int .i64 0) := cell_laid (i := 0) hS rfl
  haveI : Nonempty (Ext V1) := ⟨⟨V1, Below.refl _ _⟩⟩
  clear hR hO hS hok hm hXE hX hg hW
  go_enter Tryz.func55, Tryz.ntmps55
  go_upto_region 4 with (fail)
  clear s0
  go_cut [5, 6] (fun t5 t6 W => ∃ (Z G : Nat) (wa' : Option Addr) (wc' : Nat) (la' : Option Addr) (lc' : Nat), t5 = .pointer (some ⟨Z, 0, none⟩) ∧ t6 = .pointer (some ⟨G, 0, none⟩) ∧ Hid (W.heap[Z]? = some (.cells #[.slice wa' M'.W.length wc', .slice la' M'.L.length lc', .bool M'.F] 25 (0, 0)) ∧ W.heap[G]? = some (.cells #[.int .u64 ((x : Nat) : Int), .bool d] 111 (0, 0)) ∧ MemO B wa' wc' la' lc' M' W ∧ Below V1.heap.size V1 W))
  case first =>
    obtain ⟨D, hD⟩ : ∃ DX, V1.drew = DX := ⟨_, rfl⟩
    have hbD : Below V1.heap.size V1 D := by rw [← hD]; exact (Below.refl _ _).drew
    have HD := hid hD
    have HBW := hid hbD
    clear hD hbD
    refine wp_region_mix3 (fun W => ∃ z : Ext V1, W = z.v) 21 (.q 0 (.q 1 (.q 2 (.q 3 (.q 4 (.q 5 (.q 6 (.q 7 (.q 8 (.q 9 (.q 10 (.h3 11 (.q 12 (.q 13 (.q 14 (.q 15 (.h2 16 (.h 17 (.h 18 (.h 19 (.q 20 .done)))) 17 (.h 16 (.h 18 (.h 19 (.q 20 .done))))))))) 16 (.h2 11 (.q 12 (.q 13 (.q 14 (.q 15 (.h 17 (.h 18 (.h 19 (.q 20 .done)))))))) 17 (.h 11 (.q 12 (.q 13 (.q 14 (.q 15 (.h 18 (.h 19 (.q 20 .done))))))))) 17 (.h2 11 (.q 12 (.q 13 (.q 14 (.q 15 (.h 16 (.h 18 (.h 19 (.q 20 .done)))))))) 16 (.h 11 (.q 12 (.q 13 (.q 14 (.q 15 (.h 18 (.h 19 (.q 20 .done))))))))))))))))))))) (by kernel_rfl) (by kernel_rfl) (by rw [HD.out]; exact ⟨⟨D, HBW.out⟩, rfl⟩) ?_
    rw [HD.out]
    repeat (refine wpMix3_q rfl rfl ?_; go_big_quiet_step (fail); refine wpQuiet_nil ?_)
    refine wpMix3_h3 ?_ ?_ ?_
    · skip
      refine wpMix3_h rfl fun R' hR' hO => ?_
      go_wp2_with fail
      refine (HST.out D HBW.out).mono ?_
      rintro e w05x ⟨wa', wc', la', lc', rfl, hoo, hbn⟩
      have hsz := HBW.out.size
      have HBW_1 := hid (HBW.out.trans (hbn.mono HBW.out.size))
      clear HBW hbn
      have HN_2 : Hid (MemO B wa' wc' la' lc' M' w05x) := hid (hoo.base (by omega))
      clear hoo hsz
      unfold memV
      go_wp2
      refine hR' _ _ ⟨⟨w05x, HBW_1.out⟩, rfl⟩ ?_
      clear hR' hO R'
      repeat (refine wpMix3_q rfl rfl ?_; go_big_quiet_step (fail); refine wpQuiet_nil ?_)
      refine wpMix3_h2 ?_ ?_
      · skip
        refine wpMix3_h rfl fun R' hR' hO => ?_
        obtain ⟨w110x, hww110x, hbn, hsn, hln⟩ := laid w05x #[.slice none 0 0, .slice none 0 0, .bool false] 25
        obtain ⟨Z, hB⟩ : ∃ X, w05x.heap.size = X := ⟨_, rfl⟩
        rw [hB] at hln
        have LZ := hid (show V1.heap.size ≤ Z from by have := (HBW_1.out).size; omega)
        have HBW_3 := hid (HBW_1.out.trans (hbn.mono HBW_1.out.size))
        have HN_4 := hid (HN_2.out.grow hbn)
        clear HBW_1 HN_2 hbn hsn
        have HZ_5 := hid (hln)
        clear hln
        go_wp2
        refine hR' _ _ ⟨⟨w110x, HBW_3.out⟩, rfl⟩ ?_
        clear hR' hO R'
        repeat (refine wpMix3_q rfl rfl ?_; go_big_quiet_step (fail); refine wpQuiet_nil ?_)
        refine wpMix3_h rfl fun R' hR' hO => ?_
        obtain ⟨w211x, hww211x, hbn, hsn, hln⟩ := laid w110x #[.int .u64 0, .bool false] 111
        obtain ⟨G, hB⟩ : ∃ X, w110x.heap.size = X := ⟨_, rfl⟩
        rw [hB] at hln
        have LG := hid (show V1.heap.size ≤ G from by have := (HBW_3.out).size; omega)
        have HNE := hid (show Z ≠ G from by have := lt_laid HZ_5.out; omega)
        have HBW_6 := hid (HBW_3.out.trans (hbn.mono HBW_3.out.size))
        have HN_7 := hid (HN_4.out.grow hbn)
        have HZ_8 := hid (keep_laid HZ_5.out hbn)
        clear HBW_3 HN_4 HZ_5 hbn hsn
        have HG_9 := hid (hln)
        clear hln
        go_wp2
        refine hR' _ _ ⟨⟨w211x, HBW_6.out⟩, rfl⟩ ?_
        clear hR' hO R'
        repeat (refine wpMix3_q rfl rfl ?_; go_big_quiet_step (fail); refine wpQuiet_nil ?_)
        obtain ⟨u1, hu1, b1, b2, b3, b4⟩ := put_mem HZ_8.out (.slice wa' M'.W.length wc') (.slice la' M'.L.length lc') (.bool M'.F)
        have z0 := cell_laid (i := 0) HZ_8.out rfl
        have zf0 := free_laid (i := 0) HZ_8.out
        have z1 := cell_laid (i := 1) HZ_8.out rfl
        have zf1 := free_laid (i := 1) HZ_8.out
        have z2 := cell_laid (i := 2) HZ_8.out rfl
        have zf2 := free_laid (i := 2) HZ_8.out
        have HU1 := hid hu1
        have HZ1 := hid b1
        have HG1 := hid (b2 _ _ (by have := HNE.out; omega) HG_9.out)
        have HB1 := hid (b3 _ _ LZ.out HBW_6.out)
        have HO1 := hid (b4 _ _ _ _ _ _ HN_7.out)
        clear hu1 b1 b2 b3 b4
        refine wpMix3_h rfl fun R' hR' hO => ?_
        go_wp2
        rw [← HU1.out]
        refine hR' _ _ ⟨⟨u1, HB1.out⟩, rfl⟩ ?_
        clear hR' hO R' z0 z1 z2 zf0 zf1 zf2
        obtain ⟨u2, hu2, b1, b2, b3, b4⟩ := put_got HG1.out (by decide) (by decide) (.int .u64 ((x : Nat) : Int)) (.bool d)
        have z0 := cell_laid (i := 0) HG1.out rfl
        have zf0 := free_laid (i := 0) HG1.out
        have z1 := cell_laid (i := 1) HG1.out rfl
        have zf1 := free_laid (i := 1) HG1.out
        have HU2 := hid hu2
        have RR : Hid (u2.heap[Z]? = some (.cells #[.slice wa' M'.W.length wc', .slice la' M'.L.length lc', .bool M'.F] 25 (0, 0)) ∧ u2.heap[G]? = some (.cells #[.int .u64 ((x : Nat) : Int), .bool d] 111 (0, 0)) ∧ MemO B wa' wc' la' lc' M' u2 ∧ Below V1.heap.size V1 u2) := hid ⟨b2 _ _ (by have := HNE.out; omega) HZ1.out, b1, b4 _ _ _ _ _ _ HO1.out, b3 _ _ LG.out HB1.out⟩
        clear hu2 b1 b2 b3 b4
        refine wpMix3_h rfl fun R' hR' hO => ?_
        go_wp2
        rw [← HU2.out]
        refine hR' _ _ ⟨⟨u2, RR.out.2.2.2⟩, rfl⟩ ?_
        clear hR' hO R' z0 z1 zf0 zf1
        repeat (refine wpMix3_q rfl rfl ?_; go_big_quiet_step (fail); refine wpQuiet_nil ?_)
        refine wpMix3_done ?_
        simp only [List.drop_succ_cons, List.drop_nil]
        go_wp2
        go_meet
        exact ⟨Z, G, wa', wc', la', lc', rfl, rfl, RR⟩
      · skip
        refine wpMix3_h rfl fun R' hR' hO => ?_
        obtain ⟨w111x, hww111x, hbn, hsn, hln⟩ := laid w05x #[.int .u64 0, .bool false] 111
        obtain ⟨G, hB⟩ : ∃ X, w05x.heap.size = X := ⟨_, rfl⟩
        rw [hB] at hln
        have LG := hid (show V1.heap.size ≤ G from by have := (HBW_1.out).size; omega)
        have HBW_3 := hid (HBW_1.out.trans (hbn.mono HBW_1.out.size))
        have HN_4 := hid (HN_2.out.grow hbn)
        clear HBW_1 HN_2 hbn hsn
        have HG_5 := hid (hln)
        clear hln
        go_wp2
        refine hR' _ _ ⟨⟨w111x, HBW_3.out⟩, rfl⟩ ?_
        clear hR' hO R'
        repeat (refine wpMix3_q rfl rfl ?_; go_big_quiet_step (fail); refine wpQuiet_nil ?_)
        refine wpMix3_h rfl fun R' hR' hO => ?_
        obtain ⟨w210x, hww210x, hbn, hsn, hln⟩ := laid w111x #[.slice none 0 0, .slice none 0 0, .bool false] 25
        obtain ⟨Z, hB⟩ : ∃ X, w111x.heap.size = X := ⟨_, rfl⟩
        rw [hB] at hln
        have LZ := hid (show V1.heap.size ≤ Z from by have := (HBW_3.out).size; omega)
        have HNE := hid (show Z ≠ G from by have := lt_laid HG_5.out; omega)
        have HBW_6 := hid (HBW_3.out.trans (hbn.mono HBW_3.out.size))
        have HN_7 := hid (HN_4.out.grow hbn)
        have HG_8 := hid (keep_laid HG_5.out hbn)
        clear HBW_3 HN_4 HG_5 hbn hsn
        have HZ_9 := hid (hln)
        clear hln
        go_wp2
        refine hR' _ _ ⟨⟨w210x, HBW_6.out⟩, rfl⟩ ?_
        clear hR' hO R'
        repeat (refine wpMix3_q rfl rfl ?_; go_big_quiet_step (fail); refine wpQuiet_nil ?_)
        obtain ⟨u1, hu1, b1, b2, b3, b4⟩ := put_mem HZ_9.out (.slice wa' M'.W.length wc') (.slice la' M'.L.length lc') (.bool M'.F)
        have z0 := cell_laid (i := 0) HZ_9.out rfl
        have zf0 := free_laid (i := 0) HZ_9.out
        have z1 := cell_laid (i := 1) HZ_9.out rfl
        have zf1 := free_laid (i := 1) HZ_9.out
        have z2 := cell_laid (i := 2) HZ_9.out rfl
        have zf2 := free_laid (i := 2) HZ_9.out
        have HU1 := hid hu1
        have HZ1 := hid b1
        have HG1 := hid (b2 _ _ (by have := HNE.out; omega) HG_8.out)
        have HB1 := hid (b3 _ _ LZ.out HBW_6.out)
        have HO1 := hid (b4 _ _ _ _ _ _ HN_7.out)
        clear hu1 b1 b2 b3 b4
        refine wpMix3_h rfl fun R' hR' hO => ?_
        go_wp2
        rw [← HU1.out]
        refine hR' _ _ ⟨⟨u1, HB1.out⟩, rfl⟩ ?_
        clear hR' hO R' z0 z1 z2 zf0 zf1 zf2
        obtain ⟨u2, hu2, b1, b2, b3, b4⟩ := put_got HG1.out (by decide) (by decide) (.int .u64 ((x : Nat) : Int)) (.bool d)
        have z0 := cell_laid (i := 0) HG1.out rfl
        have zf0 := free_laid (i := 0) HG1.out
        have z1 := cell_laid (i := 1) HG1.out rfl
        have zf1 := free_laid (i := 1) HG1.out
        have HU2 := hid hu2
        have RR : Hid (u2.heap[Z]? = some (.cells #[.slice wa' M'.W.length wc', .slice la' M'.L.length lc', .bool M'.F] 25 (0, 0)) ∧ u2.heap[G]? = some (.cells #[.int .u64 ((x : Nat) : Int), .bool d] 111 (0, 0)) ∧ MemO B wa' wc' la' lc' M' u2 ∧ Below V1.heap.size V1 u2) := hid ⟨b2 _ _ (by have := HNE.out; omega) HZ1.out, b1, b4 _ _ _ _ _ _ HO1.out, b3 _ _ LG.out HB1.out⟩
        clear hu2 b1 b2 b3 b4
        refine wpMix3_h rfl fun R' hR' hO => ?_
        go_wp2
        rw [← HU2.out]
        refine hR' _ _ ⟨⟨u2, RR.out.2.2.2⟩, rfl⟩ ?_
        clear hR' hO R' z0 z1 zf0 zf1
        repeat (refine wpMix3_q rfl rfl ?_; go_big_quiet_step (fail); refine wpQuiet_nil ?_)
        refine wpMix3_done ?_
        simp only [List.drop_succ_cons, List.drop_nil]
        go_wp2
        go_meet
        exact ⟨Z, G, wa', wc', la', lc', rfl, rfl, RR⟩
    · skip
      refine wpMix3_h rfl fun R' hR' hO => ?_
      obtain ⟨w010x, hww010x, hbn, hsn, hln⟩ := laid D #[.slice none 0 0, .slice none 0 0, .bool false] 25
      obtain ⟨Z, hB⟩ : ∃ X, D.heap.size = X := ⟨_, rfl⟩
      rw [hB] at hln
      have LZ := hid (show V1.heap.size ≤ Z from by have := (HBW.out).size; omega)
      have HBW_1 := hid (HBW.out.trans (hbn.mono HBW.out.size))
      clear HBW hbn hsn
      have HZ_2 := hid (hln)
      clear hln
      go_wp2
      refine hR' _ _ ⟨⟨w010x, HBW_1.out⟩, rfl⟩ ?_
      clear hR' hO R'
      repeat (refine wpMix3_q rfl rfl ?_; go_big_quiet_step (fail); refine wpQuiet_nil ?_)
      refine wpMix3_h2 ?_ ?_
      · skip
        refine wpMix3_h rfl fun R' hR' hO => ?_
        go_wp2_with fail
        refine (HST.out w010x HBW_1.out).mono ?_
        rintro e w15x ⟨wa', wc', la', lc', rfl, hoo, hbn⟩
        have hsz := HBW_1.out.size
        have HBW_3 := hid (HBW_1.out.trans (hbn.mono HBW_1.out.size))
        have HZ_4 := hid (keep_laid HZ_2.out hbn)
        clear HBW_1 HZ_2 hbn
        have HN_5 : Hid (MemO B wa' wc' la' lc' M' w15x) := hid (hoo.base (by omega))
        clear hoo hsz
        unfold memV
        go_wp2
        refine hR' _ _ ⟨⟨w15x, HBW_3.out⟩, rfl⟩ ?_
        clear hR' hO R'
        repeat (refine wpMix3_q rfl rfl ?_; go_big_quiet_step (fail); refine wpQuiet_nil ?_)
        refine wpMix3_h rfl fun R' hR' hO => ?_
        obtain ⟨w211x, hww211x, hbn, hsn, hln⟩ := laid w15x #[.int .u64 0, .bool false] 111
        obtain ⟨G, hB⟩ : ∃ X, w15x.heap.size = X := ⟨_, rfl⟩
        rw [hB] at hln
        have LG := hid (show V1.heap.size ≤ G from by have := (HBW_3.out).size; omega)
        have HNE := hid (show Z ≠ G from by have := lt_laid HZ_4.out; omega)
        have HBW_6 := hid (HBW_3.out.trans (hbn.mono HBW_3.out.size))
        have HZ_7 := hid (keep_laid HZ_4.out hbn)
        have HN_8 := hid (HN_5.out.grow hbn)
        clear HBW_3 HZ_4 HN_5 hbn hsn
        have HG_9 := hid (hln)
        clear hln
        go_wp2
        refine hR' _ _ ⟨⟨w211x, HBW_6.out⟩, rfl⟩ ?_
        clear hR' hO R'
        repeat (refine wpMix3_q rfl rfl ?_; go_big_quiet_step (fail); refine wpQuiet_nil ?_)
        obtain ⟨u1, hu1, b1, b2, b3, b4⟩ := put_mem HZ_7.out (.slice wa' M'.W.length wc') (.slice la' M'.L.length lc') (.bool M'.F)
        have z0 := cell_laid (i := 0) HZ_7.out rfl
        have zf0 := free_laid (i := 0) HZ_7.out
        have z1 := cell_laid (i := 1) HZ_7.out rfl
        have zf1 := free_laid (i := 1) HZ_7.out
        have z2 := cell_laid (i := 2) HZ_7.out rfl
        have zf2 := free_laid (i := 2) HZ_7.out
        have HU1 := hid hu1
        have HZ1 := hid b1
        have HG1 := hid (b2 _ _ (by have := HNE.out; omega) HG_9.out)
        have HB1 := hid (b3 _ _ LZ.out HBW_6.out)
        have HO1 := hid (b4 _ _ _ _ _ _ HN_8.out)
        clear hu1 b1 b2 b3 b4
        refine wpMix3_h rfl fun R' hR' hO => ?_
        go_wp2
        rw [← HU1.out]
        refine hR' _ _ ⟨⟨u1, HB1.out⟩, rfl⟩ ?_
        clear hR' hO R' z0 z1 z2 zf0 zf1 zf2
        obtain ⟨u2, hu2, b1, b2, b3, b4⟩ := put_got HG1.out (by decide) (by decide) (.int .u64 ((x : Nat) : Int)) (.bool d)
        have z0 := cell_laid (i := 0) HG1.out rfl
        have zf0 := free_laid (i := 0) HG1.out
        have z1 := cell_laid (i := 1) HG1.out rfl
        have zf1 := free_laid (i := 1) HG1.out
        have HU2 := hid hu2
        have RR : Hid (u2.heap[Z]? = some (.cells #[.slice wa' M'.W.length wc', .slice la' M'.L.length lc', .bool M'.F] 25 (0, 0)) ∧ u2.heap[G]? = some (.cells #[.int .u64 ((x : Nat) : Int), .bool d] 111 (0, 0)) ∧ MemO B wa' wc' la' lc' M' u2 ∧ Below V1.heap.size V1 u2) := hid ⟨b2 _ _ (by have := HNE.out; omega) HZ1.out, b1, b4 _ _ _ _ _ _ HO1.out, b3 _ _ LG.out HB1.out⟩
        clear hu2 b1 b2 b3 b4
        refine wpMix3_h rfl fun R' hR' hO => ?_
        go_wp2
        rw [← HU2.out]
        refine hR' _ _ ⟨⟨u2, RR.out.2.2.2⟩, rfl⟩ ?_
        clear hR' hO R' z0 z1 zf0 zf1
        repeat (refine wpMix3_q rfl rfl ?_; go_big_quiet_step (fail); refine wpQuiet_nil ?_)
        refine wpMix3_done ?_
        simp only [List.drop_succ_cons, List.drop_nil]
        go_wp2
        go_meet
        exact ⟨Z, G, wa', wc', la', lc', rfl, rfl, RR⟩
      · skip
        refine wpMix3_h rfl fun R' hR' hO => ?_
        obtain ⟨w111x, hww111x, hbn, hsn, hln⟩ := laid w010x #[.int .u64 0, .bool false] 111
        obtain ⟨G, hB⟩ : ∃ X, w010x.heap.size = X := ⟨_, rfl⟩
        rw [hB] at hln
        have LG := hid (show V1.heap.size ≤ G from by have := (HBW_1.out).size; omega)
        have HNE := hid (show Z ≠ G from by have := lt_laid HZ_2.out; omega)
        have HBW_3 := hid (HBW_1.out.trans (hbn.mono HBW_1.out.size))
        have HZ_4 := hid (keep_laid HZ_2.out hbn)
        clear HBW_1 HZ_2 hbn hsn
        have HG_5 := hid (hln)
        clear hln
        go_wp2
        refine hR' _ _ ⟨⟨w111x, HBW_3.out⟩, rfl⟩ ?_
        clear hR' hO R'
        repeat (refine wpMix3_q rfl rfl ?_; go_big_quiet_step (fail); refine wpQuiet_nil ?_)
        refine wpMix3_h rfl fun R' hR' hO => ?_
        go_wp2_with fail
        refine (HST.out w111x HBW_3.out).mono ?_
        rintro e w25x ⟨wa', wc', la', lc', rfl, hoo, hbn⟩
        have hsz := HBW_3.out.size
        have HBW_6 := hid (HBW_3.out.trans (hbn.mono HBW_3.out.size))
        have HZ_7 := hid (keep_laid HZ_4.out hbn)
        have HG_8 := hid (keep_laid HG_5.out hbn)
        clear HBW_3 HZ_4 HG_5 hbn
        have HN_9 : Hid (MemO B wa' wc' la' lc' M' w25x) := hid (hoo.base (by omega))
        clear hoo hsz
        unfold memV
        go_wp2
        refine hR' _ _ ⟨⟨w25x, HBW_6.out⟩, rfl⟩ ?_
        clear hR' hO R'
        repeat (refine wpMix3_q rfl rfl ?_; go_big_quiet_step (fail); refine wpQuiet_nil ?_)
        obtain ⟨u1, hu1, b1, b2, b3, b4⟩ := put_mem HZ_7.out (.slice wa' M'.W.length wc') (.slice la' M'.L.length lc') (.bool M'.F)
        have z0 := cell_laid (i := 0) HZ_7.out rfl
        have zf0 := free_laid (i := 0) HZ_7.out
        have z1 := cell_laid (i := 1) HZ_7.out rfl
        have zf1 := free_laid (i := 1) HZ_7.out
        have z2 := cell_laid (i := 2) HZ_7.out rfl
        have zf2 := free_laid (i := 2) HZ_7.out
        have HU1 := hid hu1
        have HZ1 := hid b1
        have HG1 := hid (b2 _ _ (by have := HNE.out; omega) HG_8.out)
        have HB1 := hid (b3 _ _ LZ.out HBW_6.out)
        have HO1 := hid (b4 _ _ _ _ _ _ HN_9.out)
        clear hu1 b1 b2 b3 b4
        refine wpMix3_h rfl fun R' hR' hO => ?_
        go_wp2
        rw [← HU1.out]
        refine hR' _ _ ⟨⟨u1, HB1.out⟩, rfl⟩ ?_
        clear hR' hO R' z0 z1 z2 zf0 zf1 zf2
        obtain ⟨u2, hu2, b1, b2, b3, b4⟩ := put_got HG1.out (by decide) (by decide) (.int .u64 ((x : Nat) : Int)) (.bool d)
        have z0 := cell_laid (i := 0) HG1.out rfl
        have zf0 := free_laid (i := 0) HG1.out
        have z1 := cell_laid (i := 1) HG1.out rfl
        have zf1 := free_laid (i := 1) HG1.out
        have HU2 := hid hu2
        have RR : Hid (u2.heap[Z]? = some (.cells #[.slice wa' M'.W.length wc', .slice la' M'.L.length lc', .bool M'.F] 25 (0, 0)) ∧ u2.heap[G]? = some (.cells #[.int .u64 ((x : Nat) : Int), .bool d] 111 (0, 0)) ∧ MemO B wa' wc' la' lc' M' u2 ∧ Below V1.heap.size V1 u2) := hid ⟨b2 _ _ (by have := HNE.out; omega) HZ1.out, b1, b4 _ _ _ _ _ _ HO1.out, b3 _ _ LG.out HB1.out⟩
        clear hu2 b1 b2 b3 b4
        refine wpMix3_h rfl fun R' hR' hO => ?_
        go_wp2
        rw [← HU2.out]
        refine hR' _ _ ⟨⟨u2, RR.out.2.2.2⟩, rfl⟩ ?_
        clear hR' hO R' z0 z1 zf0 zf1
        repeat (refine wpMix3_q rfl rfl ?_; go_big_quiet_step (fail); refine wpQuiet_nil ?_)
        refine wpMix3_done ?_
        simp only [List.drop_succ_cons, List.drop_nil]
        go_wp2
        go_meet
        exact ⟨Z, G, wa', wc', la', lc', rfl, rfl, RR⟩
    · skip
      refine wpMix3_h rfl fun R' hR' hO => ?_
      obtain ⟨w011x, hww011x, hbn, hsn, hln⟩ := laid D #[.int .u64 0, .bool false] 111
      obtain ⟨G, hB⟩ : ∃ X, D.heap.size = X := ⟨_, rfl⟩
      rw [hB] at hln
      have LG := hid (show V1.heap.size ≤ G from by have := (HBW.out).size; omega)
      have HBW_1 := hid (HBW.out.trans (hbn.mono HBW.out.size))
      clear HBW hbn hsn
      have HG_2 := hid (hln)
      clear hln
      go_wp2
      refine hR' _ _ ⟨⟨w011x, HBW_1.out⟩, rfl⟩ ?_
      clear hR' hO R'
      repeat (refine wpMix3_q rfl rfl ?_; go_big_quiet_step (fail); refine wpQuiet_nil ?_)
      refine wpMix3_h2 ?_ ?_
      · skip
        refine wpMix3_h rfl fun R' hR' hO => ?_
        go_wp2_with fail
        refine (HST.out w011x HBW_1.out).mono ?_
        rintro e w15x ⟨wa', wc', la', lc', rfl, hoo, hbn⟩
        have hsz := HBW_1.out.size
        have HBW_3 := hid (HBW_1.out.trans (hbn.mono HBW_1.out.size))
        have HG_4 := hid (keep_laid HG_2.out hbn)
        clear HBW_1 HG_2 hbn
        have HN_5 : Hid (MemO B wa' wc' la' lc' M' w15x) := hid (hoo.base (by omega))
        clear hoo hsz
        unfold memV
        go_wp2
        refine hR' _ _ ⟨⟨w15x, HBW_3.out⟩, rfl⟩ ?_
        clear hR' hO R'
        repeat (refine wpMix3_q rfl rfl ?_; go_big_quiet_step (fail); refine wpQuiet_nil ?_)
        refine wpMix3_h rfl fun R' hR' hO => ?_
        obtain ⟨w210x, hww210x, hbn, hsn, hln⟩ := laid w15x #[.slice none 0 0, .slice none 0 0, .bool false] 25
        obtain ⟨Z, hB⟩ : ∃ X, w15x.heap.size = X := ⟨_, rfl⟩
        rw [hB] at hln
        have LZ := hid (show V1.heap.size ≤ Z from by have := (HBW_3.out).size; omega)
        have HNE := hid (show Z ≠ G from by have := lt_laid HG_4.out; omega)
        have HBW_6 := hid (HBW_3.out.trans (hbn.mono HBW_3.out.size))
        have HG_7 := hid (keep_laid HG_4.out hbn)
        have HN_8 := hid (HN_5.out.grow hbn)
        clear HBW_3 HG_4 HN_5 hbn hsn
        have HZ_9 := hid (hln)
        clear hln
        go_wp2
        refine hR' _ _ ⟨⟨w210x, HBW_6.out⟩, rfl⟩ ?_
        clear hR' hO R'
        repeat (refine wpMix3_q rfl rfl ?_; go_big_quiet_step (fail); refine wpQuiet_nil ?_)
        obtain ⟨u1, hu1, b1, b2, b3, b4⟩ := put_mem HZ_9.out (.slice wa' M'.W.length wc') (.slice la' M'.L.length lc') (.bool M'.F)
        have z0 := cell_laid (i := 0) HZ_9.out rfl
        have zf0 := free_laid (i := 0) HZ_9.out
        have z1 := cell_laid (i := 1) HZ_9.out rfl
        have zf1 := free_laid (i := 1) HZ_9.out
        have z2 := cell_laid (i := 2) HZ_9.out rfl
        have zf2 := free_laid (i := 2) HZ_9.out
        have HU1 := hid hu1
        have HZ1 := hid b1
        have HG1 := hid (b2 _ _ (by have := HNE.out; omega) HG_7.out)
        have HB1 := hid (b3 _ _ LZ.out HBW_6.out)
        have HO1 := hid (b4 _ _ _ _ _ _ HN_8.out)
        clear hu1 b1 b2 b3 b4
        refine wpMix3_h rfl fun R' hR' hO => ?_
        go_wp2
        rw [← HU1.out]
        refine hR' _ _ ⟨⟨u1, HB1.out⟩, rfl⟩ ?_
        clear hR' hO R' z0 z1 z2 zf0 zf1 zf2
        obtain ⟨u2, hu2, b1, b2, b3, b4⟩ := put_got HG1.out (by decide) (by decide) (.int .u64 ((x : Nat) : Int)) (.bool d)
        have z0 := cell_laid (i := 0) HG1.out rfl
        have zf0 := free_laid (i := 0) HG1.out
        have z1 := cell_laid (i := 1) HG1.out rfl
        have zf1 := free_laid (i := 1) HG1.out
        have HU2 := hid hu2
        have RR : Hid (u2.heap[Z]? = some (.cells #[.slice wa' M'.W.length wc', .slice la' M'.L.length lc', .bool M'.F] 25 (0, 0)) ∧ u2.heap[G]? = some (.cells #[.int .u64 ((x : Nat) : Int), .bool d] 111 (0, 0)) ∧ MemO B wa' wc' la' lc' M' u2 ∧ Below V1.heap.size V1 u2) := hid ⟨b2 _ _ (by have := HNE.out; omega) HZ1.out, b1, b4 _ _ _ _ _ _ HO1.out, b3 _ _ LG.out HB1.out⟩
        clear hu2 b1 b2 b3 b4
        refine wpMix3_h rfl fun R' hR' hO => ?_
        go_wp2
        rw [← HU2.out]
        refine hR' _ _ ⟨⟨u2, RR.out.2.2.2⟩, rfl⟩ ?_
        clear hR' hO R' z0 z1 zf0 zf1
        repeat (refine wpMix3_q rfl rfl ?_; go_big_quiet_step (fail); refine wpQuiet_nil ?_)
        refine wpMix3_done ?_
        simp only [List.drop_succ_cons, List.drop_nil]
        go_wp2
        go_meet
        exact ⟨Z, G, wa', wc', la', lc', rfl, rfl, RR⟩
      · skip
        refine wpMix3_h rfl fun R' hR' hO => ?_
        obtain ⟨w110x, hww110x, hbn, hsn, hln⟩ := laid w011x #[.slice none 0 0, .slice none 0 0, .bool false] 25
        obtain ⟨Z, hB⟩ : ∃ X, w011x.heap.size = X := ⟨_, rfl⟩
        rw [hB] at hln
        have LZ := hid (show V1.heap.size ≤ Z from by have := (HBW_1.out).size; omega)
        have HNE := hid (show Z ≠ G from by have := lt_laid HG_2.out; omega)
        have HBW_3 := hid (HBW_1.out.trans (hbn.mono HBW_1.out.size))
        have HG_4 := hid (keep_laid HG_2.out hbn)
        clear HBW_1 HG_2 hbn hsn
        have HZ_5 := hid (hln)
        clear hln
        go_wp2
        refine hR' _ _ ⟨⟨w110x, HBW_3.out⟩, rfl⟩ ?_
        clear hR' hO R'
        repeat (refine wpMix3_q rfl rfl ?_; go_big_quiet_step (fail); refine wpQuiet_nil ?_)
        refine wpMix3_h rfl fun R' hR' hO => ?_
        go_wp2_with fail
        refine (HST.out w110x HBW_3.out).mono ?_
        rintro e w25x ⟨wa', wc', la', lc', rfl, hoo, hbn⟩
        have hsz := HBW_3.out.size
        have HBW_6 := hid (HBW_3.out.trans (hbn.mono HBW_3.out.size))
        have HG_7 := hid (keep_laid HG_4.out hbn)
        have HZ_8 := hid (keep_laid HZ_5.out hbn)
        clear HBW_3 HG_4 HZ_5 hbn
        have HN_9 : Hid (MemO B wa' wc' la' lc' M' w25x) := hid (hoo.base (by omega))
        clear hoo hsz
        unfold memV
        go_wp2
        refine hR' _ _ ⟨⟨w25x, HBW_6.out⟩, rfl⟩ ?_
        clear hR' hO R'
        repeat (refine wpMix3_q rfl rfl ?_; go_big_quiet_step (fail); refine wpQuiet_nil ?_)
        obtain ⟨u1, hu1, b1, b2, b3, b4⟩ := put_mem HZ_8.out (.slice wa' M'.W.length wc') (.slice la' M'.L.length lc') (.bool M'.F)
        have z0 := cell_laid (i := 0) HZ_8.out rfl
        have zf0 := free_laid (i := 0) HZ_8.out
        have z1 := cell_laid (i := 1) HZ_8.out rfl
        have zf1 := free_laid (i := 1) HZ_8.out
        have z2 := cell_laid (i := 2) HZ_8.out rfl
        have zf2 := free_laid (i := 2) HZ_8.out
        have HU1 := hid hu1
        have HZ1 := hid b1
        have HG1 := hid (b2 _ _ (by have := HNE.out; omega) HG_7.out)
        have HB1 := hid (b3 _ _ LZ.out HBW_6.out)
        have HO1 := hid (b4 _ _ _ _ _ _ HN_9.out)
        clear hu1 b1 b2 b3 b4
        refine wpMix3_h rfl fun R' hR' hO => ?_
        go_wp2
        rw [← HU1.out]
        refine hR' _ _ ⟨⟨u1, HB1.out⟩, rfl⟩ ?_
        clear hR' hO R' z0 z1 z2 zf0 zf1 zf2
        obtain ⟨u2, hu2, b1, b2, b3, b4⟩ := put_got HG1.out (by decide) (by decide) (.int .u64 ((x : Nat) : Int)) (.bool d)
        have z0 := cell_laid (i := 0) HG1.out rfl
        have zf0 := free_laid (i := 0) HG1.out
        have z1 := cell_laid (i := 1) HG1.out rfl
        have zf1 := free_laid (i := 1) HG1.out
        have HU2 := hid hu2
        have RR : Hid (u2.heap[Z]? = some (.cells #[.slice wa' M'.W.length wc', .slice la' M'.L.length lc', .bool M'.F] 25 (0, 0)) ∧ u2.heap[G]? = some (.cells #[.int .u64 ((x : Nat) : Int), .bool d] 111 (0, 0)) ∧ MemO B wa' wc' la' lc' M' u2 ∧ Below V1.heap.size V1 u2) := hid ⟨b2 _ _ (by have := HNE.out; omega) HZ1.out, b1, b4 _ _ _ _ _ _ HO1.out, b3 _ _ LG.out HB1.out⟩
        clear hu2 b1 b2 b3 b4
        refine wpMix3_h rfl fun R' hR' hO => ?_
        go_wp2
        rw [← HU2.out]
        refine hR' _ _ ⟨⟨u2, RR.out.2.2.2⟩, rfl⟩ ?_
        clear hR' hO R' z0 z1 zf0 zf1
        repeat (refine wpMix3_q rfl rfl ?_; go_big_quiet_step (fail); refine wpQuiet_nil ?_)
        refine wpMix3_done ?_
        simp only [List.drop_succ_cons, List.drop_nil]
        go_wp2
        go_meet
        exact ⟨Z, G, wa', wc', la', lc', rfl, rfl, RR⟩
  case rest =>
    obtain ⟨Z, G, wa', wc', la', lc', rfl, rfl, hcc⟩ := hcut
    obtain ⟨w1, hw1⟩ : ∃ W, W = wc := ⟨_, rfl⟩
    subst hw1
    have HZ := hid hcc.out.1
    have HG := hid hcc.out.2.1
    have HN := hid hcc.out.2.2.1
    have HBW := hid hcc.out.2.2.2
    have HRR := hid (keep_laid HR.out HBW.out)
    have HSR := hid (keep_laid HSS.out HBW.out)
    have HT := hid (Tch.of_below (P := fun k => k = R ∨ k = S) HBW.out)
    have HGl := hid (HGL.out.grow HBW.out)
    clear hcc r0 r1 r2 s1 HST HO HR HSS HBW HGL
    have nGR : G ≠ R := Ne.symm (type_ne HRR.out HG.out (by decide))
    have hRS : R ≠ S := type_ne HRR.out HSR.out (by decide)
    have hSR : S ≠ R := Ne.symm hRS
    have hwl' := HN.out.memL.w.len
    have hll' := HN.out.memL.l.len
    obtain ⟨z0, z1, z2⟩ := cells3 HZ.out
    clear HZ
    cases d with
    | false =>
      cases hs : saysW x with
      | none =>
        have eX : X = (M', ⟨3, root, key, array, many, s⟩, true) := by
          rw [← HE.out]
          unfold lookE
          dsimp only
          rw [if_pos rfl, HMI.out, HX.out]
          dsimp only
          rw [if_neg (by decide)]
        subst eX
        have HSY : Hid (∀ W, Glob W → Calls Tryz.prog 79 #[.int .u64 ((x : Nat) : Int)] W (Ret (.tuple #[.int .u64 0, .int .i64 0, .int .i64 290]) W)) := hid fun W hg => by
          have := Says_any x W hx hg
          rw [hs] at this
          unfold saysV at this
          exact this
        clear hs hx HE HX HMI
        go_wp2_with (refine wp_storeP rfl 25 (.tmp 38) (.tmp 36) rfl R 0 _ #[.slice wa' M'.W.length wc', .slice la' M'.L.length lc', .bool M'.F, .int .i64 ((n : Nat) : Int)] _ rfl rfl _ HRR.out (by kernel_rfl) (Nat.le_of_ble_eq_true rfl) (by kernel_rfl) rfl ?_; intro w2 a1 a2 a3 a4; have KR2 := hid a1; have KS2 := hid (a2 S _ hSR HSR.out); have KG2 := hid (a2 G _ nGR HG.out); have HN2 : Hid (MemO B wa' wc' la' lc' M' w2) := hid ⟨own_keep HN.out.w fun j o hj ho => a2 j o (fun e => own_neP HN.out.w HRR.out (by decide) (by rw [← e]; exact hj)) ho, own_keep HN.out.l fun j o hj ho => a2 j o (fun e => own_neP HN.out.l HRR.out (by decide) (by rw [← e]; exact hj)) ho⟩; have HT2 := hid (HT.out.trans ⟨a4.os, a4.tape, a4.output, a4.size, fun k hk hne => a4.block k hk (fun e => hne (.inl (Option.some.inj e)))⟩); have HGl2 := hid (HGl.out.keepR hR0 a4.size a2); have g0 := cell_laid (i := 0) KG2.out rfl; have g1 := cell_laid (i := 1) KG2.out rfl; clear a1 a2 a3 a4)
        refine (HSY.out w2 HGl2.out).mono ?_
        rintro e w3 ⟨rfl, hb3⟩
        have KR3 := hid (keep_laid KR2.out hb3)
        have KS3 := hid (keep_laid KS2.out hb3)
        have KG3 := hid (keep_laid KG2.out hb3)
        have HN3 := hid (HN2.out.grow hb3)
        have HT3 := hid (HT2.out.trans (Tch.of_below hb3))
        clear g0 g1
        have g0 := cell_laid (i := 0) KG3.out rfl
        have g1 := cell_laid (i := 1) KG3.out rfl
        clear hb3 z0 z1 z2 HRR HSR HG HN HT HGl HSY KR2 KS2 KG2 HN2 HT2 HGl2
        have c0 := cell_laid (i := 0) KS3.out rfl
        have f0 := free_laid (i := 0) KS3.out
        have k8 := set_laid (i := 0) KS3.out (.int .i64 3)
        have kR8 := other_laid (i := 0) KR3.out hRS (.int .i64 3)
        have HN8 := HN3.out.set (i := 0) KS3.out (by decide) (by decide) (.int .i64 3)
        have HT8 := HT3.out.trans (Tch.set (P := fun k => k = R ∨ k = S) (b := S) (i := 0) (.inr rfl) (.int .i64 3))
        have q3 := cell_laid (i := 3) kR8 rfl
        have f3 := free_laid (i := 3) kR8
        have KR9 := hid (set_laid (i := 3) kR8 (.int .i64 ((n + 1 : Nat) : Int)))
        have KS9 := hid (other_laid (i := 3) k8 hSR (.int .i64 ((n + 1 : Nat) : Int)))
        have HN9 := hid (HN8.set (i := 3) kR8 (by decide) (by decide) (.int .i64 ((n + 1 : Nat) : Int)))
        have HT9 := hid (HT8.trans (Tch.set (P := fun k => k = R ∨ k = S) (b := R) (i := 3) (.inl rfl) (.int .i64 ((n + 1 : Nat) : Int))))
        clear k8 kR8 HN8 HT8
        go_wp2
        go_ret
        exact ⟨rfl, ⟨wa', wc', la', lc', KR9.out, HN9.out⟩, KS9.out, HT9.out⟩
      | some ad =>
        obtain ⟨a, dd⟩ := ad
        obtain ⟨hd2, hd4, ha⟩ := saysW_some hs
        obtain ⟨hdep, hp4, hp16⟩ := pow_dep hd2 hd4
        have hb := ofN_lt (key := key) (show dd ≤ 64 by omega)
        obtain ⟨b, hbb⟩ : ∃ b, ofN key dd = b := ⟨_, rfl⟩
        obtain ⟨p, hp⟩ : ∃ p, 2 ^ dd = p := ⟨_, rfl⟩
        rw [hbb, hp] at hb
        rw [hp] at hdep hp4 hp16
        have eX : X = (M', ⟨3, root, key, array, many, s⟩, true) := by
          rw [← HE.out]
          unfold lookE
          dsimp only
          rw [if_pos rfl, HMI.out, HX.out]
          dsimp only
          rw [if_neg (by decide)]
        subst eX
        have HSY : Hid (∀ W, Glob W → Calls Tryz.prog 79 #[.int .u64 ((x : Nat) : Int)] W (Ret (.tuple #[.int .u64 ((a : Nat) : Int), .int .i64 ((p : Nat) : Int), .int .i64 0]) W)) := hid fun W hg => by
          have := Says_any x W hx hg
          rw [hs] at this
          unfold saysV at this
          dsimp only at this; rw [hp] at this; exact this
        have HOF : Hid (∀ W, Calls Tryz.prog 80 #[.int .u64 ((key : Nat) : Int), .int .i64 ((p : Nat) : Int)] W (Ret (.tuple #[.int .i64 ((b : Nat) : Int), .int .i64 0]) W)) := hid fun W => by
          have := Of_some key ((p : Nat) : Int) dd W (by omega) hdep
          rw [hbb] at this
          exact this
        clear hs hx HE HX HMI hdep hp hbb
        go_wp2_with (refine wp_storeP rfl 25 (.tmp 38) (.tmp 36) rfl R 0 _ #[.slice wa' M'.W.length wc', .slice la' M'.L.length lc', .bool M'.F, .int .i64 ((n : Nat) : Int)] _ rfl rfl _ HRR.out (by kernel_rfl) (Nat.le_of_ble_eq_true rfl) (by kernel_rfl) rfl ?_; intro w2 a1 a2 a3 a4; have KR2 := hid a1; have KS2 := hid (a2 S _ hSR HSR.out); have KG2 := hid (a2 G _ nGR HG.out); have HN2 : Hid (MemO B wa' wc' la' lc' M' w2) := hid ⟨own_keep HN.out.w fun j o hj ho => a2 j o (fun e => own_neP HN.out.w HRR.out (by decide) (by rw [← e]; exact hj)) ho, own_keep HN.out.l fun j o hj ho => a2 j o (fun e => own_neP HN.out.l HRR.out (by decide) (by rw [← e]; exact hj)) ho⟩; have HT2 := hid (HT.out.trans ⟨a4.os, a4.tape, a4.output, a4.size, fun k hk hne => a4.block k hk (fun e => hne (.inl (Option.some.inj e)))⟩); have HGl2 := hid (HGl.out.keepR hR0 a4.size a2); have g0 := cell_laid (i := 0) KG2.out rfl; have g1 := cell_laid (i := 1) KG2.out rfl; clear a1 a2 a3 a4)
        refine (HSY.out w2 HGl2.out).mono ?_
        rintro e w3 ⟨rfl, hb3⟩
        have KR3 := hid (keep_laid KR2.out hb3)
        have KS3 := hid (keep_laid KS2.out hb3)
        have KG3 := hid (keep_laid KG2.out hb3)
        have HN3 := hid (HN2.out.grow hb3)
        have HT3 := hid (HT2.out.trans (Tch.of_below hb3))
        clear g0 g1
        have g0 := cell_laid (i := 0) KG3.out rfl
        have g1 := cell_laid (i := 1) KG3.out rfl
        clear hb3 z0 z1 z2 HRR HSR HG HN HT HGl HSY KR2 KS2 KG2 HN2 HT2 HGl2
        have c0 := cell_laid (i := 0) KS3.out rfl
        have f0 := free_laid (i := 0) KS3.out
        have k8 := set_laid (i := 0) KS3.out (.int .i64 3)
        have kR8 := other_laid (i := 0) KR3.out hRS (.int .i64 3)
        have HN8 := HN3.out.set (i := 0) KS3.out (by decide) (by decide) (.int .i64 3)
        have HT8 := HT3.out.trans (Tch.set (P := fun k => k = R ∨ k = S) (b := S) (i := 0) (.inr rfl) (.int .i64 3))
        have q3 := cell_laid (i := 3) kR8 rfl
        have f3 := free_laid (i := 3) kR8
        have KR9 := hid (set_laid (i := 3) kR8 (.int .i64 ((n + 1 : Nat) : Int)))
        have KS9 := hid (other_laid (i := 3) k8 hSR (.int .i64 ((n + 1 : Nat) : Int)))
        have HN9 := hid (HN8.set (i := 3) kR8 (by decide) (by decide) (.int .i64 ((n + 1 : Nat) : Int)))
        have HT9 := hid (HT8.trans (Tch.set (P := fun k => k = R ∨ k = S) (b := R) (i := 3) (.inl rfl) (.int .i64 ((n + 1 : Nat) : Int))))
        clear k8 kR8 HN8 HT8
        go_wp2
        go_ret
        exact ⟨rfl, ⟨wa', wc', la', lc', KR9.out, HN9.out⟩, KS9.out, HT9.out⟩
    | true =>
      cases hs : saysW x with
      | none =>
        have eX : X = (M', ⟨3, root, key, array, many, s⟩, true) := by
          rw [← HE.out]
          unfold lookE
          dsimp only
          rw [if_pos rfl, HMI.out, HX.out]
          dsimp only
          rw [if_pos rfl, hs]
        subst eX
        have HSY : Hid (∀ W, Glob W → Calls Tryz.prog 79 #[.int .u64 ((x : Nat) : Int)] W (Ret (.tuple #[.int .u64 0, .int .i64 0, .int .i64 290]) W)) := hid fun W hg => by
          have := Says_any x W hx hg
          rw [hs] at this
          unfold saysV at this
          exact this
        clear hs hx HE HX HMI
        go_wp2_with (refine wp_storeP rfl 25 (.tmp 38) (.tmp 36) rfl R 0 _ #[.slice wa' M'.W.length wc', .slice la' M'.L.length lc', .bool M'.F, .int .i64 ((n : Nat) : Int)] _ rfl rfl _ HRR.out (by kernel_rfl) (Nat.le_of_ble_eq_true rfl) (by kernel_rfl) rfl ?_; intro w2 a1 a2 a3 a4; have KR2 := hid a1; have KS2 := hid (a2 S _ hSR HSR.out); have KG2 := hid (a2 G _ nGR HG.out); have HN2 : Hid (MemO B wa' wc' la' lc' M' w2) := hid ⟨own_keep HN.out.w fun j o hj ho => a2 j o (fun e => own_neP HN.out.w HRR.out (by decide) (by rw [← e]; exact hj)) ho, own_keep HN.out.l fun j o hj ho => a2 j o (fun e => own_neP HN.out.l HRR.out (by decide) (by rw [← e]; exact hj)) ho⟩; have HT2 := hid (HT.out.trans ⟨a4.os, a4.tape, a4.output, a4.size, fun k hk hne => a4.block k hk (fun e => hne (.inl (Option.some.inj e)))⟩); have HGl2 := hid (HGl.out.keepR hR0 a4.size a2); have g0 := cell_laid (i := 0) KG2.out rfl; have g1 := cell_laid (i := 1) KG2.out rfl; clear a1 a2 a3 a4)
        refine (HSY.out w2 HGl2.out).mono ?_
        rintro e w3 ⟨rfl, hb3⟩
        have KR3 := hid (keep_laid KR2.out hb3)
        have KS3 := hid (keep_laid KS2.out hb3)
        have KG3 := hid (keep_laid KG2.out hb3)
        have HN3 := hid (HN2.out.grow hb3)
        have HT3 := hid (HT2.out.trans (Tch.of_below hb3))
        clear g0 g1
        have g0 := cell_laid (i := 0) KG3.out rfl
        have g1 := cell_laid (i := 1) KG3.out rfl
        clear hb3 z0 z1 z2 HRR HSR HG HN HT HGl HSY KR2 KS2 KG2 HN2 HT2 HGl2
        have c0 := cell_laid (i := 0) KS3.out rfl
        have f0 := free_laid (i := 0) KS3.out
        have k8 := set_laid (i := 0) KS3.out (.int .i64 3)
        have kR8 := other_laid (i := 0) KR3.out hRS (.int .i64 3)
        have HN8 := HN3.out.set (i := 0) KS3.out (by decide) (by decide) (.int .i64 3)
        have HT8 := HT3.out.trans (Tch.set (P := fun k => k = R ∨ k = S) (b := S) (i := 0) (.inr rfl) (.int .i64 3))
        have q3 := cell_laid (i := 3) kR8 rfl
        have f3 := free_laid (i := 3) kR8
        have KR9 := hid (set_laid (i := 3) kR8 (.int .i64 ((n + 1 : Nat) : Int)))
        have KS9 := hid (other_laid (i := 3) k8 hSR (.int .i64 ((n + 1 : Nat) : Int)))
        have HN9 := hid (HN8.set (i := 3) kR8 (by decide) (by decide) (.int .i64 ((n + 1 : Nat) : Int)))
        have HT9 := hid (HT8.trans (Tch.set (P := fun k => k = R ∨ k = S) (b := R) (i := 3) (.inl rfl) (.int .i64 ((n + 1 : Nat) : Int))))
        clear k8 kR8 HN8 HT8
        go_wp2
        go_ret
        exact ⟨rfl, ⟨wa', wc', la', lc', KR9.out, HN9.out⟩, KS9.out, HT9.out⟩
      | some ad =>
        obtain ⟨a, dd⟩ := ad
        obtain ⟨hd2, hd4, ha⟩ := saysW_some hs
        obtain ⟨hdep, hp4, hp16⟩ := pow_dep hd2 hd4
        have hb := ofN_lt (key := key) (show dd ≤ 64 by omega)
        obtain ⟨b, hbb⟩ : ∃ b, ofN key dd = b := ⟨_, rfl⟩
        obtain ⟨p, hp⟩ : ∃ p, 2 ^ dd = p := ⟨_, rfl⟩
        rw [hbb, hp] at hb
        rw [hp] at hdep hp4 hp16
        have eX : X = (M', ⟨1, root, key, a, ((p : Nat) : Int), seekK (a + b) (hashN key) key⟩, true) := by
          rw [← HE.out]
          unfold lookE
          dsimp only
          rw [if_pos rfl, HMI.out, HX.out]
          dsimp only
          rw [if_pos rfl, hs]
          dsimp only
          rw [hbb, hp]
        subst eX
        have HSY : Hid (∀ W, Glob W → Calls Tryz.prog 79 #[.int .u64 ((x : Nat) : Int)] W (Ret (.tuple #[.int .u64 ((a : Nat) : Int), .int .i64 ((p : Nat) : Int), .int .i64 0]) W)) := hid fun W hg => by
          have := Says_any x W hx hg
          rw [hs] at this
          unfold saysV at this
          dsimp only at this; rw [hp] at this; exact this
        have HOF : Hid (∀ W, Calls Tryz.prog 80 #[.int .u64 ((key : Nat) : Int), .int .i64 ((p : Nat) : Int)] W (Ret (.tuple #[.int .i64 ((b : Nat) : Int), .int .i64 0]) W)) := hid fun W => by
          have := Of_some key ((p : Nat) : Int) dd W (by omega) hdep
          rw [hbb] at this
          exact this
        clear hs hx HE HX HMI hdep hp hbb
        go_wp2_with (refine wp_storeP rfl 25 (.tmp 38) (.tmp 36) rfl R 0 _ #[.slice wa' M'.W.length wc', .slice la' M'.L.length lc', .bool M'.F, .int .i64 ((n : Nat) : Int)] _ rfl rfl _ HRR.out (by kernel_rfl) (Nat.le_of_ble_eq_true rfl) (by kernel_rfl) rfl ?_; intro w2 a1 a2 a3 a4; have KR2 := hid a1; have KS2 := hid (a2 S _ hSR HSR.out); have KG2 := hid (a2 G _ nGR HG.out); have HN2 : Hid (MemO B wa' wc' la' lc' M' w2) := hid ⟨own_keep HN.out.w fun j o hj ho => a2 j o (fun e => own_neP HN.out.w HRR.out (by decide) (by rw [← e]; exact hj)) ho, own_keep HN.out.l fun j o hj ho => a2 j o (fun e => own_neP HN.out.l HRR.out (by decide) (by rw [← e]; exact hj)) ho⟩; have HT2 := hid (HT.out.trans ⟨a4.os, a4.tape, a4.output, a4.size, fun k hk hne => a4.block k hk (fun e => hne (.inl (Option.some.inj e)))⟩); have HGl2 := hid (HGl.out.keepR hR0 a4.size a2); have g0 := cell_laid (i := 0) KG2.out rfl; have g1 := cell_laid (i := 1) KG2.out rfl; clear a1 a2 a3 a4)
        refine (HSY.out w2 HGl2.out).mono ?_
        rintro e w3 ⟨rfl, hb3⟩
        have KR3 := hid (keep_laid KR2.out hb3)
        have KS3 := hid (keep_laid KS2.out hb3)
        have KG3 := hid (keep_laid KG2.out hb3)
        have HN3 := hid (HN2.out.grow hb3)
        have HT3 := hid (HT2.out.trans (Tch.of_below hb3))
        clear g0 g1
        have g0 := cell_laid (i := 0) KG3.out rfl
        have g1 := cell_laid (i := 1) KG3.out rfl
        clear hb3 z0 z1 z2 HRR HSR HG HN HT HGl HSY KR2 KS2 KG2 HN2 HT2 HGl2
        have s2 := cell_laid (i := 2) KS3.out rfl
        go_wp2_with fail
        refine (HOF.out w3).mono ?_
        rintro e w4 ⟨rfl, hb4⟩
        have KR4 := hid (keep_laid KR3.out hb4)
        have KS4 := hid (keep_laid KS3.out hb4)
        have HN4 := hid (HN3.out.grow hb4)
        have HT4 := hid (HT3.out.trans (Tch.of_below hb4))
        clear hb4 g0 g1 s2 HOF KR3 KS3 KG3 HN3 HT3
        have c0 := cell_laid (i := 0) KS4.out rfl
        have f0 := free_laid (i := 0) KS4.out
        have c3 := cell_laid (i := 3) KS4.out rfl
        have f3 := free_laid (i := 3) KS4.out
        have c4 := cell_laid (i := 4) KS4.out rfl
        have f4 := free_laid (i := 4) KS4.out
        have kR0 := other_laid (i := 0) KR4.out hRS (.int .i64 1)
        have hn0 := HN4.out.set (i := 0) KS4.out (by decide) (by decide) (.int .i64 1)
        have ht0 := HT4.out.trans (Tch.set (P := fun k => k = R ∨ k = S) (b := S) (i := 0) (.inr rfl) (.int .i64 1))
        have kS0 := set_laid (i := 0) KS4.out (.int .i64 1)
        have kR1 := other_laid (i := 3) kR0 hRS (.int .u64 ((a : Nat) : Int))
        have hn1 := hn0.set (i := 3) kS0 (by decide) (by decide) (.int .u64 ((a : Nat) : Int))
        have ht1 := ht0.trans (Tch.set (P := fun k => k = R ∨ k = S) (b := S) (i := 3) (.inr rfl) (.int .u64 ((a : Nat) : Int)))
        have kS1 := set_laid (i := 3) kS0 (.int .u64 ((a : Nat) : Int))
        have kR2 := other_laid (i := 4) kR1 hRS (.int .i64 ((p : Nat) : Int))
        have hn2 := hn1.set (i := 4) kS1 (by decide) (by decide) (.int .i64 ((p : Nat) : Int))
        have ht2 := ht1.trans (Tch.set (P := fun k => k = R ∨ k = S) (b := S) (i := 4) (.inr rfl) (.int .i64 ((p : Nat) : Int)))
        have kS2 := set_laid (i := 4) kS1 (.int .i64 ((p : Nat) : Int))
        obtain ⟨w5, hw5⟩ : ∃ W, (((w4.setCell ⟨S, 0, none⟩ (.int .i64 1)).setCell ⟨S, 3, none⟩ (.int .u64 ((a : Nat) : Int))).setCell ⟨S, 4, none⟩ (.int .i64 ((p : Nat) : Int))) = W := ⟨_, rfl⟩
        rw [hw5] at kR2 kS2 hn2 ht2
        have KR5 := hid kR2
        have KS5 : Hid (w5.heap[S]? = some (.cells (lk12 ⟨1, root, key, a, ((p : Nat) : Int), s⟩) 43 (0, 0))) := hid kS2
        have HN5 := hid hn2
        have HT5 := hid ht2
        have HW5 := hid hw5
        clear kR0 kR1 kR2 kS0 kS1 kS2 hn0 hn1 hn2 ht0 ht1 ht2 hw5 KR4 KS4 HN4 HT4
        go_upto_region 11 with (fail)
        rw [HW5.out]
        clear c0 c3 c4 f0 f3 f4 HW5
        obtain ⟨D, hD⟩ : ∃ DX, w5.drew = DX := ⟨_, rfl⟩
        have hbD : Below w5.heap.size w5 D := by rw [← hD]; exact (Below.refl _ _).drew
        have HD := hid hD
        have KRD := hid (keep_laid KR5.out hbD)
        have KSD := hid (keep_laid KS5.out hbD)
        have HND := hid (HN5.out.grow hbD)
        have HTD := hid (HT5.out.trans (Tch.of_below hbD))
        clear hD hbD KR5 KS5 HN5 HT5
        haveI : Nonempty (RLk R S #[.slice wa' M'.W.length wc', .slice la' M'.L.length lc', .bool M'.F, .int .i64 ((n : Nat) : Int)] (lk12 ⟨1, root, key, a, ((p : Nat) : Int), s⟩)) := ⟨⟨D, KRD.out, KSD.out⟩⟩
        have r2 : ∀ z : RLk R S #[.slice wa' M'.W.length wc', .slice la' M'.L.length lc', .bool M'.F, .int .i64 ((n : Nat) : Int)] (lk12 ⟨1, root, key, a, ((p : Nat) : Int), s⟩), z.w.cell? ⟨S, 2, none⟩ = some (.int .u64 ((key : Nat) : Int)) := fun z => cell_laid (i := 2) z.bs rfl
        obtain ⟨t, ht⟩ : ∃ t, a + b = t := ⟨_, rfl⟩
        have hsi : IntKind.u64.wrap (((a : Nat) : Int) + ((b : Nat) : Int)) = ((t : Nat) : Int) := by rw [IntKind.wrap_u64]; omega
        have hsc : IntKind.u64.wrap ((b : Nat) : Int) = ((b : Nat) : Int) := by rw [IntKind.wrap_u64]; omega
        have HTT := hid ht
        rw [ht]
        clear ht
        refine wp_region_turn (fun W => ∃ z : RLk R S #[.slice wa' M'.W.length wc', .slice la' M'.L.length lc', .bool M'.F, .int .i64 ((n : Nat) : Int)] (lk12 ⟨1, root, key, a, ((p : Nat) : Int), s⟩), W = z.w) 17 (.p 0 (.p 1 (.p 2 (.p 3 (.p 4 (.p 5 (.p 6 (.p 7 (.q 8 (.p 10 (.p 11 (.p 12 (.q 13 (.h 9 (.h 14 (.p 15 (.p 16 (.h 17 (.done))))))))))))))))))) (by kernel_rfl) (by kernel_rfl) (by rw [HD.out]; exact ⟨⟨D, KRD.out, KSD.out⟩, rfl⟩) ?_
        rw [HD.out]
        iterate 8 (refine wpTurn_p rfl rfl ?_; go_big_quiet_step (fail); refine wpQuiet_nil ?_)
        (refine wpTurn_q rfl rfl ?_; go_big_quiet_step (fail); refine wpQuiet_nil ?_)
        iterate 3 (refine wpTurn_p rfl rfl ?_; go_big_quiet_step (fail); refine wpQuiet_nil ?_)
        (refine wpTurn_q rfl rfl ?_; go_big_quiet_step (fail); refine wpQuiet_nil ?_)
        refine wpTurn_h rfl rfl fun R' hR' hO => ?_
        go_wp2_with fail
        refine (Hash_any key D).mono ?_
        rintro e w6 ⟨rfl, hb6⟩
        have KR6 := hid (keep_laid KRD.out hb6)
        have KS6 := hid (keep_laid KSD.out hb6)
        have HN6 := hid (HND.out.grow hb6)
        have HT6 := hid (HTD.out.trans (Tch.of_below hb6))
        clear hb6
        go_wp2
        refine hR' _ _ ⟨⟨w6, KR6.out, KS6.out⟩, rfl⟩ ?_
        clear hR' hO R'
        refine wpTurn_h rfl rfl fun R' hR' hO => ?_
        go_wp2_with fail
        refine (Seek_any t (hashN key) key w6).mono ?_
        rintro e w7 ⟨rfl, hb7⟩
        have KR7 := hid (keep_laid KR6.out hb7)
        have KS7 := hid (keep_laid KS6.out hb7)
        have HN7 := hid (HN6.out.grow hb7)
        have HT7 := hid (HT6.out.trans (Tch.of_below hb7))
        clear hb7
        unfold skV seekK
        go_wp2
        refine hR' _ _ ⟨⟨w7, KR7.out, KS7.out⟩, rfl⟩ ?_
        clear hR' hO R'
        iterate 2 (refine wpTurn_p rfl rfl ?_; go_big_quiet_step (fail); refine wpQuiet_nil ?_)
        refine wpTurn_m rfl fun R' hR' hO => ?_
        go_wp2_with (refine wp_storeP rfl 41 (.tmp 92) (.tmp 90) rfl S 5 _ (lk12 ⟨1, root, key, a, ((p : Nat) : Int), seekK t (hashN key) key⟩) _ rfl rfl _ KS7.out (by kernel_rfl) (Nat.le_of_ble_eq_true rfl) (by kernel_rfl) rfl ?_; intro w8 a1 a2 a3 a4; have KS8 := hid a1; have KR8 := hid (a2 R _ hRS KR7.out); have HN8 : Hid (MemO B wa' wc' la' lc' M' w8) := hid ⟨own_keep HN7.out.w fun j o hj ho => a2 j o (fun e => own_neP HN7.out.w KS7.out (by decide) (by rw [← e]; exact hj)) ho, own_keep HN7.out.l fun j o hj ho => a2 j o (fun e => own_neP HN7.out.l KS7.out (by decide) (by rw [← e]; exact hj)) ho⟩; have HT8 := hid (HT7.out.trans ⟨a4.os, a4.tape, a4.output, a4.size, fun k hk hne => a4.block k hk (fun e => hne (.inr (Option.some.inj e)))⟩); clear a1 a2 a3 a4)
        refine hR' _ _ ?_
        clear hR' hO R'
        refine wpTurn_done ?_
        clear r2 HD KRD KSD HND HTD KR6 KS6 HN6 HT6 KR7 KS7 HN7 HT7 hsi hsc
        have q3 := cell_laid (i := 3) KR8.out rfl
        have f3 := free_laid (i := 3) KR8.out
        have KR9 := hid (set_laid (i := 3) KR8.out (.int .i64 ((n + 1 : Nat) : Int)))
        have KS9 := hid (other_laid (i := 3) KS8.out hSR (.int .i64 ((n + 1 : Nat) : Int)))
        have HN9 := hid (HN8.out.set (i := 3) KR8.out (by decide) (by decide) (.int .i64 ((n + 1 : Nat) : Int)))
        have HT9 := hid (HT8.out.trans (Tch.set (P := fun k => k = R ∨ k = S) (b := R) (i := 3) (.inl rfl) (.int .i64 ((n + 1 : Nat) : Int))))
        go_wp2
        go_ret
        exact ⟨rfl, ⟨wa', wc', la', lc', KR9.out, HN9.out⟩, by have := KS9.out; rw [← HTT.out] at this; exact this, HT9.out⟩
end Go.Proofs.YtahicokokfcieaaGreatDoor
namespace Go.Proofs.YtahicokokfcieaaGreatDoor
open Go.RowKit
open Go.Proofs
set_option linter.unusedVariables false
attribute [local go_sem] Oper.semAt_some
structure Lk.Ok (l : Lk) : Prop where
  ph : -9223372036854775808 ≤ l.ph ∧ l.ph ≤ 9223372036854775807
  root : l.root < 18446744073709551616
  key : l.key < 18446744073709551616
  array : l.array < 18446744073709551616
  many : -9223372036854775808 ≤ l.many ∧ l.many ≤ 9223372036854775807
  s : l.s.Ok
theorem look_any (B R S n : Nat) (M : Mem) (l : Lk) (V1 : World) (h : RunT B R M n V1) (hS : V1.heap[S]? = some (.cells (lk12 l) 43 (0, 0))) (hB : B ≤ V1.heap.size) (hok : okM M = true) (hg : Glob V1) (hW : ∀ x ∈ M.W, x < 18446744073709551616) (hl : l.Ok) (hR0 : R ≠ 0) (hn : n ≤ 1000000) :
    Calls Tryz.prog 55 #[.pointer (some ⟨R, 0, none⟩), .pointer (some ⟨S, 0, none⟩)] V1 (GivesLook B R S n (lookE M l) V1) := by
  by_cases h0 : l.ph = 0
  · exact look_root B R S n M l V1 h hS hB hok hl.root hg hW hl.key hR0 h0 hn
  · by_cases h1 : l.ph = 1
    · exact look_seek B R S n M l V1 h hS hB hl.s h1 hn
    · exact look_no B R S n M l V1 h hS h0 h1
def chkE (l : Lk) : Bool := if l.ph = 1 then decide (0 ≤ l.s.ph) && decide (l.s.ph < 4) else decide (0 ≤ l.ph) && decide (l.ph ≤ 3)
theorem RunT.base {B B' R : Nat} {M : Mem} {n : Nat} {V : World} (h : RunT B R M n V) (hb : B' ≤ B) : RunT B' R M n V := let ⟨wa, wc, la, lc, k, o⟩ := h; ⟨wa, wc, la, lc, k, o.base hb⟩
theorem memO_zero (B : Nat) (W : World) : MemO B none 0 none 0 zeroM W := ⟨World.ownsRow_nil _ _ _ _, World.ownsRow_nil _ _ _ _⟩
end Go.Proofs.YtahicokokfcieaaGreatDoor
