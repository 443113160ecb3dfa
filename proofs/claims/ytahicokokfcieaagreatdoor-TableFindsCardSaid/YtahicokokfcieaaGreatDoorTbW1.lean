/- Tables (printed by gen_tbw1.py): the layer wakes. -/
import Derived.Test.YtahicokokfcieaaGreatDoorTgAx
namespace Go.Proofs.YtahicokokfcieaaGreatDoor
open Go.RowKit
open Go.Proofs
set_option linter.unusedVariables false
attribute [local go_sem] Oper.semAt_some
theorem own_neT {w : World} {base n size b : Nat} {e e' : TypeId} {v : Value} {xs : List Value} {cs : Array Value} (h : w.ownsRow base e size v n xs) (hb : w.heap[b]? = some (.cells cs e' (0, 0))) (hne : e ≠ e') (k : Nat) (hk : v.ownBlock = some k) : k ≠ b := by
  obtain ⟨c, hc⟩ := own_type h k hk
  exact type_ne hc hb hne
theorem own_base_le {W : World} {base size n b cap : Nat} {e : TypeId} {xs : List Value} (h : W.ownsRow base e size (.slice (some ⟨b, 0, none⟩) n cap) n xs) : base ≤ b := by
  obtain ⟨hl, ⟨h0, -⟩ | ⟨g, cap', cur', hv', hg, hh, r1, r2, r3, r4⟩⟩ := h
  · cases h0
  · cases hv'; exact hg
abbrev mV (wa : Option Addr) (wc : Nat) (la : Option Addr) (lc : Nat) (M : Mem) : Value := .agg #[.slice wa M.W.length wc, .slice la M.L.length lc, .bool M.F]
def GM (M : Mem) (r : List Value) (W : World) (e : Ending) (W' : World) : Prop := ∃ wa wc la lc, e = .returned (.tuple (#[mV wa wc la lc M] ++ r.toArray)) ∧ MemO W.heap.size wa wc la lc M W' ∧ Below W.heap.size W W'
def AtM (M : Mem) (g : Nat) (args : List Value) (Q : World → Ending → World → Prop) : Prop := ∀ (W : World) (wa : Option Addr) (wc : Nat) (la : Option Addr) (lc : Nat), MemL W wa wc la lc M → Glob W → Calls Tryz.prog g (#[mV wa wc la lc M] ++ args.toArray) W (Q W)
theorem k_lay : AtM kt0 19 [.int .u64 0, .int .u64 4, .int .i64 4] (GM kt1 [.int .i64 0]) := fun W wa wc la lc h hg => by
  have := TLay_any kt0 0 4 4 wa la wc lc W h hg kt0_w (by decide) (by decide) (by decide)
  rw [klay] at this
  exact this
theorem k_ins1 : AtM kt1 15 [.int .u64 0, .int .u64 8, .int .u64 1, .int .u64 10] (GM kt2 [.int .i64 7, .int .i64 0]) := fun W wa wc la lc h hg => by
  have := TInsert_any kt1 0 8 1 10 wa la wc lc W h hg kt1_w (by decide) (by decide) (by decide) (by decide)
  rw [kins1] at this
  exact this
theorem k_ins2 : AtM kt2 15 [.int .u64 0, .int .u64 12, .int .u64 3, .int .u64 30] (GM kt3 [.int .i64 7, .int .i64 0]) := fun W wa wc la lc h hg => by
  have := TInsert_any kt2 0 12 3 30 wa la wc lc W h hg kt2_w (by decide) (by decide) (by decide) (by decide)
  rw [kins2] at this
  exact this
theorem k_ins3 : AtM kt3 15 [.int .u64 0, .int .u64 16, .int .u64 1, .int .u64 11] (GM zeroM [.int .i64 0, .int .i64 5]) := fun W wa wc la lc h hg => by
  have := TInsert_any kt3 0 16 1 11 wa la wc lc W h hg kt3_w (by decide) (by decide) (by decide) (by decide)
  rw [kins3] at this
  exact this
theorem k_rem : AtM kt3 16 [.int .u64 0, .int .u64 1] (GM kt4 [.int .u64 8, .int .i64 0]) := fun W wa wc la lc h hg => by
  have := TRemove_any kt3 0 1 wa la wc lc W h hg kt3_w (by decide) (by decide)
  rw [krem] at this
  exact this
theorem k_find1 : AtM kt3 12 [.int .u64 0, .int .u64 1] (fun W => Ret (.tuple #[.int .u64 10, .int .i64 5, .int .i64 0]) W) := fun W wa wc la lc h hg => by
  have := TFind_any kt3 0 1 wa la wc lc W h hg kt3_w (by decide) (by decide)
  rw [kfind1] at this
  exact this
theorem k_find2 : AtM kt3 12 [.int .u64 0, .int .u64 2] (fun W => Ret (.tuple #[.int .u64 0, .int .i64 0, .int .i64 4]) W) := fun W wa wc la lc h hg => by
  have := TFind_any kt3 0 2 wa la wc lc W h hg kt3_w (by decide) (by decide)
  rw [kfind2] at this
  exact this
def GRows (xs : List Rw) (W : World) (e : Ending) (W' : World) : Prop := ∃ va vc, e = .returned (.tuple #[.slice va xs.length vc, .int .i64 0]) ∧ W'.ownsRow W.heap.size 73 4 (.slice va xs.length vc) xs.length (rwcells xs) ∧ Below W.heap.size W W'
theorem k_rows : AtM kt3 8 [.int .u64 0] (GRows kxs) := fun W wa wc la lc h hg => by
  refine (Rows_any 0 wa wc la lc kt3 W (by decide) kt3_w h hg).mono ?_
  rintro e W' ⟨hb, ⟨h1, -⟩ | ⟨-, h1, -⟩ | ⟨-, xs, met, v, h1, rfl, hr⟩⟩
  · rw [kt3_ok] at h1; cases h1
  · rw [krows] at h1; cases h1
  · rw [krows] at h1
    simp only [Option.some.injEq, Prod.mk.injEq] at h1
    obtain ⟨rfl, rfl⟩ := h1
    obtain ⟨va, vc, rfl, -⟩ := Leads.of_own hr
    exact ⟨va, vc, rfl, hr, hb⟩
set_option maxRecDepth 100000 in
set_option maxHeartbeats 16000000 in
theorem wakes_any (V : World) (hg : Glob V) : Calls Tryz.prog 6 #[] V (Ret (.bool true) V) := by
  have HG := hid hg
  clear hg
  have HB := hid (Below.refl V.heap.size V)
  go_enter Tryz.func6, Tryz.ntmps6
  go_upto_region 1 with (fail)
  go_cut [1] (fun t1 wr => ∃ (X GW GL : Nat), t1 = .pointer (some ⟨X, 0, none⟩) ∧ V.heap.size ≤ X ∧ Hid (wr.heap[X]? = some (.cells #[.slice (some ⟨GW, 0, none⟩) 32 32, .slice (some ⟨GL, 0, none⟩) 32 32, .bool false] 25 (0, 0))) ∧ Hid (MemO V.heap.size (some ⟨GW, 0, none⟩) 32 (some ⟨GL, 0, none⟩) 32 kt0 wr) ∧ Hid (Below V.heap.size V wr))
  case first =>
    obtain ⟨D1_11, hD⟩ : ∃ DX, V.drew = DX := ⟨_, rfl⟩
    have hbD : Below V.heap.size V D1_11 := by rw [← hD]; exact (Below.refl _ _).drew
    have HD := hid hD
    clear hD
    have HB_1 := hid (HB.out.trans (hbD.mono HB.out.size))
    clear HB hbD
    refine wp_region_mix3 (fun W => ∃ z : AnyW, W = z.w) 6 (.h3 0 (.h2 1 (.h2 2 (.q 3 (.h 4 (.h 5 (.done)))) 4 (.h 2 (.q 3 (.h 5 (.done))))) 4 (.h 1 (.h 2 (.q 3 (.h 5 (.done)))))) 1 (.h3 0 (.h2 2 (.q 3 (.h 4 (.h 5 (.done)))) 4 (.h 2 (.q 3 (.h 5 (.done))))) 2 (.h2 0 (.q 3 (.h 4 (.h 5 (.done)))) 4 (.h 0 (.q 3 (.h 5 (.done))))) 4 (.h2 0 (.h 2 (.q 3 (.h 5 (.done)))) 2 (.h 0 (.q 3 (.h 5 (.done)))))) 4 (.h2 0 (.h 1 (.h 2 (.q 3 (.h 5 (.done))))) 1 (.h2 0 (.h 2 (.q 3 (.h 5 (.done)))) 2 (.h 0 (.q 3 (.h 5 (.done))))))) (by kernel_rfl) (by kernel_rfl) (by rw [HD.out]; exact ⟨⟨D1_11⟩, rfl⟩) ?_
    rw [HD.out]
    refine wpMix3_h3 ?_ ?_ ?_
    · skip
      refine wpMix3_h rfl fun R' hR' hO => ?_
      have hmk : (Instr.makeSlice 22 (.int .i64 32) (.int .i64 32)).run Tryz.prog D1_11 = .ok (.slice (some ⟨D1_11.heap.size, 0, none⟩) 32 32) (D1_11.alloc (.cells #[.int .u64 0, .int .u64 0, .int .u64 0, .int .u64 0, .int .u64 0, .int .u64 0, .int .u64 0, .int .u64 0, .int .u64 0, .int .u64 0, .int .u64 0, .int .u64 0, .int .u64 0, .int .u64 0, .int .u64 0, .int .u64 0, .int .u64 0, .int .u64 0, .int .u64 0, .int .u64 0, .int .u64 0, .int .u64 0, .int .u64 0, .int .u64 0, .int .u64 0, .int .u64 0, .int .u64 0, .int .u64 0, .int .u64 0, .int .u64 0, .int .u64 0, .int .u64 0] 26)) := make_words D1_11 32 (by decide)
      obtain ⟨w2_22, hw2_22, hbn, hsn, hln⟩ := laid D1_11 #[.int .u64 0, .int .u64 0, .int .u64 0, .int .u64 0, .int .u64 0, .int .u64 0, .int .u64 0, .int .u64 0, .int .u64 0, .int .u64 0, .int .u64 0, .int .u64 0, .int .u64 0, .int .u64 0, .int .u64 0, .int .u64 0, .int .u64 0, .int .u64 0, .int .u64 0, .int .u64 0, .int .u64 0, .int .u64 0, .int .u64 0, .int .u64 0, .int .u64 0, .int .u64 0, .int .u64 0, .int .u64 0, .int .u64 0, .int .u64 0, .int .u64 0, .int .u64 0] 26
      obtain ⟨GW, hGW⟩ : ∃ X, D1_11.heap.size = X := ⟨_, rfl⟩
      rw [hGW] at hln hmk
      rw [hw2_22] at hmk
      have hVGW : V.heap.size ≤ GW := by have := HB_1.out.size; omega
      have HB_2 := hid (HB_1.out.trans (hbn.mono HB_1.out.size))
      clear HB_1 hbn hsn
      have KGW_3 := hid (hln)
      clear hln
      go_wp2
      clear hmk hw2_22 hGW
      refine hR' _ _ ⟨⟨w2_22⟩, rfl⟩ ?_
      clear hR' hO R'
      refine wpMix3_h2 ?_ ?_
      · skip
        refine wpMix3_h rfl fun R' hR' hO => ?_
        obtain ⟨w3_39, hw3_39, hbn, hsn, hln⟩ := laid w2_22 #[.bool true] 4
        obtain ⟨LB, hNMLB⟩ : ∃ X, w2_22.heap.size = X := ⟨_, rfl⟩
        rw [hNMLB] at hln
        have nGWLB : GW < LB := by have := lt_laid KGW_3.out; omega
        have hVLB : V.heap.size ≤ LB := by have := HB_2.out.size; omega
        have HB_4 := hid (HB_2.out.trans (hbn.mono HB_2.out.size))
        have KGW_5 := hid (keep_laid KGW_3.out hbn)
        clear HB_2 KGW_3 hbn hsn
        have KLB_6 := hid (hln)
        clear hln
        go_wp2
        skip
        refine hR' _ _ ⟨⟨w3_39⟩, rfl⟩ ?_
        clear hR' hO R'
        refine wpMix3_h2 ?_ ?_
        · skip
          refine wpMix3_h rfl fun R' hR' hO => ?_
          go_wp2_with fail
          refine (RepeatB_any true 32 LB w3_39 (cell_laid (i := 0) KLB_6.out rfl) (lt_laid KLB_6.out) (by decide) Mul_32).mono ?_
          rintro e w4_56 ⟨GL, rfl, hol, hbn⟩
          have hVGL : V.heap.size ≤ GL := Nat.le_trans HB_4.out.size (own_base_le hol)
          have HGL0 := hid (own_base hol HB_4.out.size)
          have HB_7 := hid (HB_4.out.trans (hbn.mono HB_4.out.size))
          have KGW_8 := hid (keep_laid KGW_5.out hbn)
          have KLB_9 := hid (keep_laid KLB_6.out hbn)
          clear HB_4 KGW_5 KLB_6 hbn hol
          have HGL_0 := HGL0
          clear HGL0
          go_wp2
          skip
          refine hR' _ _ ⟨⟨w4_56⟩, rfl⟩ ?_
          clear hR' hO R'
          repeat (refine wpMix3_q rfl rfl ?_; go_big_quiet_step (fail); refine wpQuiet_nil ?_)
          refine wpMix3_h rfl fun R' hR' hO => ?_
          obtain ⟨w5_73, hw5_73, hbn, hsn, hln⟩ := laid w4_56 #[.slice none 0 0, .slice none 0 0, .bool false] 25
          obtain ⟨X, hNMX⟩ : ∃ X, w4_56.heap.size = X := ⟨_, rfl⟩
          rw [hNMX] at hln
          have nGWX : GW < X := by have := lt_laid KGW_8.out; omega
          have nLBX : LB < X := by have := lt_laid KLB_9.out; omega
          have hVX : V.heap.size ≤ X := by have := HB_7.out.size; omega
          have HB_10 := hid (HB_7.out.trans (hbn.mono HB_7.out.size))
          have KGW_11 := hid (keep_laid KGW_8.out hbn)
          have KLB_12 := hid (keep_laid KLB_9.out hbn)
          have HGL_13 := hid (own_grow HGL_0.out hbn)
          clear HB_7 KGW_8 KLB_9 HGL_0 hbn hsn
          have KX_14 := hid (hln)
          clear hln
          go_wp2
          skip
          refine hR' _ _ ⟨⟨w5_73⟩, rfl⟩ ?_
          clear hR' hO R'
          refine wpMix3_h rfl fun R' hR' hO => ?_
          go_wp2_with (refine wp_storeP rfl 25 (.tmp 1) (.tmp 24) rfl X 0 _ #[.slice (some ⟨GW, 0, none⟩) 32 32, .slice (some ⟨GL, 0, none⟩) 32 32, .bool false] _ rfl rfl _ KX_14.out (by kernel_rfl) (Nat.le_of_ble_eq_true rfl) (by kernel_rfl) rfl ?_; intro u6_91 a1 a2 a3 a4; have HX9 := hid a1; have HGW9 := hid (a2 GW _ (fun e => absurd e (type_ne KGW_11.out KX_14.out (by decide))) KGW_11.out); have HGL9 := hid (own_keep HGL_13.out fun k o hk ho => a2 k o (own_neT HGL_13.out KX_14.out (by decide) k hk) ho); have HB9 := hid (a3 V.heap.size V (by omega) HB_10.out); clear a1 a2 a3 a4)
          go_wp2
          skip
          refine hR' _ _ ⟨⟨u6_91⟩, rfl⟩ ?_
          clear hR' hO R'
          refine wpMix3_done ?_
          simp only [List.drop_succ_cons, List.drop_nil]
          have hW1 := own_lit (base := V.heap.size) (n := 32) (size := 1) (xs := wcells kt0.W) HGW9.out hVGW (by decide) rfl rfl
          go_wp2
          go_meet
          exact ⟨X, GW, GL, rfl, by omega, HX9, hid ⟨hW1, HGL9.out⟩, HB9⟩
        · skip
          refine wpMix3_h rfl fun R' hR' hO => ?_
          obtain ⟨w4_104, hw4_104, hbn, hsn, hln⟩ := laid w3_39 #[.slice none 0 0, .slice none 0 0, .bool false] 25
          obtain ⟨X, hNMX⟩ : ∃ X, w3_39.heap.size = X := ⟨_, rfl⟩
          rw [hNMX] at hln
          have nGWX : GW < X := by have := lt_laid KGW_5.out; omega
          have nLBX : LB < X := by have := lt_laid KLB_6.out; omega
          have hVX : V.heap.size ≤ X := by have := HB_4.out.size; omega
          have HB_7 := hid (HB_4.out.trans (hbn.mono HB_4.out.size))
          have KGW_8 := hid (keep_laid KGW_5.out hbn)
          have KLB_9 := hid (keep_laid KLB_6.out hbn)
          clear HB_4 KGW_5 KLB_6 hbn hsn
          have KX_10 := hid (hln)
          clear hln
          go_wp2
          skip
          refine hR' _ _ ⟨⟨w4_104⟩, rfl⟩ ?_
          clear hR' hO R'
          refine wpMix3_h rfl fun R' hR' hO => ?_
          go_wp2_with fail
          refine (RepeatB_any true 32 LB w4_104 (cell_laid (i := 0) KLB_9.out rfl) (lt_laid KLB_9.out) (by decide) Mul_32).mono ?_
          rintro e w5_121 ⟨GL, rfl, hol, hbn⟩
          have hVGL : V.heap.size ≤ GL := Nat.le_trans HB_7.out.size (own_base_le hol)
          have HGL0 := hid (own_base hol HB_7.out.size)
          have HB_11 := hid (HB_7.out.trans (hbn.mono HB_7.out.size))
          have KGW_12 := hid (keep_laid KGW_8.out hbn)
          have KLB_13 := hid (keep_laid KLB_9.out hbn)
          have KX_14 := hid (keep_laid KX_10.out hbn)
          clear HB_7 KGW_8 KLB_9 KX_10 hbn hol
          have HGL_0 := HGL0
          clear HGL0
          go_wp2
          skip
          refine hR' _ _ ⟨⟨w5_121⟩, rfl⟩ ?_
          clear hR' hO R'
          repeat (refine wpMix3_q rfl rfl ?_; go_big_quiet_step (fail); refine wpQuiet_nil ?_)
          refine wpMix3_h rfl fun R' hR' hO => ?_
          go_wp2_with (refine wp_storeP rfl 25 (.tmp 1) (.tmp 24) rfl X 0 _ #[.slice (some ⟨GW, 0, none⟩) 32 32, .slice (some ⟨GL, 0, none⟩) 32 32, .bool false] _ rfl rfl _ KX_14.out (by kernel_rfl) (Nat.le_of_ble_eq_true rfl) (by kernel_rfl) rfl ?_; intro u6_139 a1 a2 a3 a4; have HX9 := hid a1; have HGW9 := hid (a2 GW _ (fun e => absurd e (type_ne KGW_12.out KX_14.out (by decide))) KGW_12.out); have HGL9 := hid (own_keep HGL_0.out fun k o hk ho => a2 k o (own_neT HGL_0.out KX_14.out (by decide) k hk) ho); have HB9 := hid (a3 V.heap.size V (by omega) HB_11.out); clear a1 a2 a3 a4)
          go_wp2
          skip
          refine hR' _ _ ⟨⟨u6_139⟩, rfl⟩ ?_
          clear hR' hO R'
          refine wpMix3_done ?_
          simp only [List.drop_succ_cons, List.drop_nil]
          have hW1 := own_lit (base := V.heap.size) (n := 32) (size := 1) (xs := wcells kt0.W) HGW9.out hVGW (by decide) rfl rfl
          go_wp2
          go_meet
          exact ⟨X, GW, GL, rfl, by omega, HX9, hid ⟨hW1, HGL9.out⟩, HB9⟩
      · skip
        refine wpMix3_h rfl fun R' hR' hO => ?_
        obtain ⟨w3_152, hw3_152, hbn, hsn, hln⟩ := laid w2_22 #[.slice none 0 0, .slice none 0 0, .bool false] 25
        obtain ⟨X, hNMX⟩ : ∃ X, w2_22.heap.size = X := ⟨_, rfl⟩
        rw [hNMX] at hln
        have nGWX : GW < X := by have := lt_laid KGW_3.out; omega
        have hVX : V.heap.size ≤ X := by have := HB_2.out.size; omega
        have HB_4 := hid (HB_2.out.trans (hbn.mono HB_2.out.size))
        have KGW_5 := hid (keep_laid KGW_3.out hbn)
        clear HB_2 KGW_3 hbn hsn
        have KX_6 := hid (hln)
        clear hln
        go_wp2
        skip
        refine hR' _ _ ⟨⟨w3_152⟩, rfl⟩ ?_
        clear hR' hO R'
        refine wpMix3_h rfl fun R' hR' hO => ?_
        obtain ⟨w4_167, hw4_167, hbn, hsn, hln⟩ := laid w3_152 #[.bool true] 4
        obtain ⟨LB, hNMLB⟩ : ∃ X, w3_152.heap.size = X := ⟨_, rfl⟩
        rw [hNMLB] at hln
        have nGWLB : GW < LB := by have := lt_laid KGW_5.out; omega
        have nXLB : X < LB := by have := lt_laid KX_6.out; omega
        have hVLB : V.heap.size ≤ LB := by have := HB_4.out.size; omega
        have HB_7 := hid (HB_4.out.trans (hbn.mono HB_4.out.size))
        have KGW_8 := hid (keep_laid KGW_5.out hbn)
        have KX_9 := hid (keep_laid KX_6.out hbn)
        clear HB_4 KGW_5 KX_6 hbn hsn
        have KLB_10 := hid (hln)
        clear hln
        go_wp2
        skip
        refine hR' _ _ ⟨⟨w4_167⟩, rfl⟩ ?_
        clear hR' hO R'
        refine wpMix3_h rfl fun R' hR' hO => ?_
        go_wp2_with fail
        refine (RepeatB_any true 32 LB w4_167 (cell_laid (i := 0) KLB_10.out rfl) (lt_laid KLB_10.out) (by decide) Mul_32).mono ?_
        rintro e w5_184 ⟨GL, rfl, hol, hbn⟩
        have hVGL : V.heap.size ≤ GL := Nat.le_trans HB_7.out.size (own_base_le hol)
        have HGL0 := hid (own_base hol HB_7.out.size)
        have HB_11 := hid (HB_7.out.trans (hbn.mono HB_7.out.size))
        have KGW_12 := hid (keep_laid KGW_8.out hbn)
        have KX_13 := hid (keep_laid KX_9.out hbn)
        have KLB_14 := hid (keep_laid KLB_10.out hbn)
        clear HB_7 KGW_8 KX_9 KLB_10 hbn hol
        have HGL_0 := HGL0
        clear HGL0
        go_wp2
        skip
        refine hR' _ _ ⟨⟨w5_184⟩, rfl⟩ ?_
        clear hR' hO R'
        repeat (refine wpMix3_q rfl rfl ?_; go_big_quiet_step (fail); refine wpQuiet_nil ?_)
        refine wpMix3_h rfl fun R' hR' hO => ?_
        go_wp2_with (refine wp_storeP rfl 25 (.tmp 1) (.tmp 24) rfl X 0 _ #[.slice (some ⟨GW, 0, none⟩) 32 32, .slice (some ⟨GL, 0, none⟩) 32 32, .bool false] _ rfl rfl _ KX_13.out (by kernel_rfl) (Nat.le_of_ble_eq_true rfl) (by kernel_rfl) rfl ?_; intro u6_202 a1 a2 a3 a4; have HX9 := hid a1; have HGW9 := hid (a2 GW _ (fun e => absurd e (type_ne KGW_12.out KX_13.out (by decide))) KGW_12.out); have HGL9 := hid (own_keep HGL_0.out fun k o hk ho => a2 k o (own_neT HGL_0.out KX_13.out (by decide) k hk) ho); have HB9 := hid (a3 V.heap.size V (by omega) HB_11.out); clear a1 a2 a3 a4)
        go_wp2
        skip
        refine hR' _ _ ⟨⟨u6_202⟩, rfl⟩ ?_
        clear hR' hO R'
        refine wpMix3_done ?_
        simp only [List.drop_succ_cons, List.drop_nil]
        have hW1 := own_lit (base := V.heap.size) (n := 32) (size := 1) (xs := wcells kt0.W) HGW9.out hVGW (by decide) rfl rfl
        go_wp2
        go_meet
        exact ⟨X, GW, GL, rfl, by omega, HX9, hid ⟨hW1, HGL9.out⟩, HB9⟩
    · skip
      refine wpMix3_h rfl fun R' hR' hO => ?_
      obtain ⟨w2_215, hw2_215, hbn, hsn, hln⟩ := laid D1_11 #[.bool true] 4
      obtain ⟨LB, hNMLB⟩ : ∃ X, D1_11.heap.size = X := ⟨_, rfl⟩
      rw [hNMLB] at hln
      have hVLB : V.heap.size ≤ LB := by have := HB_1.out.size; omega
      have HB_2 := hid (HB_1.out.trans (hbn.mono HB_1.out.size))
      clear HB_1 hbn hsn
      have KLB_3 := hid (hln)
      clear hln
      go_wp2
      skip
      refine hR' _ _ ⟨⟨w2_215⟩, rfl⟩ ?_
      clear hR' hO R'
      refine wpMix3_h3 ?_ ?_ ?_
      · skip
        refine wpMix3_h rfl fun R' hR' hO => ?_
        have hmk : (Instr.makeSlice 22 (.int .i64 32) (.int .i64 32)).run Tryz.prog w2_215 = .ok (.slice (some ⟨w2_215.heap.size, 0, none⟩) 32 32) (w2_215.alloc (.cells #[.int .u64 0, .int .u64 0, .int .u64 0, .int .u64 0, .int .u64 0, .int .u64 0, .int .u64 0, .int .u64 0, .int .u64 0, .int .u64 0, .int .u64 0, .int .u64 0, .int .u64 0, .int .u64 0, .int .u64 0, .int .u64 0, .int .u64 0, .int .u64 0, .int .u64 0, .int .u64 0, .int .u64 0, .int .u64 0, .int .u64 0, .int .u64 0, .int .u64 0, .int .u64 0, .int .u64 0, .int .u64 0, .int .u64 0, .int .u64 0, .int .u64 0, .int .u64 0] 26)) := make_words w2_215 32 (by decide)
        obtain ⟨w3_230, hw3_230, hbn, hsn, hln⟩ := laid w2_215 #[.int .u64 0, .int .u64 0, .int .u64 0, .int .u64 0, .int .u64 0, .int .u64 0, .int .u64 0, .int .u64 0, .int .u64 0, .int .u64 0, .int .u64 0, .int .u64 0, .int .u64 0, .int .u64 0, .int .u64 0, .int .u64 0, .int .u64 0, .int .u64 0, .int .u64 0, .int .u64 0, .int .u64 0, .int .u64 0, .int .u64 0, .int .u64 0, .int .u64 0, .int .u64 0, .int .u64 0, .int .u64 0, .int .u64 0, .int .u64 0, .int .u64 0, .int .u64 0] 26
        obtain ⟨GW, hGW⟩ : ∃ X, w2_215.heap.size = X := ⟨_, rfl⟩
        rw [hGW] at hln hmk
        rw [hw3_230] at hmk
        have hVGW : V.heap.size ≤ GW := by have := HB_2.out.size; omega
        have HB_4 := hid (HB_2.out.trans (hbn.mono HB_2.out.size))
        have KLB_5 := hid (keep_laid KLB_3.out hbn)
        clear HB_2 KLB_3 hbn hsn
        have KGW_6 := hid (hln)
        clear hln
        go_wp2
        clear hmk hw3_230 hGW
        refine hR' _ _ ⟨⟨w3_230⟩, rfl⟩ ?_
        clear hR' hO R'
        refine wpMix3_h2 ?_ ?_
        · skip
          refine wpMix3_h rfl fun R' hR' hO => ?_
          go_wp2_with fail
          refine (RepeatB_any true 32 LB w3_230 (cell_laid (i := 0) KLB_5.out rfl) (lt_laid KLB_5.out) (by decide) Mul_32).mono ?_
          rintro e w4_248 ⟨GL, rfl, hol, hbn⟩
          have hVGL : V.heap.size ≤ GL := Nat.le_trans HB_4.out.size (own_base_le hol)
          have HGL0 := hid (own_base hol HB_4.out.size)
          have HB_7 := hid (HB_4.out.trans (hbn.mono HB_4.out.size))
          have KLB_8 := hid (keep_laid KLB_5.out hbn)
          have KGW_9 := hid (keep_laid KGW_6.out hbn)
          clear HB_4 KLB_5 KGW_6 hbn hol
          have HGL_0 := HGL0
          clear HGL0
          go_wp2
          skip
          refine hR' _ _ ⟨⟨w4_248⟩, rfl⟩ ?_
          clear hR' hO R'
          repeat (refine wpMix3_q rfl rfl ?_; go_big_quiet_step (fail); refine wpQuiet_nil ?_)
          refine wpMix3_h rfl fun R' hR' hO => ?_
          obtain ⟨w5_265, hw5_265, hbn, hsn, hln⟩ := laid w4_248 #[.slice none 0 0, .slice none 0 0, .bool false] 25
          obtain ⟨X, hNMX⟩ : ∃ X, w4_248.heap.size = X := ⟨_, rfl⟩
          rw [hNMX] at hln
          have nLBX : LB < X := by have := lt_laid KLB_8.out; omega
          have nGWX : GW < X := by have := lt_laid KGW_9.out; omega
          have hVX : V.heap.size ≤ X := by have := HB_7.out.size; omega
          have HB_10 := hid (HB_7.out.trans (hbn.mono HB_7.out.size))
          have KLB_11 := hid (keep_laid KLB_8.out hbn)
          have KGW_12 := hid (keep_laid KGW_9.out hbn)
          have HGL_13 := hid (own_grow HGL_0.out hbn)
          clear HB_7 KLB_8 KGW_9 HGL_0 hbn hsn
          have KX_14 := hid (hln)
          clear hln
          go_wp2
          skip
          refine hR' _ _ ⟨⟨w5_265⟩, rfl⟩ ?_
          clear hR' hO R'
          refine wpMix3_h rfl fun R' hR' hO => ?_
          go_wp2_with (refine wp_storeP rfl 25 (.tmp 1) (.tmp 24) rfl X 0 _ #[.slice (some ⟨GW, 0, none⟩) 32 32, .slice (some ⟨GL, 0, none⟩) 32 32, .bool false] _ rfl rfl _ KX_14.out (by kernel_rfl) (Nat.le_of_ble_eq_true rfl) (by kernel_rfl) rfl ?_; intro u6_283 a1 a2 a3 a4; have HX9 := hid a1; have HGW9 := hid (a2 GW _ (fun e => absurd e (type_ne KGW_12.out KX_14.out (by decide))) KGW_12.out); have HGL9 := hid (own_keep HGL_13.out fun k o hk ho => a2 k o (own_neT HGL_13.out KX_14.out (by decide) k hk) ho); have HB9 := hid (a3 V.heap.size V (by omega) HB_10.out); clear a1 a2 a3 a4)
          go_wp2
          skip
          refine hR' _ _ ⟨⟨u6_283⟩, rfl⟩ ?_
          clear hR' hO R'
          refine wpMix3_done ?_
          simp only [List.drop_succ_cons, List.drop_nil]
          have hW1 := own_lit (base := V.heap.size) (n := 32) (size := 1) (xs := wcells kt0.W) HGW9.out hVGW (by decide) rfl rfl
          go_wp2
          go_meet
          exact ⟨X, GW, GL, rfl, by omega, HX9, hid ⟨hW1, HGL9.out⟩, HB9⟩
        · skip
          refine wpMix3_h rfl fun R' hR' hO => ?_
          obtain ⟨w4_296, hw4_296, hbn, hsn, hln⟩ := laid w3_230 #[.slice none 0 0, .slice none 0 0, .bool false] 25
          obtain ⟨X, hNMX⟩ : ∃ X, w3_230.heap.size = X := ⟨_, rfl⟩
          rw [hNMX] at hln
          have nLBX : LB < X := by have := lt_laid KLB_5.out; omega
          have nGWX : GW < X := by have := lt_laid KGW_6.out; omega
          have hVX : V.heap.size ≤ X := by have := HB_4.out.size; omega
          have HB_7 := hid (HB_4.out.trans (hbn.mono HB_4.out.size))
          have KLB_8 := hid (keep_laid KLB_5.out hbn)
          have KGW_9 := hid (keep_laid KGW_6.out hbn)
          clear HB_4 KLB_5 KGW_6 hbn hsn
          have KX_10 := hid (hln)
          clear hln
          go_wp2
          skip
          refine hR' _ _ ⟨⟨w4_296⟩, rfl⟩ ?_
          clear hR' hO R'
          refine wpMix3_h rfl fun R' hR' hO => ?_
          go_wp2_with fail
          refine (RepeatB_any true 32 LB w4_296 (cell_laid (i := 0) KLB_8.out rfl) (lt_laid KLB_8.out) (by decide) Mul_32).mono ?_
          rintro e w5_313 ⟨GL, rfl, hol, hbn⟩
          have hVGL : V.heap.size ≤ GL := Nat.le_trans HB_7.out.size (own_base_le hol)
          have HGL0 := hid (own_base hol HB_7.out.size)
          have HB_11 := hid (HB_7.out.trans (hbn.mono HB_7.out.size))
          have KLB_12 := hid (keep_laid KLB_8.out hbn)
          have KGW_13 := hid (keep_laid KGW_9.out hbn)
          have KX_14 := hid (keep_laid KX_10.out hbn)
          clear HB_7 KLB_8 KGW_9 KX_10 hbn hol
          have HGL_0 := HGL0
          clear HGL0
          go_wp2
          skip
          refine hR' _ _ ⟨⟨w5_313⟩, rfl⟩ ?_
          clear hR' hO R'
          repeat (refine wpMix3_q rfl rfl ?_; go_big_quiet_step (fail); refine wpQuiet_nil ?_)
          refine wpMix3_h rfl fun R' hR' hO => ?_
          go_wp2_with (refine wp_storeP rfl 25 (.tmp 1) (.tmp 24) rfl X 0 _ #[.slice (some ⟨GW, 0, none⟩) 32 32, .slice (some ⟨GL, 0, none⟩) 32 32, .bool false] _ rfl rfl _ KX_14.out (by kernel_rfl) (Nat.le_of_ble_eq_true rfl) (by kernel_rfl) rfl ?_; intro u6_331 a1 a2 a3 a4; have HX9 := hid a1; have HGW9 := hid (a2 GW _ (fun e => absurd e (type_ne KGW_13.out KX_14.out (by decide))) KGW_13.out); have HGL9 := hid (own_keep HGL_0.out fun k o hk ho => a2 k o (own_neT HGL_0.out KX_14.out (by decide) k hk) ho); have HB9 := hid (a3 V.heap.size V (by omega) HB_11.out); clear a1 a2 a3 a4)
          go_wp2
          skip
          refine hR' _ _ ⟨⟨u6_331⟩, rfl⟩ ?_
          clear hR' hO R'
          refine wpMix3_done ?_
          simp only [List.drop_succ_cons, List.drop_nil]
          have hW1 := own_lit (base := V.heap.size) (n := 32) (size := 1) (xs := wcells kt0.W) HGW9.out hVGW (by decide) rfl rfl
          go_wp2
          go_meet
          exact ⟨X, GW, GL, rfl, by omega, HX9, hid ⟨hW1, HGL9.out⟩, HB9⟩
      · skip
        refine wpMix3_h rfl fun R' hR' hO => ?_
        go_wp2_with fail
        refine (RepeatB_any true 32 LB w2_215 (cell_laid (i := 0) KLB_3.out rfl) (lt_laid KLB_3.out) (by decide) Mul_32).mono ?_
        rintro e w3_344 ⟨GL, rfl, hol, hbn⟩
        have hVGL : V.heap.size ≤ GL := Nat.le_trans HB_2.out.size (own_base_le hol)
        have HGL0 := hid (own_base hol HB_2.out.size)
        have HB_4 := hid (HB_2.out.trans (hbn.mono HB_2.out.size))
        have KLB_5 := hid (keep_laid KLB_3.out hbn)
        clear HB_2 KLB_3 hbn hol
        have HGL_0 := HGL0
        clear HGL0
        go_wp2
        skip
        refine hR' _ _ ⟨⟨w3_344⟩, rfl⟩ ?_
        clear hR' hO R'
        refine wpMix3_h2 ?_ ?_
        · skip
          refine wpMix3_h rfl fun R' hR' hO => ?_
          have hmk : (Instr.makeSlice 22 (.int .i64 32) (.int .i64 32)).run Tryz.prog w3_344 = .ok (.slice (some ⟨w3_344.heap.size, 0, none⟩) 32 32) (w3_344.alloc (.cells #[.int .u64 0, .int .u64 0, .int .u64 0, .int .u64 0, .int .u64 0, .int .u64 0, .int .u64 0, .int .u64 0, .int .u64 0, .int .u64 0, .int .u64 0, .int .u64 0, .int .u64 0, .int .u64 0, .int .u64 0, .int .u64 0, .int .u64 0, .int .u64 0, .int .u64 0, .int .u64 0, .int .u64 0, .int .u64 0, .int .u64 0, .int .u64 0, .int .u64 0, .int .u64 0, .int .u64 0, .int .u64 0, .int .u64 0, .int .u64 0, .int .u64 0, .int .u64 0] 26)) := make_words w3_344 32 (by decide)
          obtain ⟨w4_361, hw4_361, hbn, hsn, hln⟩ := laid w3_344 #[.int .u64 0, .int .u64 0, .int .u64 0, .int .u64 0, .int .u64 0, .int .u64 0, .int .u64 0, .int .u64 0, .int .u64 0, .int .u64 0, .int .u64 0, .int .u64 0, .int .u64 0, .int .u64 0, .int .u64 0, .int .u64 0, .int .u64 0, .int .u64 0, .int .u64 0, .int .u64 0, .int .u64 0, .int .u64 0, .int .u64 0, .int .u64 0, .int .u64 0, .int .u64 0, .int .u64 0, .int .u64 0, .int .u64 0, .int .u64 0, .int .u64 0, .int .u64 0] 26
          obtain ⟨GW, hGW⟩ : ∃ X, w3_344.heap.size = X := ⟨_, rfl⟩
          rw [hGW] at hln hmk
          rw [hw4_361] at hmk
          have hVGW : V.heap.size ≤ GW := by have := HB_4.out.size; omega
          have HB_6 := hid (HB_4.out.trans (hbn.mono HB_4.out.size))
          have KLB_7 := hid (keep_laid KLB_5.out hbn)
          have HGL_8 := hid (own_grow HGL_0.out hbn)
          clear HB_4 KLB_5 HGL_0 hbn hsn
          have KGW_9 := hid (hln)
          clear hln
          go_wp2
          clear hmk hw4_361 hGW
          refine hR' _ _ ⟨⟨w4_361⟩, rfl⟩ ?_
          clear hR' hO R'
          repeat (refine wpMix3_q rfl rfl ?_; go_big_quiet_step (fail); refine wpQuiet_nil ?_)
          refine wpMix3_h rfl fun R' hR' hO => ?_
          obtain ⟨w5_379, hw5_379, hbn, hsn, hln⟩ := laid w4_361 #[.slice none 0 0, .slice none 0 0, .bool false] 25
          obtain ⟨X, hNMX⟩ : ∃ X, w4_361.heap.size = X := ⟨_, rfl⟩
          rw [hNMX] at hln
          have nLBX : LB < X := by have := lt_laid KLB_7.out; omega
          have nGWX : GW < X := by have := lt_laid KGW_9.out; omega
          have hVX : V.heap.size ≤ X := by have := HB_6.out.size; omega
          have HB_10 := hid (HB_6.out.trans (hbn.mono HB_6.out.size))
          have KLB_11 := hid (keep_laid KLB_7.out hbn)
          have HGL_12 := hid (own_grow HGL_8.out hbn)
          have KGW_13 := hid (keep_laid KGW_9.out hbn)
          clear HB_6 KLB_7 HGL_8 KGW_9 hbn hsn
          have KX_14 := hid (hln)
          clear hln
          go_wp2
          skip
          refine hR' _ _ ⟨⟨w5_379⟩, rfl⟩ ?_
          clear hR' hO R'
          refine wpMix3_h rfl fun R' hR' hO => ?_
          go_wp2_with (refine wp_storeP rfl 25 (.tmp 1) (.tmp 24) rfl X 0 _ #[.slice (some ⟨GW, 0, none⟩) 32 32, .slice (some ⟨GL, 0, none⟩) 32 32, .bool false] _ rfl rfl _ KX_14.out (by kernel_rfl) (Nat.le_of_ble_eq_true rfl) (by kernel_rfl) rfl ?_; intro u6_397 a1 a2 a3 a4; have HX9 := hid a1; have HGW9 := hid (a2 GW _ (fun e => absurd e (type_ne KGW_13.out KX_14.out (by decide))) KGW_13.out); have HGL9 := hid (own_keep HGL_12.out fun k o hk ho => a2 k o (own_neT HGL_12.out KX_14.out (by decide) k hk) ho); have HB9 := hid (a3 V.heap.size V (by omega) HB_10.out); clear a1 a2 a3 a4)
          go_wp2
          skip
          refine hR' _ _ ⟨⟨u6_397⟩, rfl⟩ ?_
          clear hR' hO R'
          refine wpMix3_done ?_
          simp only [List.drop_succ_cons, List.drop_nil]
          have hW1 := own_lit (base := V.heap.size) (n := 32) (size := 1) (xs := wcells kt0.W) HGW9.out hVGW (by decide) rfl rfl
          go_wp2
          go_meet
          exact ⟨X, GW, GL, rfl, by omega, HX9, hid ⟨hW1, HGL9.out⟩, HB9⟩
        · skip
          refine wpMix3_h rfl fun R' hR' hO => ?_
          obtain ⟨w4_410, hw4_410, hbn, hsn, hln⟩ := laid w3_344 #[.slice none 0 0, .slice none 0 0, .bool false] 25
          obtain ⟨X, hNMX⟩ : ∃ X, w3_344.heap.size = X := ⟨_, rfl⟩
          rw [hNMX] at hln
          have nLBX : LB < X := by have := lt_laid KLB_5.out; omega
          have hVX : V.heap.size ≤ X := by have := HB_4.out.size; omega
          have HB_6 := hid (HB_4.out.trans (hbn.mono HB_4.out.size))
          have KLB_7 := hid (keep_laid KLB_5.out hbn)
          have HGL_8 := hid (own_grow HGL_0.out hbn)
          clear HB_4 KLB_5 HGL_0 hbn hsn
          have KX_9 := hid (hln)
          clear hln
          go_wp2
          skip
          refine hR' _ _ ⟨⟨w4_410⟩, rfl⟩ ?_
          clear hR' hO R'
          refine wpMix3_h rfl fun R' hR' hO => ?_
          have hmk : (Instr.makeSlice 22 (.int .i64 32) (.int .i64 32)).run Tryz.prog w4_410 = .ok (.slice (some ⟨w4_410.heap.size, 0, none⟩) 32 32) (w4_410.alloc (.cells #[.int .u64 0, .int .u64 0, .int .u64 0, .int .u64 0, .int .u64 0, .int .u64 0, .int .u64 0, .int .u64 0, .int .u64 0, .int .u64 0, .int .u64 0, .int .u64 0, .int .u64 0, .int .u64 0, .int .u64 0, .int .u64 0, .int .u64 0, .int .u64 0, .int .u64 0, .int .u64 0, .int .u64 0, .int .u64 0, .int .u64 0, .int .u64 0, .int .u64 0, .int .u64 0, .int .u64 0, .int .u64 0, .int .u64 0, .int .u64 0, .int .u64 0, .int .u64 0] 26)) := make_words w4_410 32 (by decide)
          obtain ⟨w5_426, hw5_426, hbn, hsn, hln⟩ := laid w4_410 #[.int .u64 0, .int .u64 0, .int .u64 0, .int .u64 0, .int .u64 0, .int .u64 0, .int .u64 0, .int .u64 0, .int .u64 0, .int .u64 0, .int .u64 0, .int .u64 0, .int .u64 0, .int .u64 0, .int .u64 0, .int .u64 0, .int .u64 0, .int .u64 0, .int .u64 0, .int .u64 0, .int .u64 0, .int .u64 0, .int .u64 0, .int .u64 0, .int .u64 0, .int .u64 0, .int .u64 0, .int .u64 0, .int .u64 0, .int .u64 0, .int .u64 0, .int .u64 0] 26
          obtain ⟨GW, hGW⟩ : ∃ X, w4_410.heap.size = X := ⟨_, rfl⟩
          rw [hGW] at hln hmk
          rw [hw5_426] at hmk
          have hVGW : V.heap.size ≤ GW := by have := HB_6.out.size; omega
          have HB_10 := hid (HB_6.out.trans (hbn.mono HB_6.out.size))
          have KLB_11 := hid (keep_laid KLB_7.out hbn)
          have HGL_12 := hid (own_grow HGL_8.out hbn)
          have KX_13 := hid (keep_laid KX_9.out hbn)
          clear HB_6 KLB_7 HGL_8 KX_9 hbn hsn
          have KGW_14 := hid (hln)
          clear hln
          go_wp2
          clear hmk hw5_426 hGW
          refine hR' _ _ ⟨⟨w5_426⟩, rfl⟩ ?_
          clear hR' hO R'
          repeat (refine wpMix3_q rfl rfl ?_; go_big_quiet_step (fail); refine wpQuiet_nil ?_)
          refine wpMix3_h rfl fun R' hR' hO => ?_
          go_wp2_with (refine wp_storeP rfl 25 (.tmp 1) (.tmp 24) rfl X 0 _ #[.slice (some ⟨GW, 0, none⟩) 32 32, .slice (some ⟨GL, 0, none⟩) 32 32, .bool false] _ rfl rfl _ KX_13.out (by kernel_rfl) (Nat.le_of_ble_eq_true rfl) (by kernel_rfl) rfl ?_; intro u6_445 a1 a2 a3 a4; have HX9 := hid a1; have HGW9 := hid (a2 GW _ (fun e => absurd e (type_ne KGW_14.out KX_13.out (by decide))) KGW_14.out); have HGL9 := hid (own_keep HGL_12.out fun k o hk ho => a2 k o (own_neT HGL_12.out KX_13.out (by decide) k hk) ho); have HB9 := hid (a3 V.heap.size V (by omega) HB_10.out); clear a1 a2 a3 a4)
          go_wp2
          skip
          refine hR' _ _ ⟨⟨u6_445⟩, rfl⟩ ?_
          clear hR' hO R'
          refine wpMix3_done ?_
          simp only [List.drop_succ_cons, List.drop_nil]
          have hW1 := own_lit (base := V.heap.size) (n := 32) (size := 1) (xs := wcells kt0.W) HGW9.out hVGW (by decide) rfl rfl
          go_wp2
          go_meet
          exact ⟨X, GW, GL, rfl, by omega, HX9, hid ⟨hW1, HGL9.out⟩, HB9⟩
      · skip
        refine wpMix3_h rfl fun R' hR' hO => ?_
        obtain ⟨w3_458, hw3_458, hbn, hsn, hln⟩ := laid w2_215 #[.slice none 0 0, .slice none 0 0, .bool false] 25
        obtain ⟨X, hNMX⟩ : ∃ X, w2_215.heap.size = X := ⟨_, rfl⟩
        rw [hNMX] at hln
        have nLBX : LB < X := by have := lt_laid KLB_3.out; omega
        have hVX : V.heap.size ≤ X := by have := HB_2.out.size; omega
        have HB_4 := hid (HB_2.out.trans (hbn.mono HB_2.out.size))
        have KLB_5 := hid (keep_laid KLB_3.out hbn)
        clear HB_2 KLB_3 hbn hsn
        have KX_6 := hid (hln)
        clear hln
        go_wp2
        skip
        refine hR' _ _ ⟨⟨w3_458⟩, rfl⟩ ?_
        clear hR' hO R'
        refine wpMix3_h2 ?_ ?_
        · skip
          refine wpMix3_h rfl fun R' hR' hO => ?_
          have hmk : (Instr.makeSlice 22 (.int .i64 32) (.int .i64 32)).run Tryz.prog w3_458 = .ok (.slice (some ⟨w3_458.heap.size, 0, none⟩) 32 32) (w3_458.alloc (.cells #[.int .u64 0, .int .u64 0, .int .u64 0, .int .u64 0, .int .u64 0, .int .u64 0, .int .u64 0, .int .u64 0, .int .u64 0, .int .u64 0, .int .u64 0, .int .u64 0, .int .u64 0, .int .u64 0, .int .u64 0, .int .u64 0, .int .u64 0, .int .u64 0, .int .u64 0, .int .u64 0, .int .u64 0, .int .u64 0, .int .u64 0, .int .u64 0, .int .u64 0, .int .u64 0, .int .u64 0, .int .u64 0, .int .u64 0, .int .u64 0, .int .u64 0, .int .u64 0] 26)) := make_words w3_458 32 (by decide)
          obtain ⟨w4_475, hw4_475, hbn, hsn, hln⟩ := laid w3_458 #[.int .u64 0, .int .u64 0, .int .u64 0, .int .u64 0, .int .u64 0, .int .u64 0, .int .u64 0, .int .u64 0, .int .u64 0, .int .u64 0, .int .u64 0, .int .u64 0, .int .u64 0, .int .u64 0, .int .u64 0, .int .u64 0, .int .u64 0, .int .u64 0, .int .u64 0, .int .u64 0, .int .u64 0, .int .u64 0, .int .u64 0, .int .u64 0, .int .u64 0, .int .u64 0, .int .u64 0, .int .u64 0, .int .u64 0, .int .u64 0, .int .u64 0, .int .u64 0] 26
          obtain ⟨GW, hGW⟩ : ∃ X, w3_458.heap.size = X := ⟨_, rfl⟩
          rw [hGW] at hln hmk
          rw [hw4_475] at hmk
          have hVGW : V.heap.size ≤ GW := by have := HB_4.out.size; omega
          have HB_7 := hid (HB_4.out.trans (hbn.mono HB_4.out.size))
          have KLB_8 := hid (keep_laid KLB_5.out hbn)
          have KX_9 := hid (keep_laid KX_6.out hbn)
          clear HB_4 KLB_5 KX_6 hbn hsn
          have KGW_10 := hid (hln)
          clear hln
          go_wp2
          clear hmk hw4_475 hGW
          refine hR' _ _ ⟨⟨w4_475⟩, rfl⟩ ?_
          clear hR' hO R'
          refine wpMix3_h rfl fun R' hR' hO => ?_
          go_wp2_with fail
          refine (RepeatB_any true 32 LB w4_475 (cell_laid (i := 0) KLB_8.out rfl) (lt_laid KLB_8.out) (by decide) Mul_32).mono ?_
          rintro e w5_492 ⟨GL, rfl, hol, hbn⟩
          have hVGL : V.heap.size ≤ GL := Nat.le_trans HB_7.out.size (own_base_le hol)
          have HGL0 := hid (own_base hol HB_7.out.size)
          have HB_11 := hid (HB_7.out.trans (hbn.mono HB_7.out.size))
          have KLB_12 := hid (keep_laid KLB_8.out hbn)
          have KX_13 := hid (keep_laid KX_9.out hbn)
          have KGW_14 := hid (keep_laid KGW_10.out hbn)
          clear HB_7 KLB_8 KX_9 KGW_10 hbn hol
          have HGL_0 := HGL0
          clear HGL0
          go_wp2
          skip
          refine hR' _ _ ⟨⟨w5_492⟩, rfl⟩ ?_
          clear hR' hO R'
          repeat (refine wpMix3_q rfl rfl ?_; go_big_quiet_step (fail); refine wpQuiet_nil ?_)
          refine wpMix3_h rfl fun R' hR' hO => ?_
          go_wp2_with (refine wp_storeP rfl 25 (.tmp 1) (.tmp 24) rfl X 0 _ #[.slice (some ⟨GW, 0, none⟩) 32 32, .slice (some ⟨GL, 0, none⟩) 32 32, .bool false] _ rfl rfl _ KX_13.out (by kernel_rfl) (Nat.le_of_ble_eq_true rfl) (by kernel_rfl) rfl ?_; intro u6_510 a1 a2 a3 a4; have HX9 := hid a1; have HGW9 := hid (a2 GW _ (fun e => absurd e (type_ne KGW_14.out KX_13.out (by decide))) KGW_14.out); have HGL9 := hid (own_keep HGL_0.out fun k o hk ho => a2 k o (own_neT HGL_0.out KX_13.out (by decide) k hk) ho); have HB9 := hid (a3 V.heap.size V (by omega) HB_11.out); clear a1 a2 a3 a4)
          go_wp2
          skip
          refine hR' _ _ ⟨⟨u6_510⟩, rfl⟩ ?_
          clear hR' hO R'
          refine wpMix3_done ?_
          simp only [List.drop_succ_cons, List.drop_nil]
          have hW1 := own_lit (base := V.heap.size) (n := 32) (size := 1) (xs := wcells kt0.W) HGW9.out hVGW (by decide) rfl rfl
          go_wp2
          go_meet
          exact ⟨X, GW, GL, rfl, by omega, HX9, hid ⟨hW1, HGL9.out⟩, HB9⟩
        · skip
          refine wpMix3_h rfl fun R' hR' hO => ?_
          go_wp2_with fail
          refine (RepeatB_any true 32 LB w3_458 (cell_laid (i := 0) KLB_5.out rfl) (lt_laid KLB_5.out) (by decide) Mul_32).mono ?_
          rintro e w4_523 ⟨GL, rfl, hol, hbn⟩
          have hVGL : V.heap.size ≤ GL := Nat.le_trans HB_4.out.size (own_base_le hol)
          have HGL0 := hid (own_base hol HB_4.out.size)
          have HB_7 := hid (HB_4.out.trans (hbn.mono HB_4.out.size))
          have KLB_8 := hid (keep_laid KLB_5.out hbn)
          have KX_9 := hid (keep_laid KX_6.out hbn)
          clear HB_4 KLB_5 KX_6 hbn hol
          have HGL_0 := HGL0
          clear HGL0
          go_wp2
          skip
          refine hR' _ _ ⟨⟨w4_523⟩, rfl⟩ ?_
          clear hR' hO R'
          refine wpMix3_h rfl fun R' hR' hO => ?_
          have hmk : (Instr.makeSlice 22 (.int .i64 32) (.int .i64 32)).run Tryz.prog w4_523 = .ok (.slice (some ⟨w4_523.heap.size, 0, none⟩) 32 32) (w4_523.alloc (.cells #[.int .u64 0, .int .u64 0, .int .u64 0, .int .u64 0, .int .u64 0, .int .u64 0, .int .u64 0, .int .u64 0, .int .u64 0, .int .u64 0, .int .u64 0, .int .u64 0, .int .u64 0, .int .u64 0, .int .u64 0, .int .u64 0, .int .u64 0, .int .u64 0, .int .u64 0, .int .u64 0, .int .u64 0, .int .u64 0, .int .u64 0, .int .u64 0, .int .u64 0, .int .u64 0, .int .u64 0, .int .u64 0, .int .u64 0, .int .u64 0, .int .u64 0, .int .u64 0] 26)) := make_words w4_523 32 (by decide)
          obtain ⟨w5_539, hw5_539, hbn, hsn, hln⟩ := laid w4_523 #[.int .u64 0, .int .u64 0, .int .u64 0, .int .u64 0, .int .u64 0, .int .u64 0, .int .u64 0, .int .u64 0, .int .u64 0, .int .u64 0, .int .u64 0, .int .u64 0, .int .u64 0, .int .u64 0, .int .u64 0, .int .u64 0, .int .u64 0, .int .u64 0, .int .u64 0, .int .u64 0, .int .u64 0, .int .u64 0, .int .u64 0, .int .u64 0, .int .u64 0, .int .u64 0, .int .u64 0, .int .u64 0, .int .u64 0, .int .u64 0, .int .u64 0, .int .u64 0] 26
          obtain ⟨GW, hGW⟩ : ∃ X, w4_523.heap.size = X := ⟨_, rfl⟩
          rw [hGW] at hln hmk
          rw [hw5_539] at hmk
          have hVGW : V.heap.size ≤ GW := by have := HB_7.out.size; omega
          have HB_10 := hid (HB_7.out.trans (hbn.mono HB_7.out.size))
          have KLB_11 := hid (keep_laid KLB_8.out hbn)
          have KX_12 := hid (keep_laid KX_9.out hbn)
          have HGL_13 := hid (own_grow HGL_0.out hbn)
          clear HB_7 KLB_8 KX_9 HGL_0 hbn hsn
          have KGW_14 := hid (hln)
          clear hln
          go_wp2
          clear hmk hw5_539 hGW
          refine hR' _ _ ⟨⟨w5_539⟩, rfl⟩ ?_
          clear hR' hO R'
          repeat (refine wpMix3_q rfl rfl ?_; go_big_quiet_step (fail); refine wpQuiet_nil ?_)
          refine wpMix3_h rfl fun R' hR' hO => ?_
          go_wp2_with (refine wp_storeP rfl 25 (.tmp 1) (.tmp 24) rfl X 0 _ #[.slice (some ⟨GW, 0, none⟩) 32 32, .slice (some ⟨GL, 0, none⟩) 32 32, .bool false] _ rfl rfl _ KX_12.out (by kernel_rfl) (Nat.le_of_ble_eq_true rfl) (by kernel_rfl) rfl ?_; intro u6_558 a1 a2 a3 a4; have HX9 := hid a1; have HGW9 := hid (a2 GW _ (fun e => absurd e (type_ne KGW_14.out KX_12.out (by decide))) KGW_14.out); have HGL9 := hid (own_keep HGL_13.out fun k o hk ho => a2 k o (own_neT HGL_13.out KX_12.out (by decide) k hk) ho); have HB9 := hid (a3 V.heap.size V (by omega) HB_10.out); clear a1 a2 a3 a4)
          go_wp2
          skip
          refine hR' _ _ ⟨⟨u6_558⟩, rfl⟩ ?_
          clear hR' hO R'
          refine wpMix3_done ?_
          simp only [List.drop_succ_cons, List.drop_nil]
          have hW1 := own_lit (base := V.heap.size) (n := 32) (size := 1) (xs := wcells kt0.W) HGW9.out hVGW (by decide) rfl rfl
          go_wp2
          go_meet
          exact ⟨X, GW, GL, rfl, by omega, HX9, hid ⟨hW1, HGL9.out⟩, HB9⟩
    · skip
      refine wpMix3_h rfl fun R' hR' hO => ?_
      obtain ⟨w2_571, hw2_571, hbn, hsn, hln⟩ := laid D1_11 #[.slice none 0 0, .slice none 0 0, .bool false] 25
      obtain ⟨X, hNMX⟩ : ∃ X, D1_11.heap.size = X := ⟨_, rfl⟩
      rw [hNMX] at hln
      have hVX : V.heap.size ≤ X := by have := HB_1.out.size; omega
      have HB_2 := hid (HB_1.out.trans (hbn.mono HB_1.out.size))
      clear HB_1 hbn hsn
      have KX_3 := hid (hln)
      clear hln
      go_wp2
      skip
      refine hR' _ _ ⟨⟨w2_571⟩, rfl⟩ ?_
      clear hR' hO R'
      refine wpMix3_h2 ?_ ?_
      · skip
        refine wpMix3_h rfl fun R' hR' hO => ?_
        have hmk : (Instr.makeSlice 22 (.int .i64 32) (.int .i64 32)).run Tryz.prog w2_571 = .ok (.slice (some ⟨w2_571.heap.size, 0, none⟩) 32 32) (w2_571.alloc (.cells #[.int .u64 0, .int .u64 0, .int .u64 0, .int .u64 0, .int .u64 0, .int .u64 0, .int .u64 0, .int .u64 0, .int .u64 0, .int .u64 0, .int .u64 0, .int .u64 0, .int .u64 0, .int .u64 0, .int .u64 0, .int .u64 0, .int .u64 0, .int .u64 0, .int .u64 0, .int .u64 0, .int .u64 0, .int .u64 0, .int .u64 0, .int .u64 0, .int .u64 0, .int .u64 0, .int .u64 0, .int .u64 0, .int .u64 0, .int .u64 0, .int .u64 0, .int .u64 0] 26)) := make_words w2_571 32 (by decide)
        obtain ⟨w3_586, hw3_586, hbn, hsn, hln⟩ := laid w2_571 #[.int .u64 0, .int .u64 0, .int .u64 0, .int .u64 0, .int .u64 0, .int .u64 0, .int .u64 0, .int .u64 0, .int .u64 0, .int .u64 0, .int .u64 0, .int .u64 0, .int .u64 0, .int .u64 0, .int .u64 0, .int .u64 0, .int .u64 0, .int .u64 0, .int .u64 0, .int .u64 0, .int .u64 0, .int .u64 0, .int .u64 0, .int .u64 0, .int .u64 0, .int .u64 0, .int .u64 0, .int .u64 0, .int .u64 0, .int .u64 0, .int .u64 0, .int .u64 0] 26
        obtain ⟨GW, hGW⟩ : ∃ X, w2_571.heap.size = X := ⟨_, rfl⟩
        rw [hGW] at hln hmk
        rw [hw3_586] at hmk
        have hVGW : V.heap.size ≤ GW := by have := HB_2.out.size; omega
        have HB_4 := hid (HB_2.out.trans (hbn.mono HB_2.out.size))
        have KX_5 := hid (keep_laid KX_3.out hbn)
        clear HB_2 KX_3 hbn hsn
        have KGW_6 := hid (hln)
        clear hln
        go_wp2
        clear hmk hw3_586 hGW
        refine hR' _ _ ⟨⟨w3_586⟩, rfl⟩ ?_
        clear hR' hO R'
        refine wpMix3_h rfl fun R' hR' hO => ?_
        obtain ⟨w4_602, hw4_602, hbn, hsn, hln⟩ := laid w3_586 #[.bool true] 4
        obtain ⟨LB, hNMLB⟩ : ∃ X, w3_586.heap.size = X := ⟨_, rfl⟩
        rw [hNMLB] at hln
        have nXLB : X < LB := by have := lt_laid KX_5.out; omega
        have nGWLB : GW < LB := by have := lt_laid KGW_6.out; omega
        have hVLB : V.heap.size ≤ LB := by have := HB_4.out.size; omega
        have HB_7 := hid (HB_4.out.trans (hbn.mono HB_4.out.size))
        have KX_8 := hid (keep_laid KX_5.out hbn)
        have KGW_9 := hid (keep_laid KGW_6.out hbn)
        clear HB_4 KX_5 KGW_6 hbn hsn
        have KLB_10 := hid (hln)
        clear hln
        go_wp2
        skip
        refine hR' _ _ ⟨⟨w4_602⟩, rfl⟩ ?_
        clear hR' hO R'
        refine wpMix3_h rfl fun R' hR' hO => ?_
        go_wp2_with fail
        refine (RepeatB_any true 32 LB w4_602 (cell_laid (i := 0) KLB_10.out rfl) (lt_laid KLB_10.out) (by decide) Mul_32).mono ?_
        rintro e w5_619 ⟨GL, rfl, hol, hbn⟩
        have hVGL : V.heap.size ≤ GL := Nat.le_trans HB_7.out.size (own_base_le hol)
        have HGL0 := hid (own_base hol HB_7.out.size)
        have HB_11 := hid (HB_7.out.trans (hbn.mono HB_7.out.size))
        have KX_12 := hid (keep_laid KX_8.out hbn)
        have KGW_13 := hid (keep_laid KGW_9.out hbn)
        have KLB_14 := hid (keep_laid KLB_10.out hbn)
        clear HB_7 KX_8 KGW_9 KLB_10 hbn hol
        have HGL_0 := HGL0
        clear HGL0
        go_wp2
        skip
        refine hR' _ _ ⟨⟨w5_619⟩, rfl⟩ ?_
        clear hR' hO R'
        repeat (refine wpMix3_q rfl rfl ?_; go_big_quiet_step (fail); refine wpQuiet_nil ?_)
        refine wpMix3_h rfl fun R' hR' hO => ?_
        go_wp2_with (refine wp_storeP rfl 25 (.tmp 1) (.tmp 24) rfl X 0 _ #[.slice (some ⟨GW, 0, none⟩) 32 32, .slice (some ⟨GL, 0, none⟩) 32 32, .bool false] _ rfl rfl _ KX_12.out (by kernel_rfl) (Nat.le_of_ble_eq_true rfl) (by kernel_rfl) rfl ?_; intro u6_637 a1 a2 a3 a4; have HX9 := hid a1; have HGW9 := hid (a2 GW _ (fun e => absurd e (type_ne KGW_13.out KX_12.out (by decide))) KGW_13.out); have HGL9 := hid (own_keep HGL_0.out fun k o hk ho => a2 k o (own_neT HGL_0.out KX_12.out (by decide) k hk) ho); have HB9 := hid (a3 V.heap.size V (by omega) HB_11.out); clear a1 a2 a3 a4)
        go_wp2
        skip
        refine hR' _ _ ⟨⟨u6_637⟩, rfl⟩ ?_
        clear hR' hO R'
        refine wpMix3_done ?_
        simp only [List.drop_succ_cons, List.drop_nil]
        have hW1 := own_lit (base := V.heap.size) (n := 32) (size := 1) (xs := wcells kt0.W) HGW9.out hVGW (by decide) rfl rfl
        go_wp2
        go_meet
        exact ⟨X, GW, GL, rfl, by omega, HX9, hid ⟨hW1, HGL9.out⟩, HB9⟩
      · skip
        refine wpMix3_h rfl fun R' hR' hO => ?_
        obtain ⟨w3_650, hw3_650, hbn, hsn, hln⟩ := laid w2_571 #[.bool true] 4
        obtain ⟨LB, hNMLB⟩ : ∃ X, w2_571.heap.size = X := ⟨_, rfl⟩
        rw [hNMLB] at hln
        have nXLB : X < LB := by have := lt_laid KX_3.out; omega
        have hVLB : V.heap.size ≤ LB := by have := HB_2.out.size; omega
        have HB_4 := hid (HB_2.out.trans (hbn.mono HB_2.out.size))
        have KX_5 := hid (keep_laid KX_3.out hbn)
        clear HB_2 KX_3 hbn hsn
        have KLB_6 := hid (hln)
        clear hln
        go_wp2
        skip
        refine hR' _ _ ⟨⟨w3_650⟩, rfl⟩ ?_
        clear hR' hO R'
        refine wpMix3_h2 ?_ ?_
        · skip
          refine wpMix3_h rfl fun R' hR' hO => ?_
          have hmk : (Instr.makeSlice 22 (.int .i64 32) (.int .i64 32)).run Tryz.prog w3_650 = .ok (.slice (some ⟨w3_650.heap.size, 0, none⟩) 32 32) (w3_650.alloc (.cells #[.int .u64 0, .int .u64 0, .int .u64 0, .int .u64 0, .int .u64 0, .int .u64 0, .int .u64 0, .int .u64 0, .int .u64 0, .int .u64 0, .int .u64 0, .int .u64 0, .int .u64 0, .int .u64 0, .int .u64 0, .int .u64 0, .int .u64 0, .int .u64 0, .int .u64 0, .int .u64 0, .int .u64 0, .int .u64 0, .int .u64 0, .int .u64 0, .int .u64 0, .int .u64 0, .int .u64 0, .int .u64 0, .int .u64 0, .int .u64 0, .int .u64 0, .int .u64 0] 26)) := make_words w3_650 32 (by decide)
          obtain ⟨w4_667, hw4_667, hbn, hsn, hln⟩ := laid w3_650 #[.int .u64 0, .int .u64 0, .int .u64 0, .int .u64 0, .int .u64 0, .int .u64 0, .int .u64 0, .int .u64 0, .int .u64 0, .int .u64 0, .int .u64 0, .int .u64 0, .int .u64 0, .int .u64 0, .int .u64 0, .int .u64 0, .int .u64 0, .int .u64 0, .int .u64 0, .int .u64 0, .int .u64 0, .int .u64 0, .int .u64 0, .int .u64 0, .int .u64 0, .int .u64 0, .int .u64 0, .int .u64 0, .int .u64 0, .int .u64 0, .int .u64 0, .int .u64 0] 26
          obtain ⟨GW, hGW⟩ : ∃ X, w3_650.heap.size = X := ⟨_, rfl⟩
          rw [hGW] at hln hmk
          rw [hw4_667] at hmk
          have hVGW : V.heap.size ≤ GW := by have := HB_4.out.size; omega
          have HB_7 := hid (HB_4.out.trans (hbn.mono HB_4.out.size))
          have KX_8 := hid (keep_laid KX_5.out hbn)
          have KLB_9 := hid (keep_laid KLB_6.out hbn)
          clear HB_4 KX_5 KLB_6 hbn hsn
          have KGW_10 := hid (hln)
          clear hln
          go_wp2
          clear hmk hw4_667 hGW
          refine hR' _ _ ⟨⟨w4_667⟩, rfl⟩ ?_
          clear hR' hO R'
          refine wpMix3_h rfl fun R' hR' hO => ?_
          go_wp2_with fail
          refine (RepeatB_any true 32 LB w4_667 (cell_laid (i := 0) KLB_9.out rfl) (lt_laid KLB_9.out) (by decide) Mul_32).mono ?_
          rintro e w5_684 ⟨GL, rfl, hol, hbn⟩
          have hVGL : V.heap.size ≤ GL := Nat.le_trans HB_7.out.size (own_base_le hol)
          have HGL0 := hid (own_base hol HB_7.out.size)
          have HB_11 := hid (HB_7.out.trans (hbn.mono HB_7.out.size))
          have KX_12 := hid (keep_laid KX_8.out hbn)
          have KLB_13 := hid (keep_laid KLB_9.out hbn)
          have KGW_14 := hid (keep_laid KGW_10.out hbn)
          clear HB_7 KX_8 KLB_9 KGW_10 hbn hol
          have HGL_0 := HGL0
          clear HGL0
          go_wp2
          skip
          refine hR' _ _ ⟨⟨w5_684⟩, rfl⟩ ?_
          clear hR' hO R'
          repeat (refine wpMix3_q rfl rfl ?_; go_big_quiet_step (fail); refine wpQuiet_nil ?_)
          refine wpMix3_h rfl fun R' hR' hO => ?_
          go_wp2_with (refine wp_storeP rfl 25 (.tmp 1) (.tmp 24) rfl X 0 _ #[.slice (some ⟨GW, 0, none⟩) 32 32, .slice (some ⟨GL, 0, none⟩) 32 32, .bool false] _ rfl rfl _ KX_12.out (by kernel_rfl) (Nat.le_of_ble_eq_true rfl) (by kernel_rfl) rfl ?_; intro u6_702 a1 a2 a3 a4; have HX9 := hid a1; have HGW9 := hid (a2 GW _ (fun e => absurd e (type_ne KGW_14.out KX_12.out (by decide))) KGW_14.out); have HGL9 := hid (own_keep HGL_0.out fun k o hk ho => a2 k o (own_neT HGL_0.out KX_12.out (by decide) k hk) ho); have HB9 := hid (a3 V.heap.size V (by omega) HB_11.out); clear a1 a2 a3 a4)
          go_wp2
          skip
          refine hR' _ _ ⟨⟨u6_702⟩, rfl⟩ ?_
          clear hR' hO R'
          refine wpMix3_done ?_
          simp only [List.drop_succ_cons, List.drop_nil]
          have hW1 := own_lit (base := V.heap.size) (n := 32) (size := 1) (xs := wcells kt0.W) HGW9.out hVGW (by decide) rfl rfl
          go_wp2
          go_meet
          exact ⟨X, GW, GL, rfl, by omega, HX9, hid ⟨hW1, HGL9.out⟩, HB9⟩
        · skip
          refine wpMix3_h rfl fun R' hR' hO => ?_
          go_wp2_with fail
          refine (RepeatB_any true 32 LB w3_650 (cell_laid (i := 0) KLB_6.out rfl) (lt_laid KLB_6.out) (by decide) Mul_32).mono ?_
          rintro e w4_715 ⟨GL, rfl, hol, hbn⟩
          have hVGL : V.heap.size ≤ GL := Nat.le_trans HB_4.out.size (own_base_le hol)
          have HGL0 := hid (own_base hol HB_4.out.size)
          have HB_7 := hid (HB_4.out.trans (hbn.mono HB_4.out.size))
          have KX_8 := hid (keep_laid KX_5.out hbn)
          have KLB_9 := hid (keep_laid KLB_6.out hbn)
          clear HB_4 KX_5 KLB_6 hbn hol
          have HGL_0 := HGL0
          clear HGL0
          go_wp2
          skip
          refine hR' _ _ ⟨⟨w4_715⟩, rfl⟩ ?_
          clear hR' hO R'
          refine wpMix3_h rfl fun R' hR' hO => ?_
          have hmk : (Instr.makeSlice 22 (.int .i64 32) (.int .i64 32)).run Tryz.prog w4_715 = .ok (.slice (some ⟨w4_715.heap.size, 0, none⟩) 32 32) (w4_715.alloc (.cells #[.int .u64 0, .int .u64 0, .int .u64 0, .int .u64 0, .int .u64 0, .int .u64 0, .int .u64 0, .int .u64 0, .int .u64 0, .int .u64 0, .int .u64 0, .int .u64 0, .int .u64 0, .int .u64 0, .int .u64 0, .int .u64 0, .int .u64 0, .int .u64 0, .int .u64 0, .int .u64 0, .int .u64 0, .int .u64 0, .int .u64 0, .int .u64 0, .int .u64 0, .int .u64 0, .int .u64 0, .int .u64 0, .int .u64 0, .int .u64 0, .int .u64 0, .int .u64 0] 26)) := make_words w4_715 32 (by decide)
          obtain ⟨w5_731, hw5_731, hbn, hsn, hln⟩ := laid w4_715 #[.int .u64 0, .int .u64 0, .int .u64 0, .int .u64 0, .int .u64 0, .int .u64 0, .int .u64 0, .int .u64 0, .int .u64 0, .int .u64 0, .int .u64 0, .int .u64 0, .int .u64 0, .int .u64 0, .int .u64 0, .int .u64 0, .int .u64 0, .int .u64 0, .int .u64 0, .int .u64 0, .int .u64 0, .int .u64 0, .int .u64 0, .int .u64 0, .int .u64 0, .int .u64 0, .int .u64 0, .int .u64 0, .int .u64 0, .int .u64 0, .int .u64 0, .int .u64 0] 26
          obtain ⟨GW, hGW⟩ : ∃ X, w4_715.heap.size = X := ⟨_, rfl⟩
          rw [hGW] at hln hmk
          rw [hw5_731] at hmk
          have hVGW : V.heap.size ≤ GW := by have := HB_7.out.size; omega
          have HB_10 := hid (HB_7.out.trans (hbn.mono HB_7.out.size))
          have KX_11 := hid (keep_laid KX_8.out hbn)
          have KLB_12 := hid (keep_laid KLB_9.out hbn)
          have HGL_13 := hid (own_grow HGL_0.out hbn)
          clear HB_7 KX_8 KLB_9 HGL_0 hbn hsn
          have KGW_14 := hid (hln)
          clear hln
          go_wp2
          clear hmk hw5_731 hGW
          refine hR' _ _ ⟨⟨w5_731⟩, rfl⟩ ?_
          clear hR' hO R'
          repeat (refine wpMix3_q rfl rfl ?_; go_big_quiet_step (fail); refine wpQuiet_nil ?_)
          refine wpMix3_h rfl fun R' hR' hO => ?_
          go_wp2_with (refine wp_storeP rfl 25 (.tmp 1) (.tmp 24) rfl X 0 _ #[.slice (some ⟨GW, 0, none⟩) 32 32, .slice (some ⟨GL, 0, none⟩) 32 32, .bool false] _ rfl rfl _ KX_11.out (by kernel_rfl) (Nat.le_of_ble_eq_true rfl) (by kernel_rfl) rfl ?_; intro u6_750 a1 a2 a3 a4; have HX9 := hid a1; have HGW9 := hid (a2 GW _ (fun e => absurd e (type_ne KGW_14.out KX_11.out (by decide))) KGW_14.out); have HGL9 := hid (own_keep HGL_13.out fun k o hk ho => a2 k o (own_neT HGL_13.out KX_11.out (by decide) k hk) ho); have HB9 := hid (a3 V.heap.size V (by omega) HB_10.out); clear a1 a2 a3 a4)
          go_wp2
          skip
          refine hR' _ _ ⟨⟨u6_750⟩, rfl⟩ ?_
          clear hR' hO R'
          refine wpMix3_done ?_
          simp only [List.drop_succ_cons, List.drop_nil]
          have hW1 := own_lit (base := V.heap.size) (n := 32) (size := 1) (xs := wcells kt0.W) HGW9.out hVGW (by decide) rfl rfl
          go_wp2
          go_meet
          exact ⟨X, GW, GL, rfl, by omega, HX9, hid ⟨hW1, HGL9.out⟩, HB9⟩
  case rest =>
    clear HB
    obtain ⟨X, GW, GL, rfl, hVX, HX0, HO0, HB0⟩ := hcut
    obtain ⟨w0, hw0⟩ : ∃ W, W = wc := ⟨_, rfl⟩
    subst hw0
    obtain ⟨wa0, hwa0⟩ : ∃ a, some (⟨GW, 0, none⟩ : Addr) = a := ⟨_, rfl⟩
    obtain ⟨la0, hla0⟩ : ∃ a, some (⟨GL, 0, none⟩ : Addr) = a := ⟨_, rfl⟩
    obtain ⟨wc0, hwc0⟩ : ∃ a : Nat, 32 = a := ⟨_, rfl⟩
    have HX0' : Hid (w0.heap[X]? = some (.cells #[.slice (some ⟨GW, 0, none⟩) kt0.W.length 32, .slice (some ⟨GL, 0, none⟩) kt0.L.length 32, .bool kt0.F] 25 (0, 0))) := hid HX0.out
    have K0 := hid k_lay
    have K1 := hid k_ins1
    have K2 := hid k_ins2
    have K3 := hid k_rows
    have K4 := hid k_find1
    have K5 := hid k_find2
    have K6 := hid k_ins3
    have K7 := hid k_rem
    have HXL := hid kxs_ok
    have hz0 : zeroM.W.length = 0 := rfl
    have hz1 : zeroM.L.length = 0 := rfl
    have hz2 : zeroM.F = false := rfl
    obtain ⟨M0, hM0⟩ : ∃ M, kt0 = M := ⟨_, rfl⟩
    obtain ⟨M1, hM1⟩ : ∃ M, kt1 = M := ⟨_, rfl⟩
    obtain ⟨M2, hM2⟩ : ∃ M, kt2 = M := ⟨_, rfl⟩
    obtain ⟨M3, hM3⟩ : ∃ M, kt3 = M := ⟨_, rfl⟩
    obtain ⟨M4, hM4⟩ : ∃ M, kt4 = M := ⟨_, rfl⟩
    rw [hM0, hwa0, hla0, hwc0] at HX0' HO0
    rw [hM0, hM1] at K0
    rw [hM1, hM2] at K1
    rw [hM2, hM3] at K2
    rw [hM3] at K3 K4 K5 K6 K7
    rw [hM4] at K7
    have C0 : Hid (∀ (W : World) (wa : Option Addr) (wc : Nat) (la : Option Addr) (lc : Nat), MemL W wa wc la lc M0 → Glob W → Calls Tryz.prog 19 #[.agg #[.slice wa M0.W.length wc, .slice la M0.L.length lc, .bool M0.F], .int .u64 0, .int .u64 4, .int .i64 4] W (fun e W' => ∃ wa wc la lc, e = .returned (.tuple #[.agg #[.slice wa M1.W.length wc, .slice la M1.L.length lc, .bool M1.F], .int .i64 0]) ∧ MemO W.heap.size wa wc la lc M1 W' ∧ Below W.heap.size W W')) := hid (fun W wa wc la lc h hg => K0.out W wa wc la lc h hg)
    have C1 : Hid (∀ (W : World) (wa : Option Addr) (wc : Nat) (la : Option Addr) (lc : Nat), MemL W wa wc la lc M1 → Glob W → Calls Tryz.prog 15 #[.agg #[.slice wa M1.W.length wc, .slice la M1.L.length lc, .bool M1.F], .int .u64 0, .int .u64 8, .int .u64 1, .int .u64 10] W (fun e W' => ∃ wa wc la lc, e = .returned (.tuple #[.agg #[.slice wa M2.W.length wc, .slice la M2.L.length lc, .bool M2.F], .int .i64 7, .int .i64 0]) ∧ MemO W.heap.size wa wc la lc M2 W' ∧ Below W.heap.size W W')) := hid (fun W wa wc la lc h hg => K1.out W wa wc la lc h hg)
    have C2 : Hid (∀ (W : World) (wa : Option Addr) (wc : Nat) (la : Option Addr) (lc : Nat), MemL W wa wc la lc M2 → Glob W → Calls Tryz.prog 15 #[.agg #[.slice wa M2.W.length wc, .slice la M2.L.length lc, .bool M2.F], .int .u64 0, .int .u64 12, .int .u64 3, .int .u64 30] W (fun e W' => ∃ wa wc la lc, e = .returned (.tuple #[.agg #[.slice wa M3.W.length wc, .slice la M3.L.length lc, .bool M3.F], .int .i64 7, .int .i64 0]) ∧ MemO W.heap.size wa wc la lc M3 W' ∧ Below W.heap.size W W')) := hid (fun W wa wc la lc h hg => K2.out W wa wc la lc h hg)
    have C3 : Hid (∀ (W : World) (wa : Option Addr) (wc : Nat) (la : Option Addr) (lc : Nat), MemL W wa wc la lc M3 → Glob W → Calls Tryz.prog 8 #[.agg #[.slice wa M3.W.length wc, .slice la M3.L.length lc, .bool M3.F], .int .u64 0] W (fun e W' => ∃ va vc, e = .returned (.tuple #[.slice va 2 vc, .int .i64 0]) ∧ W'.ownsRow W.heap.size 73 4 (.slice va 2 vc) 2 (rwcells kxs) ∧ Below W.heap.size W W')) := hid (fun W wa wc la lc h hg => K3.out W wa wc la lc h hg)
    have C4 : Hid (∀ (W : World) (wa : Option Addr) (wc : Nat) (la : Option Addr) (lc : Nat), MemL W wa wc la lc M3 → Glob W → Calls Tryz.prog 12 #[.agg #[.slice wa M3.W.length wc, .slice la M3.L.length lc, .bool M3.F], .int .u64 0, .int .u64 1] W (Ret (.tuple #[.int .u64 10, .int .i64 5, .int .i64 0]) W)) := hid (fun W wa wc la lc h hg => K4.out W wa wc la lc h hg)
    have C5 : Hid (∀ (W : World) (wa : Option Addr) (wc : Nat) (la : Option Addr) (lc : Nat), MemL W wa wc la lc M3 → Glob W → Calls Tryz.prog 12 #[.agg #[.slice wa M3.W.length wc, .slice la M3.L.length lc, .bool M3.F], .int .u64 0, .int .u64 2] W (Ret (.tuple #[.int .u64 0, .int .i64 0, .int .i64 4]) W)) := hid (fun W wa wc la lc h hg => K5.out W wa wc la lc h hg)
    have C6 : Hid (∀ (W : World) (wa : Option Addr) (wc : Nat) (la : Option Addr) (lc : Nat), MemL W wa wc la lc M3 → Glob W → Calls Tryz.prog 15 #[.agg #[.slice wa M3.W.length wc, .slice la M3.L.length lc, .bool M3.F], .int .u64 0, .int .u64 16, .int .u64 1, .int .u64 11] W (fun e W' => ∃ wa wc la lc, e = .returned (.tuple #[.agg #[.slice wa 0 wc, .slice la 0 lc, .bool false], .int .i64 0, .int .i64 5]) ∧ MemO W.heap.size wa wc la lc zeroM W' ∧ Below W.heap.size W W')) := hid (fun W wa wc la lc h hg => K6.out W wa wc la lc h hg)
    have C7 : Hid (∀ (W : World) (wa : Option Addr) (wc : Nat) (la : Option Addr) (lc : Nat), MemL W wa wc la lc M3 → Glob W → Calls Tryz.prog 16 #[.agg #[.slice wa M3.W.length wc, .slice la M3.L.length lc, .bool M3.F], .int .u64 0, .int .u64 1] W (fun e W' => ∃ wa wc la lc, e = .returned (.tuple #[.agg #[.slice wa M4.W.length wc, .slice la M4.L.length lc, .bool M4.F], .int .u64 8, .int .i64 0]) ∧ MemO W.heap.size wa wc la lc M4 W' ∧ Below W.heap.size W W')) := hid (fun W wa wc la lc h hg => K7.out W wa wc la lc h hg)
    clear K0 K1 K2 K3 K4 K5 K6 K7 HX0 hz0 hz1 hz2 hM0 hM1 hM2 hM3 hM4 hwa0 hla0 hwc0
    have HX0 := HX0'
    clear HX0'
    have x0 := cell_laid (i := 0) HX0.out rfl
    have x1 := cell_laid (i := 1) HX0.out rfl
    have x2 := cell_laid (i := 2) HX0.out rfl
    have e0w := HO0.out.memL.w.len
    have e0l := HO0.out.memL.l.len
    go_wp2_with fail
    refine (C0.out w0 wa0 wc0 la0 wc0 HO0.out.memL (HG.out.grow HB0.out)).mono ?_
    rintro e v1 ⟨wa1, wc1, la1, lc1, rfl, ho, hb⟩
    have HXv := hid (keep_laid HX0.out hb)
    have HOv := hid (ho.base HB0.out.size)
    have HBv := hid (step HB0.out hb)
    clear ho hb x0 x1 x2 HX0 HO0 HB0 C0 e0w e0l
    have evw := HOv.out.memL.w.len
    have evl := HOv.out.memL.l.len
    go_upto_region 3 with (refine wp_storeP rfl 25 (.tmp 1) (.tmp 28) rfl X 0 _ #[.slice wa1 M1.W.length wc1, .slice la1 M1.L.length lc1, .bool M1.F] _ rfl rfl _ HXv.out (by kernel_rfl) (Nat.le_of_ble_eq_true rfl) (by kernel_rfl) rfl ?_; intro w1 a1 a2 a3 a4; have HX1 := hid a1; have HB1 := hid (a3 V.heap.size V (by omega) HBv.out); have HO1 : Hid (MemO V.heap.size wa1 wc1 la1 lc1 M1 w1) := hid ⟨own_keep HOv.out.w fun j o hj ho => a2 j o (fun e => own_neP HOv.out.w HXv.out (by decide) (by rw [← e]; exact hj)) ho, own_keep HOv.out.l fun j o hj ho => a2 j o (fun e => own_neP HOv.out.l HXv.out (by decide) (by rw [← e]; exact hj)) ho⟩; clear a1 a2 a3 a4)
    try simp only [Act.put]
    clear HXv HOv HBv evw evl
    have x0 := cell_laid (i := 0) HX1.out rfl
    have x1 := cell_laid (i := 1) HX1.out rfl
    have x2 := cell_laid (i := 2) HX1.out rfl
    have e1w := HO1.out.memL.w.len
    have e1l := HO1.out.memL.l.len
    go_wp2_with fail
    refine (C1.out w1 wa1 wc1 la1 lc1 HO1.out.memL (HG.out.grow HB1.out)).mono ?_
    rintro e v2 ⟨wa2, wc2, la2, lc2, rfl, ho, hb⟩
    have HXv := hid (keep_laid HX1.out hb)
    have HOv := hid (ho.base HB1.out.size)
    have HBv := hid (step HB1.out hb)
    clear ho hb x0 x1 x2 HX1 HO1 HB1 C1 e1w e1l
    have evw := HOv.out.memL.w.len
    have evl := HOv.out.memL.l.len
    go_upto_region 4 with (refine wp_storeP rfl 25 (.tmp 1) (.tmp 33) rfl X 0 _ #[.slice wa2 M2.W.length wc2, .slice la2 M2.L.length lc2, .bool M2.F] _ rfl rfl _ HXv.out (by kernel_rfl) (Nat.le_of_ble_eq_true rfl) (by kernel_rfl) rfl ?_; intro w2 a1 a2 a3 a4; have HX2 := hid a1; have HB2 := hid (a3 V.heap.size V (by omega) HBv.out); have HO2 : Hid (MemO V.heap.size wa2 wc2 la2 lc2 M2 w2) := hid ⟨own_keep HOv.out.w fun j o hj ho => a2 j o (fun e => own_neP HOv.out.w HXv.out (by decide) (by rw [← e]; exact hj)) ho, own_keep HOv.out.l fun j o hj ho => a2 j o (fun e => own_neP HOv.out.l HXv.out (by decide) (by rw [← e]; exact hj)) ho⟩; clear a1 a2 a3 a4)
    try simp only [Act.put]
    clear HXv HOv HBv evw evl
    have x0 := cell_laid (i := 0) HX2.out rfl
    have x1 := cell_laid (i := 1) HX2.out rfl
    have x2 := cell_laid (i := 2) HX2.out rfl
    have e2w := HO2.out.memL.w.len
    have e2l := HO2.out.memL.l.len
    go_wp2_with fail
    refine (C2.out w2 wa2 wc2 la2 lc2 HO2.out.memL (HG.out.grow HB2.out)).mono ?_
    rintro e v3 ⟨wa3, wc3, la3, lc3, rfl, ho, hb⟩
    have HXv := hid (keep_laid HX2.out hb)
    have HOv := hid (ho.base HB2.out.size)
    have HBv := hid (step HB2.out hb)
    clear ho hb x0 x1 x2 HX2 HO2 HB2 C2 e2w e2l
    have evw := HOv.out.memL.w.len
    have evl := HOv.out.memL.l.len
    go_upto_region 5 with (refine wp_storeP rfl 25 (.tmp 1) (.tmp 39) rfl X 0 _ #[.slice wa3 M3.W.length wc3, .slice la3 M3.L.length lc3, .bool M3.F] _ rfl rfl _ HXv.out (by kernel_rfl) (Nat.le_of_ble_eq_true rfl) (by kernel_rfl) rfl ?_; intro w3 a1 a2 a3 a4; have HX3 := hid a1; have HB3 := hid (a3 V.heap.size V (by omega) HBv.out); have HO3 : Hid (MemO V.heap.size wa3 wc3 la3 lc3 M3 w3) := hid ⟨own_keep HOv.out.w fun j o hj ho => a2 j o (fun e => own_neP HOv.out.w HXv.out (by decide) (by rw [← e]; exact hj)) ho, own_keep HOv.out.l fun j o hj ho => a2 j o (fun e => own_neP HOv.out.l HXv.out (by decide) (by rw [← e]; exact hj)) ho⟩; clear a1 a2 a3 a4)
    try simp only [Act.put]
    clear HXv HOv HBv evw evl
    have e3w := HO3.out.memL.w.len
    have e3l := HO3.out.memL.l.len
    have x0 := cell_laid (i := 0) HX3.out rfl
    have x1 := cell_laid (i := 1) HX3.out rfl
    have x2 := cell_laid (i := 2) HX3.out rfl
    go_wp2_with fail
    refine (C3.out w3 wa3 wc3 la3 lc3 HO3.out.memL (HG.out.grow HB3.out)).mono ?_
    rintro e w4 ⟨va, vc, rfl, hrow, hb⟩
    have HX4 := hid (keep_laid HX3.out hb)
    have HO4 := hid (HO3.out.grow hb)
    have HB4 := hid (step HB3.out hb)
    have HR4 := hid (own_base hrow HB3.out.size)
    clear hrow hb x0 x1 x2 HX3 HO3 HB3 C3
    have x0 := cell_laid (i := 0) HX4.out rfl
    have x1 := cell_laid (i := 1) HX4.out rfl
    have x2 := cell_laid (i := 2) HX4.out rfl
    go_wp2_with fail
    refine (C4.out w4 wa3 wc3 la3 lc3 HO4.out.memL (HG.out.grow HB4.out)).mono ?_
    rintro e w5 ⟨rfl, hb⟩
    have HX5 := hid (keep_laid HX4.out hb)
    have HO5 := hid (HO4.out.grow hb)
    have HB5 := hid (step HB4.out hb)
    have HR5 := hid (own_grow HR4.out hb)
    clear hb x0 x1 x2 HX4 HO4 HB4 HR4 C4
    have x0 := cell_laid (i := 0) HX5.out rfl
    have x1 := cell_laid (i := 1) HX5.out rfl
    have x2 := cell_laid (i := 2) HX5.out rfl
    go_wp2_with fail
    refine (C5.out w5 wa3 wc3 la3 lc3 HO5.out.memL (HG.out.grow HB5.out)).mono ?_
    rintro e w6 ⟨rfl, hb⟩
    have HX6 := hid (keep_laid HX5.out hb)
    have HO6 := hid (HO5.out.grow hb)
    have HB6 := hid (step HB5.out hb)
    have HR6 := hid (own_grow HR5.out hb)
    clear hb x0 x1 x2 HX5 HO5 HB5 HR5 C5
    have x0 := cell_laid (i := 0) HX6.out rfl
    have x1 := cell_laid (i := 1) HX6.out rfl
    have x2 := cell_laid (i := 2) HX6.out rfl
    go_wp2_with fail
    refine (C6.out w6 wa3 wc3 la3 lc3 HO6.out.memL (HG.out.grow HB6.out)).mono ?_
    rintro e v7 ⟨wb, wbc, lb, lbc, rfl, ho, hb⟩
    have elw := ho.memL.w.len
    have ell := ho.memL.l.len
    obtain ⟨u7, hu7, hbu, hsu, hlu⟩ := laid v7 #[.slice none 0 0, .slice none 0 0, .bool false] 25
    obtain ⟨Y, hY⟩ : ∃ X, v7.heap.size = X := ⟨_, rfl⟩
    rw [hY] at hlu
    have KY := hid hlu
    have nY : X ≠ Y := by have := lt_laid (keep_laid HX6.out hb); omega
    have hVY : V.heap.size ≤ Y := by have := HB6.out.size; have := hb.size; omega
    have hbb := step hb hbu
    have HXv := hid (keep_laid HX6.out hbb)
    have HOv := hid (HO6.out.grow hbb)
    have HBv := hid (step HB6.out hbb)
    have HRv := hid (own_grow HR6.out hbb)
    clear ho hb hbu hsu hlu hbb x0 x1 x2 HX6 HO6 HB6 HR6 C6
    go_upto_region 9 with (refine wp_storeP rfl 25 (.tmp 15) (.tmp 62) rfl Y 0 _ #[.slice wb 0 wbc, .slice lb 0 lbc, .bool false] _ rfl rfl _ KY.out (by kernel_rfl) (Nat.le_of_ble_eq_true rfl) (by kernel_rfl) rfl ?_; intro w7 a1 a2 a3 a4; have HX7 := hid (a2 X _ nY HXv.out); have HB7 := hid (a3 V.heap.size V hVY HBv.out); have HO7 : Hid (MemO V.heap.size wa3 wc3 la3 lc3 M3 w7) := hid ⟨own_keep HOv.out.w fun j o hj ho => a2 j o (fun e => own_neP HOv.out.w KY.out (by decide) (by rw [← e]; exact hj)) ho, own_keep HOv.out.l fun j o hj ho => a2 j o (fun e => own_neP HOv.out.l KY.out (by decide) (by rw [← e]; exact hj)) ho⟩; have HR7 := hid (own_keep HRv.out fun k o hk ho => a2 k o (own_neT HRv.out KY.out (by decide) k hk) ho); clear a1 a2 a3 a4)
    try simp only [Act.put]
    clear HXv HOv HBv HRv elw ell hY hu7
    have x0 := cell_laid (i := 0) HX7.out rfl
    have x1 := cell_laid (i := 1) HX7.out rfl
    have x2 := cell_laid (i := 2) HX7.out rfl
    go_wp2_with fail
    refine (C7.out w7 wa3 wc3 la3 lc3 HO7.out.memL (HG.out.grow HB7.out)).mono ?_
    rintro e v8 ⟨wb, wbc, lb, lbc, rfl, ho, hb⟩
    have elw := ho.memL.w.len
    have ell := ho.memL.l.len
    obtain ⟨u8, hu8, hbu, hsu, hlu⟩ := laid v8 #[.slice none 0 0, .slice none 0 0, .bool false] 25
    obtain ⟨T, hT⟩ : ∃ X, v8.heap.size = X := ⟨_, rfl⟩
    rw [hT] at hlu
    have KT := hid hlu
    have nT : X ≠ T := by have := lt_laid (keep_laid HX7.out hb); omega
    have hVT : V.heap.size ≤ T := by have := HB7.out.size; have := hb.size; omega
    have hbb := step hb hbu
    have HXv := hid (keep_laid HX7.out hbb)
    have HOv := hid (HO7.out.grow hbb)
    have HBv := hid (step HB7.out hbb)
    have HRv := hid (own_grow HR7.out hbb)
    clear ho hb hbu hsu hlu hbb x0 x1 x2 HX7 HO7 HB7 HR7 C7
    go_upto_region 10 with (refine wp_storeP rfl 25 (.tmp 18) (.tmp 68) rfl T 0 _ #[.slice wb M4.W.length wbc, .slice lb M4.L.length lbc, .bool M4.F] _ rfl rfl _ KT.out (by kernel_rfl) (Nat.le_of_ble_eq_true rfl) (by kernel_rfl) rfl ?_; intro w8 a1 a2 a3 a4; have HX8 := hid (a2 X _ nT HXv.out); have HB8 := hid (a3 V.heap.size V hVT HBv.out); have HO8 : Hid (MemO V.heap.size wa3 wc3 la3 lc3 M3 w8) := hid ⟨own_keep HOv.out.w fun j o hj ho => a2 j o (fun e => own_neP HOv.out.w KT.out (by decide) (by rw [← e]; exact hj)) ho, own_keep HOv.out.l fun j o hj ho => a2 j o (fun e => own_neP HOv.out.l KT.out (by decide) (by rw [← e]; exact hj)) ho⟩; have HR8 := hid (own_keep HRv.out fun k o hk ho => a2 k o (own_neT HRv.out KT.out (by decide) k hk) ho); clear a1 a2 a3 a4)
    try simp only [Act.put]
    clear HXv HOv HBv HRv elw ell hT hu8
    obtain ⟨w9, hw9, hb, hs, hl⟩ := laid w8 #[.int .i64 2, .int .u64 8, .int .u64 1, .int .u64 10, .int .i64 3, .int .u64 12, .int .u64 3, .int .u64 30] 73
    obtain ⟨Q, hQ⟩ : ∃ X, w8.heap.size = X := ⟨_, rfl⟩
    rw [hQ] at hl
    have HQ := hid (Leads.of_own1 (own_lit (base := 0) (n := 2) (size := 4) (xs := rwcells kxs) hl (Nat.zero_le _) (by decide) rfl rfl))
    have HR9 := hid (Leads.of_own1 (own_grow HR8.out hb))
    have HB9 := hid (step HB8.out hb)
    clear hb hs hl HX8 HO8 HB8 HR8
    go_wp2_with fail
    refine (EqRw_any kxs kxs va (some ⟨Q, 0, none⟩) 2 2 vc 2 w9 rfl rfl HXL.out HXL.out HR9.out HQ.out).mono ?_
    rintro e w10 ⟨rfl, hb⟩
    rw [decide_eq_true (rfl : kxs = kxs)]
    have HB10 := hid (step HB9.out hb)
    clear hb hQ
    go_wp2
    go_ret
    exact ⟨rfl, HB10.out⟩
end Go.Proofs.YtahicokokfcieaaGreatDoor
