/- The document's lists linked both ways: what is accessed, the walk (printed by gen_dblref5.py). -/
import Derived.Test.YtoihjmdpbbcbjaaDblRef4
namespace Go.Proofs.Ytoihjmdpbbcbjaa
open Go.RowKit
open Go.Proofs
set_option linter.unusedVariables false
attribute [local go_sem] Oper.semAt_some

set_option maxRecDepth 100000 in
set_option maxHeartbeats 16000000 in
theorem raccess_any (s : Ed) (V : World) (hs : s.Ok) (hp : 0 ≤ s.ph ∧ s.ph < 9) : Calls Try.prog 45 #[edV s] V (Ret (accV (accS s.ph.toNat) (accRA s s.ph.toNat) (accW s s.ph.toNat)) V) := by
  obtain ⟨k, hk⟩ : ∃ k : Nat, s.ph = ((k : Nat) : Int) := ⟨s.ph.toNat, by omega⟩
  have hk9 : k < 9 := by omega
  have hix := accArrS_at s k hk9
  have HFR := hid (fun V => rfrom_any s V hs)
  have HBK := hid (fun V => rback_any s V hs)
  have HA := hid (fun (j : Nat) (V : World) (hj : j ≤ 1000) => ((At_any s.pl j V hs.pl hj).mono fun e W h => (⟨h.1, by rw [h.2]; exact Below.refl _ _⟩ : Ret (.int .i64 ((posR s.pl j : Nat) : Int)) V e W)))
  have HST : Hid (∀ (a n : Nat) (V : World), Calls Try.prog 56 #[.int .i64 ((a : Nat) : Int), .int .u64 ((n : Nat) : Int)] V (Ret (.agg #[.int .i64 2, .int .i64 ((a : Nat) : Int), .int .u64 0, .int .u64 ((n : Nat) : Int)]) V)) := hid (fun a n V => rstore_any a n V)
  have HLD : Hid (∀ (a : Nat) (V : World), Calls Try.prog 57 #[.int .i64 ((a : Nat) : Int)] V (Ret (.agg #[.int .i64 1, .int .i64 ((a : Nat) : Int), .int .u64 0, .int .u64 0]) V)) := hid (fun a V => rload_any a V)
  rw [show s.ph.toNat = k by omega]
  unfold accV at hix ⊢
  obtain ⟨AA, hAA⟩ : ∃ x, accRA s k = x := ⟨_, rfl⟩
  obtain ⟨AW, hAW⟩ : ∃ x, accW s k = x := ⟨_, rfl⟩
  rw [hAA, hAW] at hix ⊢
  unfold accArrS accArr at hix
  obtain ⟨KK, hKK⟩ : ∃ x : Int, (if accS k = true then (2 : Int) else 1) = x := ⟨_, rfl⟩
  rw [hKK] at hix ⊢
  obtain ⟨FRM, hFRM⟩ : ∃ x, fromR s = x := ⟨_, rfl⟩
  obtain ⟨BCK, hBCK⟩ : ∃ x, backR s = x := ⟨_, rfl⟩
  rw [hFRM] at hix HFR
  rw [hBCK] at hix HBK
  unfold edV at HFR HBK ⊢
  obtain ⟨ph, cuts, head, pl, key, val, prev, next⟩ := s
  dsimp only at hk
  subst hk
  dsimp only at hix HFR HBK HA ⊢
  obtain ⟨V1, hV1, hb1, hs1, hl1⟩ := laid V #[.int .i64 ((k : Nat) : Int), .bool cuts, .int .u64 ((head : Nat) : Int), .int .u64 ((pl : Nat) : Int), .int .u64 ((key : Nat) : Int), .int .u64 ((val : Nat) : Int), .int .u64 ((prev : Nat) : Int), .int .u64 ((next : Nat) : Int)] 42
  obtain ⟨V2, hV2, hb2, hs2, hl2⟩ := laid V1 #[.int .i64 0, .int .i64 0, .int .u64 0, .int .u64 0] 95
  obtain ⟨E, hE⟩ : ∃ X, V.heap.size = X := ⟨_, rfl⟩
  obtain ⟨Z, hZ⟩ : ∃ X, V1.heap.size = X := ⟨_, rfl⟩
  rw [hE] at hl1
  rw [hZ] at hl2
  have HE2 := hid (keep_laid hl1 hb2)
  have HZ2 := hid hl2
  have HBV2 := hid (step hb1 hb2)
  have hZV : V.heap.size ≤ Z := by omega
  clear hs hp hKK hAA hAW hFRM hBCK hb1 hb2 hs1 hs2 hl1 hl2
  cases cuts with
  | false =>
    rw [if_neg (by decide), if_neg (by decide)] at hix
    have q0 : ∀ z : Ext V2, z.v.cell? ⟨E, 0, none⟩ = some (.int .i64 ((k : Nat) : Int)) := fun z => cell_laid (i := 0) (keep_laid HE2.out z.b) rfl
    have q1 : ∀ z : Ext V2, z.v.cell? ⟨E, 1, none⟩ = some (.bool false) := fun z => cell_laid (i := 1) (keep_laid HE2.out z.b) rfl
    have q2 : ∀ z : Ext V2, z.v.cell? ⟨E, 2, none⟩ = some (.int .u64 ((head : Nat) : Int)) := fun z => cell_laid (i := 2) (keep_laid HE2.out z.b) rfl
    have q3 : ∀ z : Ext V2, z.v.cell? ⟨E, 3, none⟩ = some (.int .u64 ((pl : Nat) : Int)) := fun z => cell_laid (i := 3) (keep_laid HE2.out z.b) rfl
    have q4 : ∀ z : Ext V2, z.v.cell? ⟨E, 4, none⟩ = some (.int .u64 ((key : Nat) : Int)) := fun z => cell_laid (i := 4) (keep_laid HE2.out z.b) rfl
    have q5 : ∀ z : Ext V2, z.v.cell? ⟨E, 5, none⟩ = some (.int .u64 ((val : Nat) : Int)) := fun z => cell_laid (i := 5) (keep_laid HE2.out z.b) rfl
    have q6 : ∀ z : Ext V2, z.v.cell? ⟨E, 6, none⟩ = some (.int .u64 ((prev : Nat) : Int)) := fun z => cell_laid (i := 6) (keep_laid HE2.out z.b) rfl
    have q7 : ∀ z : Ext V2, z.v.cell? ⟨E, 7, none⟩ = some (.int .u64 ((next : Nat) : Int)) := fun z => cell_laid (i := 7) (keep_laid HE2.out z.b) rfl
    go_enter Try.func45, Try.ntmps45
    go_upto_region 1 with (fail)
    refine wp_region_mix2 (fun W => ∃ z : Ext V2, W = z.v) 8 (.q 0 (.q 1 (.q 2 (.q 3 (.q 4 (.q 5 (.q 6 (.q 7 .done)))))))) (by kernel_rfl) (by kernel_rfl) ⟨⟨_, (Below.refl _ _).drew⟩, rfl⟩ ?_
    repeat (refine wpMix2_q rfl rfl ?_; go_big_quiet_step (fail); refine wpQuiet_nil ?_)
    refine wpMix2_done ?_
    simp only [List.drop_succ_cons, List.drop_zero]
    have c1 := cell_laid (i := 1) (keep_laid HE2.out (Below.refl _ V2).drew) rfl
    go_upto_region 4 with (fail)
    have hcl : Below V2.heap.size V2 (V2.drew).drew := step (Below.refl _ _).drew (Below.refl _ _).drew
    obtain ⟨D, hD⟩ : ∃ X, (V2.drew).drew = X := ⟨_, rfl⟩
    have HBD : Hid (Below V2.heap.size V2 D) := hid (by rw [← hD]; exact step (Below.refl _ _).drew (Below.refl _ _).drew)
    have HD := hid hD
    clear hD
    refine wp_region_mix2 (fun W => ∃ z : Ext V2, W = z.v) 55 (.q 0 (.q 1 (.q 2 (.q 4 (.q 5 (.q 6 (.q 8 (.q 9 (.q 10 (.q 12 (.q 13 (.q 14 (.q 16 (.q 19 (.q 20 (.q 21 (.q 23 (.q 24 (.q 26 (.q 27 (.q 28 (.q 30 (.q 31 (.q 33 (.q 34 (.q 35 (.q 38 (.q 39 (.q 40 (.q 43 (.q 45 (.q 47 (.q 49 (.q 52 (.q 53 (.h 3 (.h 7 (.h 11 (.h 15 (.h 17 (.h 18 (.h 22 (.h 25 (.h 29 (.h 32 (.h 36 (.h 37 (.h 41 (.h 42 (.h 44 (.h 46 (.h 48 (.h 50 (.q 51 (.q 54 (.done)))))))))))))))))))))))))))))))))))))))))))))))))))))))) (by kernel_rfl) (by kernel_rfl) ⟨⟨_, hcl⟩, rfl⟩ ?_
    rw [HD.out]
    clear hcl
    repeat (refine wpMix2_q rfl rfl ?_; go_big_quiet_step (fail); refine wpQuiet_nil ?_)
    refine wpMix2_h rfl fun R' hR' hO => ?_
    go_wp2_with fail
    refine (HA.out 0 D (by decide)).mono ?_
    rintro e w0 ⟨rfl, hbx⟩
    have HB0 := hid (step HBD.out hbx)
    clear hbx
    go_wp2
    refine hR' _ _ ⟨⟨w0, HB0.out⟩, rfl⟩ ?_
    clear hR' hO R'
    refine wpMix2_h rfl fun R' hR' hO => ?_
    go_wp2_with fail
    refine (HST.out (posR pl 0) key w0).mono ?_
    rintro e w1 ⟨rfl, hbx⟩
    have HB1 := hid (step HB0.out hbx)
    clear hbx
    go_wp2
    refine hR' _ _ ⟨⟨w1, HB1.out⟩, rfl⟩ ?_
    clear hR' hO R'
    refine wpMix2_h rfl fun R' hR' hO => ?_
    go_wp2_with fail
    refine (HA.out 1 w1 (by decide)).mono ?_
    rintro e w2 ⟨rfl, hbx⟩
    have HB2 := hid (step HB1.out hbx)
    clear hbx
    go_wp2
    refine hR' _ _ ⟨⟨w2, HB2.out⟩, rfl⟩ ?_
    clear hR' hO R'
    refine wpMix2_h rfl fun R' hR' hO => ?_
    go_wp2_with fail
    refine (HST.out (posR pl 1) val w2).mono ?_
    rintro e w3 ⟨rfl, hbx⟩
    have HB3 := hid (step HB2.out hbx)
    clear hbx
    go_wp2
    refine hR' _ _ ⟨⟨w3, HB3.out⟩, rfl⟩ ?_
    clear hR' hO R'
    refine wpMix2_h rfl fun R' hR' hO => ?_
    go_wp2_with fail
    refine (HFR.out w3).mono ?_
    rintro e w4 ⟨rfl, hbx⟩
    have HB4 := hid (step HB3.out hbx)
    clear hbx
    go_wp2
    refine hR' _ _ ⟨⟨w4, HB4.out⟩, rfl⟩ ?_
    clear hR' hO R'
    refine wpMix2_h rfl fun R' hR' hO => ?_
    go_wp2_with fail
    refine (HLD.out FRM w4).mono ?_
    rintro e w5 ⟨rfl, hbx⟩
    have HB5 := hid (step HB4.out hbx)
    clear hbx
    go_wp2
    refine hR' _ _ ⟨⟨w5, HB5.out⟩, rfl⟩ ?_
    clear hR' hO R'
    refine wpMix2_h rfl fun R' hR' hO => ?_
    go_wp2_with fail
    refine (HA.out 2 w5 (by decide)).mono ?_
    rintro e w6 ⟨rfl, hbx⟩
    have HB6 := hid (step HB5.out hbx)
    clear hbx
    go_wp2
    refine hR' _ _ ⟨⟨w6, HB6.out⟩, rfl⟩ ?_
    clear hR' hO R'
    refine wpMix2_h rfl fun R' hR' hO => ?_
    go_wp2_with fail
    refine (HST.out (posR pl 2) next w6).mono ?_
    rintro e w7 ⟨rfl, hbx⟩
    have HB7 := hid (step HB6.out hbx)
    clear hbx
    go_wp2
    refine hR' _ _ ⟨⟨w7, HB7.out⟩, rfl⟩ ?_
    clear hR' hO R'
    refine wpMix2_h rfl fun R' hR' hO => ?_
    go_wp2_with fail
    refine (HA.out 3 w7 (by decide)).mono ?_
    rintro e w8 ⟨rfl, hbx⟩
    have HB8 := hid (step HB7.out hbx)
    clear hbx
    go_wp2
    refine hR' _ _ ⟨⟨w8, HB8.out⟩, rfl⟩ ?_
    clear hR' hO R'
    refine wpMix2_h rfl fun R' hR' hO => ?_
    go_wp2_with fail
    refine (HST.out (posR pl 3) prev w8).mono ?_
    rintro e w9 ⟨rfl, hbx⟩
    have HB9 := hid (step HB8.out hbx)
    clear hbx
    go_wp2
    refine hR' _ _ ⟨⟨w9, HB9.out⟩, rfl⟩ ?_
    clear hR' hO R'
    refine wpMix2_h rfl fun R' hR' hO => ?_
    go_wp2_with fail
    refine (HA.out 2 w9 (by decide)).mono ?_
    rintro e w10 ⟨rfl, hbx⟩
    have HB10 := hid (step HB9.out hbx)
    clear hbx
    go_wp2
    refine hR' _ _ ⟨⟨w10, HB10.out⟩, rfl⟩ ?_
    clear hR' hO R'
    refine wpMix2_h rfl fun R' hR' hO => ?_
    go_wp2_with fail
    refine (HLD.out (posR pl 2) w10).mono ?_
    rintro e w11 ⟨rfl, hbx⟩
    have HB11 := hid (step HB10.out hbx)
    clear hbx
    go_wp2
    refine hR' _ _ ⟨⟨w11, HB11.out⟩, rfl⟩ ?_
    clear hR' hO R'
    refine wpMix2_h rfl fun R' hR' hO => ?_
    go_wp2_with fail
    refine (HA.out 3 w11 (by decide)).mono ?_
    rintro e w12 ⟨rfl, hbx⟩
    have HB12 := hid (step HB11.out hbx)
    clear hbx
    go_wp2
    refine hR' _ _ ⟨⟨w12, HB12.out⟩, rfl⟩ ?_
    clear hR' hO R'
    refine wpMix2_h rfl fun R' hR' hO => ?_
    go_wp2_with fail
    refine (HLD.out (posR pl 3) w12).mono ?_
    rintro e w13 ⟨rfl, hbx⟩
    have HB13 := hid (step HB12.out hbx)
    clear hbx
    go_wp2
    refine hR' _ _ ⟨⟨w13, HB13.out⟩, rfl⟩ ?_
    clear hR' hO R'
    refine wpMix2_h rfl fun R' hR' hO => ?_
    go_wp2_with fail
    refine (HFR.out w13).mono ?_
    rintro e w14 ⟨rfl, hbx⟩
    have HB14 := hid (step HB13.out hbx)
    clear hbx
    go_wp2
    refine hR' _ _ ⟨⟨w14, HB14.out⟩, rfl⟩ ?_
    clear hR' hO R'
    refine wpMix2_h rfl fun R' hR' hO => ?_
    go_wp2_with fail
    refine (HST.out FRM pl w14).mono ?_
    rintro e w15 ⟨rfl, hbx⟩
    have HB15 := hid (step HB14.out hbx)
    clear hbx
    go_wp2
    refine hR' _ _ ⟨⟨w15, HB15.out⟩, rfl⟩ ?_
    clear hR' hO R'
    refine wpMix2_h rfl fun R' hR' hO => ?_
    go_wp2_with fail
    refine (HBK.out w15).mono ?_
    rintro e w16 ⟨rfl, hbx⟩
    have HB16 := hid (step HB15.out hbx)
    clear hbx
    go_wp2
    refine hR' _ _ ⟨⟨w16, HB16.out⟩, rfl⟩ ?_
    clear hR' hO R'
    refine wpMix2_h rfl fun R' hR' hO => ?_
    go_wp2_with fail
    refine (HST.out BCK pl w16).mono ?_
    rintro e w17 ⟨rfl, hbx⟩
    have HB17 := hid (step HB16.out hbx)
    clear hbx
    go_wp2
    refine hR' _ _ ⟨⟨w17, HB17.out⟩, rfl⟩ ?_
    clear hR' hO R'
    repeat (refine wpMix2_q rfl rfl ?_; go_big_quiet_step (fail); refine wpQuiet_nil ?_)
    refine wpMix2_done ?_
    simp only [List.drop_succ_cons, List.drop_zero]
    have hkz := keep_laid HZ2.out HB17.out
    obtain ⟨V6, hV6, a3, -, a5⟩ := put4 hkz (.int .i64 KK) (.int .i64 ((AA : Nat) : Int)) (.int .u64 0) (.int .u64 ((AW : Nat) : Int))
    have zf0 := free_laid (i := 0) hkz
    have z0 := cell_laid (i := 0) hkz rfl
    have zf1 := free_laid (i := 1) hkz
    have z1 := cell_laid (i := 1) hkz rfl
    have zf2 := free_laid (i := 2) hkz
    have z2 := cell_laid (i := 2) hkz rfl
    have zf3 := free_laid (i := 3) hkz
    have z3 := cell_laid (i := 3) hkz rfl
    have HV6 := hid hV6
    have A3 := hid a3
    have HB6 := hid (a5 V.heap.size V hZV (step HBV2.out HB17.out))
    clear hkz hV6 a3 a5
    go_wp2
    rw [← HV6.out]
    refine bodyPost_ret (raccess_result A3.out rfl) rfl ?_
    exact ⟨rfl, HB6.out⟩
  | true =>
    rw [if_pos rfl, if_pos rfl] at hix
    have q0 : ∀ z : Ext V2, z.v.cell? ⟨E, 0, none⟩ = some (.int .i64 ((k : Nat) : Int)) := fun z => cell_laid (i := 0) (keep_laid HE2.out z.b) rfl
    have q1 : ∀ z : Ext V2, z.v.cell? ⟨E, 1, none⟩ = some (.bool true) := fun z => cell_laid (i := 1) (keep_laid HE2.out z.b) rfl
    have q2 : ∀ z : Ext V2, z.v.cell? ⟨E, 2, none⟩ = some (.int .u64 ((head : Nat) : Int)) := fun z => cell_laid (i := 2) (keep_laid HE2.out z.b) rfl
    have q3 : ∀ z : Ext V2, z.v.cell? ⟨E, 3, none⟩ = some (.int .u64 ((pl : Nat) : Int)) := fun z => cell_laid (i := 3) (keep_laid HE2.out z.b) rfl
    have q4 : ∀ z : Ext V2, z.v.cell? ⟨E, 4, none⟩ = some (.int .u64 ((key : Nat) : Int)) := fun z => cell_laid (i := 4) (keep_laid HE2.out z.b) rfl
    have q5 : ∀ z : Ext V2, z.v.cell? ⟨E, 5, none⟩ = some (.int .u64 ((val : Nat) : Int)) := fun z => cell_laid (i := 5) (keep_laid HE2.out z.b) rfl
    have q6 : ∀ z : Ext V2, z.v.cell? ⟨E, 6, none⟩ = some (.int .u64 ((prev : Nat) : Int)) := fun z => cell_laid (i := 6) (keep_laid HE2.out z.b) rfl
    have q7 : ∀ z : Ext V2, z.v.cell? ⟨E, 7, none⟩ = some (.int .u64 ((next : Nat) : Int)) := fun z => cell_laid (i := 7) (keep_laid HE2.out z.b) rfl
    go_enter Try.func45, Try.ntmps45
    go_upto_region 1 with (fail)
    refine wp_region_mix2 (fun W => ∃ z : Ext V2, W = z.v) 8 (.q 0 (.q 1 (.q 2 (.q 3 (.q 4 (.q 5 (.q 6 (.q 7 .done)))))))) (by kernel_rfl) (by kernel_rfl) ⟨⟨_, (Below.refl _ _).drew⟩, rfl⟩ ?_
    repeat (refine wpMix2_q rfl rfl ?_; go_big_quiet_step (fail); refine wpQuiet_nil ?_)
    refine wpMix2_done ?_
    simp only [List.drop_succ_cons, List.drop_zero]
    have c1 := cell_laid (i := 1) (keep_laid HE2.out (Below.refl _ V2).drew) rfl
    go_upto_region 3 with (fail)
    refine wp_region_mix2 (fun W => ∃ z : Ext V2, W = z.v) 6 (.q 0 (.q 1 (.q 2 (.q 3 (.q 4 (.q 5 .done)))))) (by kernel_rfl) (by kernel_rfl) ⟨⟨_, (step (Below.refl _ _).drew (Below.refl _ _).drew)⟩, rfl⟩ ?_
    repeat (refine wpMix2_q rfl rfl ?_; go_big_quiet_step (fail); refine wpQuiet_nil ?_)
    refine wpMix2_done ?_
    simp only [List.drop_succ_cons, List.drop_zero]
    clear c1
    go_upto_region 4 with (fail)
    have hcl : Below V2.heap.size V2 (V2.drew.drew).drew := step (step (Below.refl _ _).drew (Below.refl _ _).drew) (Below.refl _ _).drew
    obtain ⟨D, hD⟩ : ∃ X, (V2.drew.drew).drew = X := ⟨_, rfl⟩
    have HBD : Hid (Below V2.heap.size V2 D) := hid (by rw [← hD]; exact step (step (Below.refl _ _).drew (Below.refl _ _).drew) (Below.refl _ _).drew)
    have HD := hid hD
    clear hD
    refine wp_region_mix2 (fun W => ∃ z : Ext V2, W = z.v) 55 (.q 0 (.q 1 (.q 2 (.q 4 (.q 5 (.q 6 (.q 8 (.q 9 (.q 10 (.q 12 (.q 13 (.q 14 (.q 16 (.q 19 (.q 20 (.q 21 (.q 23 (.q 24 (.q 26 (.q 27 (.q 28 (.q 30 (.q 31 (.q 33 (.q 34 (.q 35 (.q 38 (.q 39 (.q 40 (.q 43 (.q 45 (.q 47 (.q 49 (.q 52 (.q 53 (.h 3 (.h 7 (.h 11 (.h 15 (.h 17 (.h 18 (.h 22 (.h 25 (.h 29 (.h 32 (.h 36 (.h 37 (.h 41 (.h 42 (.h 44 (.h 46 (.h 48 (.h 50 (.q 51 (.q 54 (.done)))))))))))))))))))))))))))))))))))))))))))))))))))))))) (by kernel_rfl) (by kernel_rfl) ⟨⟨_, hcl⟩, rfl⟩ ?_
    rw [HD.out]
    clear hcl
    repeat (refine wpMix2_q rfl rfl ?_; go_big_quiet_step (fail); refine wpQuiet_nil ?_)
    refine wpMix2_h rfl fun R' hR' hO => ?_
    go_wp2_with fail
    refine (HA.out 0 D (by decide)).mono ?_
    rintro e w0 ⟨rfl, hbx⟩
    have HB0 := hid (step HBD.out hbx)
    clear hbx
    go_wp2
    refine hR' _ _ ⟨⟨w0, HB0.out⟩, rfl⟩ ?_
    clear hR' hO R'
    refine wpMix2_h rfl fun R' hR' hO => ?_
    go_wp2_with fail
    refine (HST.out (posR pl 0) key w0).mono ?_
    rintro e w1 ⟨rfl, hbx⟩
    have HB1 := hid (step HB0.out hbx)
    clear hbx
    go_wp2
    refine hR' _ _ ⟨⟨w1, HB1.out⟩, rfl⟩ ?_
    clear hR' hO R'
    refine wpMix2_h rfl fun R' hR' hO => ?_
    go_wp2_with fail
    refine (HA.out 1 w1 (by decide)).mono ?_
    rintro e w2 ⟨rfl, hbx⟩
    have HB2 := hid (step HB1.out hbx)
    clear hbx
    go_wp2
    refine hR' _ _ ⟨⟨w2, HB2.out⟩, rfl⟩ ?_
    clear hR' hO R'
    refine wpMix2_h rfl fun R' hR' hO => ?_
    go_wp2_with fail
    refine (HST.out (posR pl 1) val w2).mono ?_
    rintro e w3 ⟨rfl, hbx⟩
    have HB3 := hid (step HB2.out hbx)
    clear hbx
    go_wp2
    refine hR' _ _ ⟨⟨w3, HB3.out⟩, rfl⟩ ?_
    clear hR' hO R'
    refine wpMix2_h rfl fun R' hR' hO => ?_
    go_wp2_with fail
    refine (HFR.out w3).mono ?_
    rintro e w4 ⟨rfl, hbx⟩
    have HB4 := hid (step HB3.out hbx)
    clear hbx
    go_wp2
    refine hR' _ _ ⟨⟨w4, HB4.out⟩, rfl⟩ ?_
    clear hR' hO R'
    refine wpMix2_h rfl fun R' hR' hO => ?_
    go_wp2_with fail
    refine (HLD.out FRM w4).mono ?_
    rintro e w5 ⟨rfl, hbx⟩
    have HB5 := hid (step HB4.out hbx)
    clear hbx
    go_wp2
    refine hR' _ _ ⟨⟨w5, HB5.out⟩, rfl⟩ ?_
    clear hR' hO R'
    refine wpMix2_h rfl fun R' hR' hO => ?_
    go_wp2_with fail
    refine (HA.out 2 w5 (by decide)).mono ?_
    rintro e w6 ⟨rfl, hbx⟩
    have HB6 := hid (step HB5.out hbx)
    clear hbx
    go_wp2
    refine hR' _ _ ⟨⟨w6, HB6.out⟩, rfl⟩ ?_
    clear hR' hO R'
    refine wpMix2_h rfl fun R' hR' hO => ?_
    go_wp2_with fail
    refine (HST.out (posR pl 2) next w6).mono ?_
    rintro e w7 ⟨rfl, hbx⟩
    have HB7 := hid (step HB6.out hbx)
    clear hbx
    go_wp2
    refine hR' _ _ ⟨⟨w7, HB7.out⟩, rfl⟩ ?_
    clear hR' hO R'
    refine wpMix2_h rfl fun R' hR' hO => ?_
    go_wp2_with fail
    refine (HA.out 3 w7 (by decide)).mono ?_
    rintro e w8 ⟨rfl, hbx⟩
    have HB8 := hid (step HB7.out hbx)
    clear hbx
    go_wp2
    refine hR' _ _ ⟨⟨w8, HB8.out⟩, rfl⟩ ?_
    clear hR' hO R'
    refine wpMix2_h rfl fun R' hR' hO => ?_
    go_wp2_with fail
    refine (HST.out (posR pl 3) prev w8).mono ?_
    rintro e w9 ⟨rfl, hbx⟩
    have HB9 := hid (step HB8.out hbx)
    clear hbx
    go_wp2
    refine hR' _ _ ⟨⟨w9, HB9.out⟩, rfl⟩ ?_
    clear hR' hO R'
    refine wpMix2_h rfl fun R' hR' hO => ?_
    go_wp2_with fail
    refine (HA.out 2 w9 (by decide)).mono ?_
    rintro e w10 ⟨rfl, hbx⟩
    have HB10 := hid (step HB9.out hbx)
    clear hbx
    go_wp2
    refine hR' _ _ ⟨⟨w10, HB10.out⟩, rfl⟩ ?_
    clear hR' hO R'
    refine wpMix2_h rfl fun R' hR' hO => ?_
    go_wp2_with fail
    refine (HLD.out (posR pl 2) w10).mono ?_
    rintro e w11 ⟨rfl, hbx⟩
    have HB11 := hid (step HB10.out hbx)
    clear hbx
    go_wp2
    refine hR' _ _ ⟨⟨w11, HB11.out⟩, rfl⟩ ?_
    clear hR' hO R'
    refine wpMix2_h rfl fun R' hR' hO => ?_
    go_wp2_with fail
    refine (HA.out 3 w11 (by decide)).mono ?_
    rintro e w12 ⟨rfl, hbx⟩
    have HB12 := hid (step HB11.out hbx)
    clear hbx
    go_wp2
    refine hR' _ _ ⟨⟨w12, HB12.out⟩, rfl⟩ ?_
    clear hR' hO R'
    refine wpMix2_h rfl fun R' hR' hO => ?_
    go_wp2_with fail
    refine (HLD.out (posR pl 3) w12).mono ?_
    rintro e w13 ⟨rfl, hbx⟩
    have HB13 := hid (step HB12.out hbx)
    clear hbx
    go_wp2
    refine hR' _ _ ⟨⟨w13, HB13.out⟩, rfl⟩ ?_
    clear hR' hO R'
    refine wpMix2_h rfl fun R' hR' hO => ?_
    go_wp2_with fail
    refine (HFR.out w13).mono ?_
    rintro e w14 ⟨rfl, hbx⟩
    have HB14 := hid (step HB13.out hbx)
    clear hbx
    go_wp2
    refine hR' _ _ ⟨⟨w14, HB14.out⟩, rfl⟩ ?_
    clear hR' hO R'
    refine wpMix2_h rfl fun R' hR' hO => ?_
    go_wp2_with fail
    refine (HST.out FRM next w14).mono ?_
    rintro e w15 ⟨rfl, hbx⟩
    have HB15 := hid (step HB14.out hbx)
    clear hbx
    go_wp2
    refine hR' _ _ ⟨⟨w15, HB15.out⟩, rfl⟩ ?_
    clear hR' hO R'
    refine wpMix2_h rfl fun R' hR' hO => ?_
    go_wp2_with fail
    refine (HBK.out w15).mono ?_
    rintro e w16 ⟨rfl, hbx⟩
    have HB16 := hid (step HB15.out hbx)
    clear hbx
    go_wp2
    refine hR' _ _ ⟨⟨w16, HB16.out⟩, rfl⟩ ?_
    clear hR' hO R'
    refine wpMix2_h rfl fun R' hR' hO => ?_
    go_wp2_with fail
    refine (HST.out BCK prev w16).mono ?_
    rintro e w17 ⟨rfl, hbx⟩
    have HB17 := hid (step HB16.out hbx)
    clear hbx
    go_wp2
    refine hR' _ _ ⟨⟨w17, HB17.out⟩, rfl⟩ ?_
    clear hR' hO R'
    repeat (refine wpMix2_q rfl rfl ?_; go_big_quiet_step (fail); refine wpQuiet_nil ?_)
    refine wpMix2_done ?_
    simp only [List.drop_succ_cons, List.drop_zero]
    have hkz := keep_laid HZ2.out HB17.out
    obtain ⟨V6, hV6, a3, -, a5⟩ := put4 hkz (.int .i64 KK) (.int .i64 ((AA : Nat) : Int)) (.int .u64 0) (.int .u64 ((AW : Nat) : Int))
    have zf0 := free_laid (i := 0) hkz
    have z0 := cell_laid (i := 0) hkz rfl
    have zf1 := free_laid (i := 1) hkz
    have z1 := cell_laid (i := 1) hkz rfl
    have zf2 := free_laid (i := 2) hkz
    have z2 := cell_laid (i := 2) hkz rfl
    have zf3 := free_laid (i := 3) hkz
    have z3 := cell_laid (i := 3) hkz rfl
    have HV6 := hid hV6
    have A3 := hid a3
    have HB6 := hid (a5 V.heap.size V hZV (step HBV2.out HB17.out))
    clear hkz hV6 a3 a5
    go_wp2
    rw [← HV6.out]
    refine bodyPost_ret (raccess_result A3.out rfl) rfl ?_
    exact ⟨rfl, HB6.out⟩
end Go.Proofs.Ytoihjmdpbbcbjaa
