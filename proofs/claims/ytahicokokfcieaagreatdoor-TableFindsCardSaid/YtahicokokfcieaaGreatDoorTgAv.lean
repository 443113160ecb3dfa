/- Several texts in one. -/
import Derived.Test.YtahicokokfcieaaGreatDoorTb3
import Derived.Test.YtahicokokfcieaaGreatDoorTgAj
import Derived.Deep.LoopGhost
import Derived.Test.YtahicokokfcieaaGreatDoorTgAt
import Derived.Test.YtahicokokfcieaaGreatDoorTgAg
import Derived.Test.YtahicokokfcieaaGreatDoorTgAu
import Derived.Laws.StructEq
import Derived.DeepKeys
import Derived.Test.YtahicokokfcieaaGreatDoorTgAr
namespace Go.Proofs.YtahicokokfcieaaGreatDoor
open Go.RowKit
open Go.Proofs
set_option linter.unusedVariables false
attribute [local go_sem] Oper.semAt_some
def pw (n : Nat) : Nat := 2 ^ n
theorem pw_le {a b : Nat} (h : a ≤ b) : pw a ≤ pw b := Pl.pow_mono h
theorem pw_62 {n : Nat} (h : n ≤ 62) : pw n ≤ 4611686018427387904 := pw_le (b := 62) h
theorem pw_succ (n : Nat) : pw (n + 1) = 2 * pw n := by unfold pw; rw [Nat.pow_succ, Nat.mul_comm]
theorem Power_any (n : Nat) (w : World) (hn : n ≤ 63) : Calls Tryz.prog 63 #[.int .i64 (n : Nat)] w (Ret (.int .u64 ((pw n : Nat) : Int)) w) := by
  go_enter Tryz.func63, Tryz.ntmps63
  go_wp2
  go_loopg [3, 5] n (fun g x i wr => ∃ k : Nat, g + k = n ∧ i = .int .i64 (k : Nat) ∧ x = .int .u64 ((pw k : Nat) : Int) ∧ w = wr)
  case atStart => exact ⟨0, rfl, rfl, rfl, rfl⟩
  case round =>
    obtain ⟨k, hk, rfl, rfl, rfl⟩ := hrel
    have HK := hid hk
    clear hk
    by_cases hlt : k < n
    · have h1 := pw_62 (n := k) (by omega)
      have E := hid (pw_succ k)
      go_wp2
      go_roundg (gk - 1)
      case measure => have := HK.out; omega
      case rel => exact ⟨k + 1, by have := HK.out; omega, by go_num, by rw [E.out]; go_num, rfl⟩
    · have e : k = n := by have := HK.out; omega
      subst e
      go_wp2
      go_ret
      exact ⟨rfl, Below.refl _ _⟩
def rsaysV : Option (Nat × Nat) → Value
  | none => .tuple #[.int .u64 0, .int .i64 0, .bool false]
  | some (a, d) => .tuple #[.int .u64 ((a : Nat) : Int), .int .i64 ((2 ^ d : Nat) : Int), .bool true]
theorem results_tmp3r {fn : Func} {t u v : Tmp} (h : fn.results = #[.tmp t, .tmp u, .tmp v]) (tmps : Array Value) (P : Program) (w : World) :
    (results fn tmps).run P w = .ok (.tuple #[tmps.getD t undef, tmps.getD u undef, tmps.getD v undef]) w := by
  simp [results, h]
theorem rSays_none (x : Nat) (V : World) (hx : x < 18446744073709551616) (h : ¬ (2 ≤ x / 4294967296 ∧ x / 4294967296 ≤ 4)) : Calls Tryz.prog 33 #[.int .u64 ((x : Nat) : Int)] V (Ret (rsaysV none) V) := by
  have HP : Hid (∀ W, Calls Tryz.prog 63 #[.int .i64 32] W (Ret (.int .u64 4294967296) W)) := hid (fun W => Power_any 32 W (by decide))
  obtain ⟨a, ha⟩ : ∃ a, x % 4294967296 = a := ⟨_, rfl⟩
  obtain ⟨b, hb⟩ : ∃ b, x / 4294967296 = b := ⟨_, rfl⟩
  have ea : ((x : Nat) : Int) % 4294967296 = ((a : Nat) : Int) := by omega
  have ea' : ((x : Nat) : Int).tmod 4294967296 = ((a : Nat) : Int) := by rw [← ha]; rfl
  have eb : ((x : Nat) : Int) / 4294967296 = ((b : Nat) : Int) := by omega
  have eb' : ((x : Nat) : Int).tdiv 4294967296 = ((b : Nat) : Int) := by rw [← hb]; rfl
  obtain ⟨D, hD⟩ : ∃ D, V.drew = D := ⟨_, rfl⟩
  have hbD : Below V.heap.size V D := by rw [← hD]; exact (Below.refl _ _).drew
  have HD := hid hD
  have HBD := hid hbD
  clear hbD hD ha
  haveI : Nonempty (Ext D) := ⟨⟨D, Below.refl _ _⟩⟩
  go_enter Tryz.func33, Tryz.ntmps33
  go_upto_region 1 with (fail)
  refine wp_region_mix2 (fun W => ∃ z : Ext D, W = z.v) 8 (.q 0 (.q 3 (.h 1 (.q 2 (.h 4 (.q 5 (.q 6 (.q 7 (.done))))))))) (by kernel_rfl) (by kernel_rfl) (by rw [HD.out]; exact ⟨⟨D, Below.refl _ _⟩, rfl⟩) ?_
  rw [HD.out]
  iterate 2 (refine wpMix2_q rfl rfl ?_; go_big_quiet_step (fail); refine wpQuiet_nil ?_)
  refine wpMix2_h rfl fun R' hR' hO => ?_
  go_wp2_with fail
  refine (HP.out D).mono ?_
  rintro e w3 ⟨rfl, hb3⟩
  go_wp2
  refine hR' _ _ ⟨⟨w3, hb3⟩, rfl⟩ ?_
  clear hR' hO R'
  iterate 1 (refine wpMix2_q rfl rfl ?_; go_big_quiet_step (fail); refine wpQuiet_nil ?_)
  refine wpMix2_h rfl fun R' hR' hO => ?_
  go_wp2_with fail
  refine (HP.out w3).mono ?_
  rintro e w4 ⟨rfl, hb4⟩
  go_wp2
  have hb34 := hb3.trans (hb4.mono hb3.size)
  refine hR' _ _ ⟨⟨w4, hb34⟩, rfl⟩ ?_
  clear hR' hO R'
  iterate 3 (refine wpMix2_q rfl rfl ?_; go_big_quiet_step (fail); refine wpQuiet_nil ?_)
  refine wpMix2_done ?_
  simp only [List.drop_succ_cons, List.drop_nil]
  have HB4 := hid (HBD.out.trans (hb34.mono HBD.out.size))
  clear hb3 hb4 hb34 HP
  unfold rsaysV
  rw [hb] at h
  by_cases h2 : b < 2
  · have t2 : ((b : Nat) : Int) < 2 := by omega
    go_wp2
    refine bodyPost_ret (results_tmp3r rfl _ _ _) rfl ?_
    exact ⟨rfl, HB4.out⟩
  · have t2 : ¬ ((b : Nat) : Int) < 2 := by omega
    have t4 : (4 : Int) < ((b : Nat) : Int) := by omega
    go_wp2
    refine bodyPost_ret (results_tmp3r rfl _ _ _) rfl ?_
    exact ⟨rfl, HB4.out⟩
theorem rSays_2 (x : Nat) (V : World) (hx : x < 18446744073709551616) (h : x / 4294967296 = 2) : Calls Tryz.prog 33 #[.int .u64 ((x : Nat) : Int)] V (Ret (rsaysV (some (x % 4294967296, 2))) V) := by
  have HP2 : Hid (∀ W, Calls Tryz.prog 63 #[.int .i64 2] W (Ret (.int .u64 4) W)) := hid (fun W => Power_any 2 W (by decide))
  have HP : Hid (∀ W, Calls Tryz.prog 63 #[.int .i64 32] W (Ret (.int .u64 4294967296) W)) := hid (fun W => Power_any 32 W (by decide))
  obtain ⟨a, ha⟩ : ∃ a, x % 4294967296 = a := ⟨_, rfl⟩
  obtain ⟨b, hb⟩ : ∃ b, x / 4294967296 = b := ⟨_, rfl⟩
  have ea : ((x : Nat) : Int) % 4294967296 = ((a : Nat) : Int) := by omega
  have ea' : ((x : Nat) : Int).tmod 4294967296 = ((a : Nat) : Int) := by rw [← ha]; rfl
  have eb : ((x : Nat) : Int) / 4294967296 = ((b : Nat) : Int) := by omega
  have eb' : ((x : Nat) : Int).tdiv 4294967296 = ((b : Nat) : Int) := by rw [← hb]; rfl
  obtain ⟨D, hD⟩ : ∃ D, V.drew = D := ⟨_, rfl⟩
  have hbD : Below V.heap.size V D := by rw [← hD]; exact (Below.refl _ _).drew
  have HD := hid hD
  have HBD := hid hbD
  rw [ha]
  clear hbD hD ha
  haveI : Nonempty (Ext D) := ⟨⟨D, Below.refl _ _⟩⟩
  go_enter Tryz.func33, Tryz.ntmps33
  go_upto_region 1 with (fail)
  refine wp_region_mix2 (fun W => ∃ z : Ext D, W = z.v) 8 (.q 0 (.q 3 (.h 1 (.q 2 (.h 4 (.q 5 (.q 6 (.q 7 (.done))))))))) (by kernel_rfl) (by kernel_rfl) (by rw [HD.out]; exact ⟨⟨D, Below.refl _ _⟩, rfl⟩) ?_
  rw [HD.out]
  iterate 2 (refine wpMix2_q rfl rfl ?_; go_big_quiet_step (fail); refine wpQuiet_nil ?_)
  refine wpMix2_h rfl fun R' hR' hO => ?_
  go_wp2_with fail
  refine (HP.out D).mono ?_
  rintro e w3 ⟨rfl, hb3⟩
  go_wp2
  refine hR' _ _ ⟨⟨w3, hb3⟩, rfl⟩ ?_
  clear hR' hO R'
  iterate 1 (refine wpMix2_q rfl rfl ?_; go_big_quiet_step (fail); refine wpQuiet_nil ?_)
  refine wpMix2_h rfl fun R' hR' hO => ?_
  go_wp2_with fail
  refine (HP.out w3).mono ?_
  rintro e w4 ⟨rfl, hb4⟩
  go_wp2
  have hb34 := hb3.trans (hb4.mono hb3.size)
  refine hR' _ _ ⟨⟨w4, hb34⟩, rfl⟩ ?_
  clear hR' hO R'
  iterate 3 (refine wpMix2_q rfl rfl ?_; go_big_quiet_step (fail); refine wpQuiet_nil ?_)
  refine wpMix2_done ?_
  simp only [List.drop_succ_cons, List.drop_nil]
  have HB4 := hid (HBD.out.trans (hb34.mono HBD.out.size))
  clear hb3 hb4 hb34 HP
  unfold rsaysV
  rw [hb] at h
  subst h
  go_wp2_with fail
  refine (HP2.out w4).mono ?_
  rintro e w5 ⟨rfl, hb5⟩
  have HB5 := hid (HB4.out.trans (hb5.mono HB4.out.size))
  clear hb5
  go_wp2
  refine bodyPost_ret (results_tmp3r rfl _ _ _) rfl ?_
  exact ⟨rfl, HB5.out⟩
theorem rSays_3 (x : Nat) (V : World) (hx : x < 18446744073709551616) (h : x / 4294967296 = 3) : Calls Tryz.prog 33 #[.int .u64 ((x : Nat) : Int)] V (Ret (rsaysV (some (x % 4294967296, 3))) V) := by
  have HP2 : Hid (∀ W, Calls Tryz.prog 63 #[.int .i64 3] W (Ret (.int .u64 8) W)) := hid (fun W => Power_any 3 W (by decide))
  have HP : Hid (∀ W, Calls Tryz.prog 63 #[.int .i64 32] W (Ret (.int .u64 4294967296) W)) := hid (fun W => Power_any 32 W (by decide))
  obtain ⟨a, ha⟩ : ∃ a, x % 4294967296 = a := ⟨_, rfl⟩
  obtain ⟨b, hb⟩ : ∃ b, x / 4294967296 = b := ⟨_, rfl⟩
  have ea : ((x : Nat) : Int) % 4294967296 = ((a : Nat) : Int) := by omega
  have ea' : ((x : Nat) : Int).tmod 4294967296 = ((a : Nat) : Int) := by rw [← ha]; rfl
  have eb : ((x : Nat) : Int) / 4294967296 = ((b : Nat) : Int) := by omega
  have eb' : ((x : Nat) : Int).tdiv 4294967296 = ((b : Nat) : Int) := by rw [← hb]; rfl
  obtain ⟨D, hD⟩ : ∃ D, V.drew = D := ⟨_, rfl⟩
  have hbD : Below V.heap.size V D := by rw [← hD]; exact (Below.refl _ _).drew
  have HD := hid hD
  have HBD := hid hbD
  rw [ha]
  clear hbD hD ha
  haveI : Nonempty (Ext D) := ⟨⟨D, Below.refl _ _⟩⟩
  go_enter Tryz.func33, Tryz.ntmps33
  go_upto_region 1 with (fail)
  refine wp_region_mix2 (fun W => ∃ z : Ext D, W = z.v) 8 (.q 0 (.q 3 (.h 1 (.q 2 (.h 4 (.q 5 (.q 6 (.q 7 (.done))))))))) (by kernel_rfl) (by kernel_rfl) (by rw [HD.out]; exact ⟨⟨D, Below.refl _ _⟩, rfl⟩) ?_
  rw [HD.out]
  iterate 2 (refine wpMix2_q rfl rfl ?_; go_big_quiet_step (fail); refine wpQuiet_nil ?_)
  refine wpMix2_h rfl fun R' hR' hO => ?_
  go_wp2_with fail
  refine (HP.out D).mono ?_
  rintro e w3 ⟨rfl, hb3⟩
  go_wp2
  refine hR' _ _ ⟨⟨w3, hb3⟩, rfl⟩ ?_
  clear hR' hO R'
  iterate 1 (refine wpMix2_q rfl rfl ?_; go_big_quiet_step (fail); refine wpQuiet_nil ?_)
  refine wpMix2_h rfl fun R' hR' hO => ?_
  go_wp2_with fail
  refine (HP.out w3).mono ?_
  rintro e w4 ⟨rfl, hb4⟩
  go_wp2
  have hb34 := hb3.trans (hb4.mono hb3.size)
  refine hR' _ _ ⟨⟨w4, hb34⟩, rfl⟩ ?_
  clear hR' hO R'
  iterate 3 (refine wpMix2_q rfl rfl ?_; go_big_quiet_step (fail); refine wpQuiet_nil ?_)
  refine wpMix2_done ?_
  simp only [List.drop_succ_cons, List.drop_nil]
  have HB4 := hid (HBD.out.trans (hb34.mono HBD.out.size))
  clear hb3 hb4 hb34 HP
  unfold rsaysV
  rw [hb] at h
  subst h
  go_wp2_with fail
  refine (HP2.out w4).mono ?_
  rintro e w5 ⟨rfl, hb5⟩
  have HB5 := hid (HB4.out.trans (hb5.mono HB4.out.size))
  clear hb5
  go_wp2
  refine bodyPost_ret (results_tmp3r rfl _ _ _) rfl ?_
  exact ⟨rfl, HB5.out⟩
theorem rSays_4 (x : Nat) (V : World) (hx : x < 18446744073709551616) (h : x / 4294967296 = 4) : Calls Tryz.prog 33 #[.int .u64 ((x : Nat) : Int)] V (Ret (rsaysV (some (x % 4294967296, 4))) V) := by
  have HP2 : Hid (∀ W, Calls Tryz.prog 63 #[.int .i64 4] W (Ret (.int .u64 16) W)) := hid (fun W => Power_any 4 W (by decide))
  have HP : Hid (∀ W, Calls Tryz.prog 63 #[.int .i64 32] W (Ret (.int .u64 4294967296) W)) := hid (fun W => Power_any 32 W (by decide))
  obtain ⟨a, ha⟩ : ∃ a, x % 4294967296 = a := ⟨_, rfl⟩
  obtain ⟨b, hb⟩ : ∃ b, x / 4294967296 = b := ⟨_, rfl⟩
  have ea : ((x : Nat) : Int) % 4294967296 = ((a : Nat) : Int) := by omega
  have ea' : ((x : Nat) : Int).tmod 4294967296 = ((a : Nat) : Int) := by rw [← ha]; rfl
  have eb : ((x : Nat) : Int) / 4294967296 = ((b : Nat) : Int) := by omega
  have eb' : ((x : Nat) : Int).tdiv 4294967296 = ((b : Nat) : Int) := by rw [← hb]; rfl
  obtain ⟨D, hD⟩ : ∃ D, V.drew = D := ⟨_, rfl⟩
  have hbD : Below V.heap.size V D := by rw [← hD]; exact (Below.refl _ _).drew
  have HD := hid hD
  have HBD := hid hbD
  rw [ha]
  clear hbD hD ha
  haveI : Nonempty (Ext D) := ⟨⟨D, Below.refl _ _⟩⟩
  go_enter Tryz.func33, Tryz.ntmps33
  go_upto_region 1 with (fail)
  refine wp_region_mix2 (fun W => ∃ z : Ext D, W = z.v) 8 (.q 0 (.q 3 (.h 1 (.q 2 (.h 4 (.q 5 (.q 6 (.q 7 (.done))))))))) (by kernel_rfl) (by kernel_rfl) (by rw [HD.out]; exact ⟨⟨D, Below.refl _ _⟩, rfl⟩) ?_
  rw [HD.out]
  iterate 2 (refine wpMix2_q rfl rfl ?_; go_big_quiet_step (fail); refine wpQuiet_nil ?_)
  refine wpMix2_h rfl fun R' hR' hO => ?_
  go_wp2_with fail
  refine (HP.out D).mono ?_
  rintro e w3 ⟨rfl, hb3⟩
  go_wp2
  refine hR' _ _ ⟨⟨w3, hb3⟩, rfl⟩ ?_
  clear hR' hO R'
  iterate 1 (refine wpMix2_q rfl rfl ?_; go_big_quiet_step (fail); refine wpQuiet_nil ?_)
  refine wpMix2_h rfl fun R' hR' hO => ?_
  go_wp2_with fail
  refine (HP.out w3).mono ?_
  rintro e w4 ⟨rfl, hb4⟩
  go_wp2
  have hb34 := hb3.trans (hb4.mono hb3.size)
  refine hR' _ _ ⟨⟨w4, hb34⟩, rfl⟩ ?_
  clear hR' hO R'
  iterate 3 (refine wpMix2_q rfl rfl ?_; go_big_quiet_step (fail); refine wpQuiet_nil ?_)
  refine wpMix2_done ?_
  simp only [List.drop_succ_cons, List.drop_nil]
  have HB4 := hid (HBD.out.trans (hb34.mono HBD.out.size))
  clear hb3 hb4 hb34 HP
  unfold rsaysV
  rw [hb] at h
  subst h
  go_wp2_with fail
  refine (HP2.out w4).mono ?_
  rintro e w5 ⟨rfl, hb5⟩
  have HB5 := hid (HB4.out.trans (hb5.mono HB4.out.size))
  clear hb5
  go_wp2
  refine bodyPost_ret (results_tmp3r rfl _ _ _) rfl ?_
  exact ⟨rfl, HB5.out⟩
theorem rSays_any (x : Nat) (V : World) (hx : x < 18446744073709551616) : Calls Tryz.prog 33 #[.int .u64 ((x : Nat) : Int)] V (Ret (rsaysV (saysW x)) V) := by
  by_cases h : 2 ≤ x / 4294967296 ∧ x / 4294967296 ≤ 4
  · rw [show saysW x = some (x % 4294967296, x / 4294967296) by unfold saysW; rw [if_pos h]]
    rcases (by omega : x / 4294967296 = 2 ∨ x / 4294967296 = 3 ∨ x / 4294967296 = 4) with e | e | e
    · rw [e]; exact rSays_2 x V hx e
    · rw [e]; exact rSays_3 x V hx e
    · rw [e]; exact rSays_4 x V hx e
  · rw [show saysW x = none by unfold saysW; rw [if_neg h]]
    exact rSays_none x V hx h
end Go.Proofs.YtahicokokfcieaaGreatDoor
namespace Go.Proofs.YtahicokokfcieaaGreatDoor
open Go.RowKit
open Go.Proofs
set_option linter.unusedVariables false
attribute [local go_sem] Oper.semAt_some
theorem key_rw {x0 x1 x2 x3 : Nat} (h : x0 < 1000 ∧ x1 < 18446744073709551616 ∧ x2 < 18446744073709551616 ∧ x3 < 18446744073709551616) : Tryz.prog.keyLits 2 73 [.int .i64 ((x0 : Nat) : Int), .int .u64 ((x1 : Nat) : Int), .int .u64 ((x2 : Nat) : Int), .int .u64 ((x3 : Nat) : Int)] = some [.int .i64 ((x0 : Nat) : Int), .int .u64 ((x1 : Nat) : Int), .int .u64 ((x2 : Nat) : Int), .int .u64 ((x3 : Nat) : Int)] := by
  have hc0 : Tryz.prog.cellsOf 26 = 1 := by kernel_rfl
  have hc1 : Tryz.prog.cellsOf 3 = 1 := by kernel_rfl
  have hc2 : Tryz.prog.cellsOf 73 = 4 := by kernel_rfl
  unfold Program.keyLits
  simp only [Tryz.underlying73]
  simp [hc0, hc1, hc2, key_i64 0 (show -9223372036854775808 ≤ ((x0 : Nat) : Int) ∧ ((x0 : Nat) : Int) ≤ 9223372036854775807 by omega), key_u64 0 h.2.1, key_u64 0 h.2.2.1, key_u64 0 h.2.2.2]
set_option maxRecDepth 100000 in
theorem rw_eq (x0 x1 x2 x3 y0 y1 y2 y3 : Nat) (hx : x0 < 1000 ∧ x1 < 18446744073709551616 ∧ x2 < 18446744073709551616 ∧ x3 < 18446744073709551616) (hy : y0 < 1000 ∧ y1 < 18446744073709551616 ∧ y2 < 18446744073709551616 ∧ y3 < 18446744073709551616) (w : World) :
    (Op.equalIn 10000 73 (.agg #[.int .i64 ((x0 : Nat) : Int), .int .u64 ((x1 : Nat) : Int), .int .u64 ((x2 : Nat) : Int), .int .u64 ((x3 : Nat) : Int)]) (.agg #[.int .i64 ((y0 : Nat) : Int), .int .u64 ((y1 : Nat) : Int), .int .u64 ((y2 : Nat) : Int), .int .u64 ((y3 : Nat) : Int)])).run Tryz.prog w = .ok (decide ((x0, x1, x2, x3) = (y0, y1, y2, y3))) w := by
  have h1 := key_rw hx
  have h2 := key_rw hy
  obtain ⟨r, hr, hiff⟩ := run_equalIn_deep (P := Tryz.prog) 9998 2 73 (by kernel_rfl) w 2 2 (.agg #[.int .i64 ((x0 : Nat) : Int), .int .u64 ((x1 : Nat) : Int), .int .u64 ((x2 : Nat) : Int), .int .u64 ((x3 : Nat) : Int)]) (.agg #[.int .i64 ((y0 : Nat) : Int), .int .u64 ((y1 : Nat) : Int), .int .u64 ((y2 : Nat) : Int), .int .u64 ((y3 : Nat) : Int)]) _ _ (by simp [Value.formed, Tryz.underlying73]; exact (by kernel_rfl : 4 = Tryz.prog.cellsOf 73)) (by simp [Value.formed, Tryz.underlying73]; exact (by kernel_rfl : 4 = Tryz.prog.cellsOf 73)) h1 h2
  rw [hr]
  congr 1
  rw [Bool.eq_iff_iff, hiff]
  simp
  omega
theorem Lk.ext_iff' (s t : Lk) : s = t ↔ s.ph = t.ph ∧ s.root = t.root ∧ s.key = t.key ∧ s.array = t.array ∧ s.many = t.many ∧ s.s = t.s := by
  cases s; cases t; simp
instance : DecidableEq Lk := fun s t => decidable_of_iff _ (Lk.ext_iff' s t).symm
/-- A node of a row. -/
theorem Leads.rw {w : World} {a : Option Addr} {n cap k : Nat} {xs : List Rw} {x : Rw} (h : Leads w a n cap (rwcells xs)) (hk : k < n) (hx : xs[k]? = some x) : ∃ b off, a = some ⟨b, off, none⟩ ∧ b < w.heap.size ∧ ∀ w', Below w.heap.size w w' → w'.cell? ⟨b, off + k * 4, none⟩ = some (.int .i64 ((x.1 : Nat) : Int)) ∧ w'.cell? ⟨b, off + k * 4 + 1, none⟩ = some (.int .u64 ((x.2.1 : Nat) : Int)) ∧ w'.cell? ⟨b, off + k * 4 + 2, none⟩ = some (.int .u64 ((x.2.2.1 : Nat) : Int)) ∧ w'.cell? ⟨b, off + k * 4 + 3, none⟩ = some (.int .u64 ((x.2.2.2 : Nat) : Int)) := by
  obtain ⟨_, _, ⟨q, _⟩ | ⟨b, off, rfl, hb, hc⟩⟩ := h
  · omega
  · have hat : ∀ i, i < 4 → (rwcells xs)[k * 4 + i]? = (rw4 x)[i]? := fun i hi => flat_at rw4 4 (fun _ => rfl) xs k i _ hx hi
    refine ⟨b, off, rfl, hb, fun w' hw => ⟨?_, ?_, ?_, ?_⟩⟩
    · exact (hw.cell (p := ⟨b, off + k * 4, none⟩) hb).trans (hc (k * 4 + 0) _ (hat 0 (by decide)))
    · exact (hw.cell (p := ⟨b, off + k * 4 + 1, none⟩) hb).trans (hc (k * 4 + 1) _ (hat 1 (by decide)))
    · exact (hw.cell (p := ⟨b, off + k * 4 + 2, none⟩) hb).trans (hc (k * 4 + 2) _ (hat 2 (by decide)))
    · exact (hw.cell (p := ⟨b, off + k * 4 + 3, none⟩) hb).trans (hc (k * 4 + 3) _ (hat 3 (by decide)))
def RwsOk (xs : List Rw) : Prop := ∀ t ∈ xs, t.1 < 1000 ∧ t.2.1 < 18446744073709551616 ∧ t.2.2.1 < 18446744073709551616 ∧ t.2.2.2 < 18446744073709551616
set_option maxRecDepth 100000 in
set_option maxHeartbeats 2000000 in
theorem EqRw_any (xs ys : List Rw) (a a' : Option Addr) (n n' cap cap' : Nat) (w : World) (hx : xs.length = n) (hy : ys.length = n') (hxb : RwsOk xs) (hyb : RwsOk ys) (h : Leads w a n cap (rwcells xs)) (h' : Leads w a' n' cap' (rwcells ys)) :
    Calls Tryz.prog 28 #[.slice a n cap, .slice a' n' cap'] w (Ret (.bool (decide (xs = ys))) w) := by
  have hn := h.len.1
  have hn' := h'.len.1
  by_cases hnn : n = n'
  · subst hnn
    have H := hid h
    have H' := hid h'
    have HX := hid hx
    have HY := hid hy
    have HXB := hid hxb
    have HYB := hid hyb
    clear h h' hx hy hxb hyb
    go_enter Tryz.func28, Tryz.ntmps28
    go_wp2
    go_loopg [13] n (fun g  i wr => ∃ k : Nat, g + k = n ∧ i = .int .i64 (k : Nat) ∧ Hid (xs.take k = ys.take k) ∧ Hid (Below w.heap.size w wr))
    case atStart => exact ⟨0, rfl, rfl, hid rfl, hid (Below.refl _ _)⟩
    case round =>
      obtain ⟨k, hk, rfl, hs, hb⟩ := hrel
      have HK := hid hk
      clear hk
      by_cases hlt : k < n
      · obtain ⟨⟨x0, x1, x2, x3⟩, hxk⟩ : ∃ x, xs[k]? = some x := ⟨_, List.getElem?_eq_getElem (by rw [HX.out]; exact hlt)⟩
        obtain ⟨⟨y0, y1, y2, y3⟩, hyk⟩ : ∃ x, ys[k]? = some x := ⟨_, List.getElem?_eq_getElem (by rw [HY.out]; exact hlt)⟩
        obtain ⟨b, off, rfl, -, hcx⟩ := H.out.rw hlt hxk
        obtain ⟨b', off', rfl, -, hcy⟩ := H'.out.rw hlt hyk
        have heq := rw_eq x0 x1 x2 x3 y0 y1 y2 y3 (HXB.out _ (List.mem_of_getElem? hxk)) (HYB.out _ (List.mem_of_getElem? hyk))
        obtain ⟨E, hE⟩ : ∃ E, decide ((x0, x1, x2, x3) = (y0, y1, y2, y3)) = E := ⟨_, rfl⟩
        rw [hE] at heq
        have HB1 := hid hb.out
        have f0 : ∀ z : Ext wr, z.v.cell? ⟨b, off + k * 4, none⟩ = some (.int .i64 ((x0 : Nat) : Int)) := fun z => (hcx z.v (step hb.out z.b)).1
        have f1 : ∀ z : Ext wr, z.v.cell? ⟨b, off + k * 4 + 1, none⟩ = some (.int .u64 ((x1 : Nat) : Int)) := fun z => (hcx z.v (step hb.out z.b)).2.1
        have f2 : ∀ z : Ext wr, z.v.cell? ⟨b, off + k * 4 + 2, none⟩ = some (.int .u64 ((x2 : Nat) : Int)) := fun z => (hcx z.v (step hb.out z.b)).2.2.1
        have f3 : ∀ z : Ext wr, z.v.cell? ⟨b, off + k * 4 + 3, none⟩ = some (.int .u64 ((x3 : Nat) : Int)) := fun z => (hcx z.v (step hb.out z.b)).2.2.2
        have g0 : ∀ z : Ext wr, z.v.cell? ⟨b', off' + k * 4, none⟩ = some (.int .i64 ((y0 : Nat) : Int)) := fun z => (hcy z.v (step HB1.out z.b)).1
        have g1 : ∀ z : Ext wr, z.v.cell? ⟨b', off' + k * 4 + 1, none⟩ = some (.int .u64 ((y1 : Nat) : Int)) := fun z => (hcy z.v (step HB1.out z.b)).2.1
        have g2 : ∀ z : Ext wr, z.v.cell? ⟨b', off' + k * 4 + 2, none⟩ = some (.int .u64 ((y2 : Nat) : Int)) := fun z => (hcy z.v (step HB1.out z.b)).2.2.1
        have g3 : ∀ z : Ext wr, z.v.cell? ⟨b', off' + k * 4 + 3, none⟩ = some (.int .u64 ((y3 : Nat) : Int)) := fun z => (hcy z.v (step HB1.out z.b)).2.2.2
        go_upto_region 6 with (fail)
        by_cases he : (x0, x1, x2, x3) = (y0, y1, y2, y3)
        · have HT := hid (eq_take _ _ k _ _ hs.out hxk hyk he)
          have hEt : E = true := by rw [← hE]; exact decide_eq_true he
          subst hEt
          clear hcx hcy hxk hyk hs hE he
          refine wp_region_ext (by kernel_rfl) (by kernel_rfl) ?_
          repeat (go_big_quiet_step (fail))
          refine wpQuiet_nil ?_
          rintro v8 ⟨x8, e8⟩
          have HB2 := hid (step HB1.out x8.b)
          rw [← e8] at HB2
          clear e8 x8
          go_wp2
          go_roundg (gk - 1)
          case measure => have := HK.out; omega
          case rel => exact ⟨k + 1, by have := HK.out; omega, by go_num, HT, HB2⟩
        · have HT := hid (ne_at _ _ k _ _ hxk hyk he)
          have hEt : E = false := by rw [← hE]; exact decide_eq_false he
          subst hEt
          clear hcx hcy hxk hyk hs hE he
          refine wp_region_ext (by kernel_rfl) (by kernel_rfl) ?_
          repeat (go_big_quiet_step (fail))
          refine wpQuiet_nil ?_
          rintro v8 ⟨x8, e8⟩
          have HB2 := hid (step HB1.out x8.b)
          rw [← e8] at HB2
          clear e8 x8
          go_wp2
          go_ret
          exact ⟨retb (decide_eq_false HT.out).symm, HB2.out⟩
      · have e := HK.out
        obtain rfl : k = n := by omega
        have HE : Hid (xs = ys) := hid (by
          have := hs.out
          rwa [List.take_of_length_le (by rw [HX.out]; exact Nat.le_refl _), List.take_of_length_le (by rw [HY.out]; exact Nat.le_refl _)] at this)
        clear hs e HK
        go_wp2
        go_ret
        exact ⟨retb (decide_eq_true HE.out).symm, hb.out⟩
  · have hne : xs ≠ ys := fun e => hnn (by rw [← hx, ← hy, e])
    have HE := hid hne
    have q : (((n : Nat) : Int) != ((n' : Nat) : Int)) = true := by simp; omega
    clear h h' hx hy hxb hyb hne hnn
    go_enter Tryz.func28, Tryz.ntmps28
    go_wp2
    go_ret
    exact ⟨retb (decide_eq_false HE.out).symm, Below.refl _ _⟩
set_option maxRecDepth 100000 in
set_option maxHeartbeats 2000000 in
theorem rSameRw_any (xs ys : List Rw) (a a' : Option Addr) (n n' cap cap' : Nat) (w : World) (hx : xs.length = n) (hy : ys.length = n') (hxb : RwsOk xs) (hyb : RwsOk ys) (h : Leads w a n cap (rwcells xs)) (h' : Leads w a' n' cap' (rwcells ys)) :
    Calls Tryz.prog 11 #[.slice a n cap, .slice a' n' cap'] w (Ret (.bool (decide (xs = ys))) w) := by
  have hn := h.len.1
  have hn' := h'.len.1
  by_cases hnn : n = n'
  · subst hnn
    have H := hid h
    have H' := hid h'
    have HX := hid hx
    have HY := hid hy
    have HXB := hid hxb
    have HYB := hid hyb
    clear h h' hx hy hxb hyb
    go_enter Tryz.func11, Tryz.ntmps11
    go_wp2
    go_loopg [14] n (fun g  i wr => ∃ k : Nat, g + k = n ∧ i = .int .i64 (k : Nat) ∧ Hid (xs.take k = ys.take k) ∧ Hid (Below w.heap.size w wr))
    case atStart => exact ⟨0, rfl, rfl, hid rfl, hid (Below.refl _ _)⟩
    case round =>
      obtain ⟨k, hk, rfl, hs, hb⟩ := hrel
      have HK := hid hk
      clear hk
      by_cases hlt : k < n
      · obtain ⟨⟨x0, x1, x2, x3⟩, hxk⟩ : ∃ x, xs[k]? = some x := ⟨_, List.getElem?_eq_getElem (by rw [HX.out]; exact hlt)⟩
        obtain ⟨⟨y0, y1, y2, y3⟩, hyk⟩ : ∃ x, ys[k]? = some x := ⟨_, List.getElem?_eq_getElem (by rw [HY.out]; exact hlt)⟩
        obtain ⟨b, off, rfl, -, hcx⟩ := H.out.rw hlt hxk
        obtain ⟨b', off', rfl, -, hcy⟩ := H'.out.rw hlt hyk
        have heq := rw_eq x0 x1 x2 x3 y0 y1 y2 y3 (HXB.out _ (List.mem_of_getElem? hxk)) (HYB.out _ (List.mem_of_getElem? hyk))
        obtain ⟨E, hE⟩ : ∃ E, decide ((x0, x1, x2, x3) = (y0, y1, y2, y3)) = E := ⟨_, rfl⟩
        rw [hE] at heq
        obtain ⟨w1, hw1, hb1, hs1, hl1⟩ := laid wr #[.int .i64 0, .int .u64 0, .int .u64 0, .int .u64 0] 73
        obtain ⟨B, hB⟩ : ∃ X, wr.heap.size = X := ⟨_, rfl⟩
        rw [hB] at hl1
        obtain ⟨w2, hw2, a1, a2, a3⟩ := put4 hl1 (.int .i64 ((x0 : Nat) : Int)) (.int .u64 ((x1 : Nat) : Int)) (.int .u64 ((x2 : Nat) : Int)) (.int .u64 ((x3 : Nat) : Int))
        obtain ⟨z0, zf0, z1, zf1, z2, zf2, z3, zf3⟩ := fcl4 hl1
        have hbb : Below wr.heap.size wr w2 := a3 _ _ (by omega) hb1
        have HKB := hid a1
        have HW2 := hid hw2
        have HB1 := hid (step hb.out hbb)
        obtain ⟨c0, c1, c2, c3⟩ := hcx wr hb.out
        clear hw2 a1 a2 a3 hs1 hl1 hb1 hbb
        go_upto_region 6 with (fail)
        rw [← HW2.out]
        clear z0 z1 z2 z3 zf0 zf1 zf2 zf3 c0 c1 c2 c3
        have f0 : ∀ z : Ext w2, z.v.cell? ⟨B, 0, none⟩ = some (.int .i64 ((x0 : Nat) : Int)) := fun z => cell_laid (keep_laid HKB.out z.b) rfl
        have f1 : ∀ z : Ext w2, z.v.cell? ⟨B, 1, none⟩ = some (.int .u64 ((x1 : Nat) : Int)) := fun z => cell_laid (keep_laid HKB.out z.b) rfl
        have f2 : ∀ z : Ext w2, z.v.cell? ⟨B, 2, none⟩ = some (.int .u64 ((x2 : Nat) : Int)) := fun z => cell_laid (keep_laid HKB.out z.b) rfl
        have f3 : ∀ z : Ext w2, z.v.cell? ⟨B, 3, none⟩ = some (.int .u64 ((x3 : Nat) : Int)) := fun z => cell_laid (keep_laid HKB.out z.b) rfl
        have g0 : ∀ z : Ext w2, z.v.cell? ⟨b', off' + k * 4, none⟩ = some (.int .i64 ((y0 : Nat) : Int)) := fun z => (hcy z.v (step HB1.out z.b)).1
        have g1 : ∀ z : Ext w2, z.v.cell? ⟨b', off' + k * 4 + 1, none⟩ = some (.int .u64 ((y1 : Nat) : Int)) := fun z => (hcy z.v (step HB1.out z.b)).2.1
        have g2 : ∀ z : Ext w2, z.v.cell? ⟨b', off' + k * 4 + 2, none⟩ = some (.int .u64 ((y2 : Nat) : Int)) := fun z => (hcy z.v (step HB1.out z.b)).2.2.1
        have g3 : ∀ z : Ext w2, z.v.cell? ⟨b', off' + k * 4 + 3, none⟩ = some (.int .u64 ((y3 : Nat) : Int)) := fun z => (hcy z.v (step HB1.out z.b)).2.2.2
        by_cases he : (x0, x1, x2, x3) = (y0, y1, y2, y3)
        · have HT := hid (eq_take _ _ k _ _ hs.out hxk hyk he)
          have hEt : E = true := by rw [← hE]; exact decide_eq_true he
          subst hEt
          clear hcx hcy hxk hyk hs hE he
          refine wp_region_ext (by kernel_rfl) (by kernel_rfl) ?_
          repeat (go_big_quiet_step (fail))
          refine wpQuiet_nil ?_
          rintro v8 ⟨x8, e8⟩
          have HB2 := hid (step HB1.out x8.b)
          rw [← e8] at HB2
          clear e8 x8
          go_wp2
          go_roundg (gk - 1)
          case measure => have := HK.out; omega
          case rel => exact ⟨k + 1, by have := HK.out; omega, by go_num, HT, HB2⟩
        · have HT := hid (ne_at _ _ k _ _ hxk hyk he)
          have hEt : E = false := by rw [← hE]; exact decide_eq_false he
          subst hEt
          clear hcx hcy hxk hyk hs hE he
          refine wp_region_ext (by kernel_rfl) (by kernel_rfl) ?_
          repeat (go_big_quiet_step (fail))
          refine wpQuiet_nil ?_
          rintro v8 ⟨x8, e8⟩
          have HB2 := hid (step HB1.out x8.b)
          rw [← e8] at HB2
          clear e8 x8
          go_wp2
          go_ret
          exact ⟨retb (decide_eq_false HT.out).symm, HB2.out⟩
      · have e := HK.out
        obtain rfl : k = n := by omega
        have HE : Hid (xs = ys) := hid (by
          have := hs.out
          rwa [List.take_of_length_le (by rw [HX.out]; exact Nat.le_refl _), List.take_of_length_le (by rw [HY.out]; exact Nat.le_refl _)] at this)
        clear hs e HK
        go_wp2
        go_ret
        exact ⟨retb (decide_eq_true HE.out).symm, hb.out⟩
  · have hne : xs ≠ ys := fun e => hnn (by rw [← hx, ← hy, e])
    have HE := hid hne
    have q : (((n : Nat) : Int) != ((n' : Nat) : Int)) = true := by simp; omega
    clear h h' hx hy hxb hyb hne hnn
    go_enter Tryz.func11, Tryz.ntmps11
    go_wp2
    go_ret
    exact ⟨retb (decide_eq_false HE.out).symm, Below.refl _ _⟩
end Go.Proofs.YtahicokokfcieaaGreatDoor
namespace Go.Proofs.YtahicokokfcieaaGreatDoor
open Go.RowKit
open Go.Proofs
set_option linter.unusedVariables false
/-- A node's words; those of nodes; those of buckets. -/
def w4R (ns : List Nd) : List Nat := ns.flatMap fun t => List.range' t.1 4
def wordsT (nss : List (List Nd)) : List Nat := nss.flatMap w4R
/-- The rows of buckets, the first of which has this number. -/
def rowsB : Nat → List (List Nd) → List Rw
  | _, [] => []
  | b, ns :: r => ns.map (rwOf b) ++ rowsB (b + 1) r
/-- Each bucket's list is a list, and its keys go there. -/
def BOk (M : Mem) (a d : Nat) : Nat → List (List Nd) → Prop
  | _, [] => True
  | b, ns :: r => nodesR M (a + b) = some ns ∧ (∀ t ∈ ns, ofN t.2.1 d = b ∧ hashN t.2.1 = t.2.2.2) ∧ BOk M a d (b + 1) r
def FreshW (M : Mem) (met ws : List Nat) : Prop := (∀ w ∈ ws, liveN M w = true ∧ w ∉ met) ∧ ws.Nodup
theorem fresh_append {M : Mem} {met xs ys : List Nat} : FreshW M met (xs ++ ys) ↔ FreshW M met xs ∧ FreshW M (met ++ xs) ys := by
  unfold FreshW
  constructor
  · rintro ⟨h, hn⟩
    obtain ⟨n1, n2, n3⟩ := List.nodup_append.1 hn
    refine ⟨⟨fun w hw => h w (List.mem_append_left _ hw), n1⟩, fun w hw => ⟨(h w (List.mem_append_right _ hw)).1, ?_⟩, n2⟩
    intro hm
    rcases List.mem_append.1 hm with hm | hm
    · exact (h w (List.mem_append_right _ hw)).2 hm
    · exact n3 w hm w hw rfl
  · rintro ⟨⟨h1, n1⟩, h2, n2⟩
    refine ⟨fun w hw => ?_, List.nodup_append.2 ⟨n1, n2, fun x hx y hy e => ?_⟩⟩
    · rcases List.mem_append.1 hw with hw | hw
      · exact h1 w hw
      · exact ⟨(h2 w hw).1, fun hm => (h2 w hw).2 (List.mem_append_left _ hm)⟩
    · subst e; exact (h2 x hy).2 (List.mem_append_right _ hx)
theorem meet_fresh {M : Mem} {p k : Nat} {met met' : List Nat} : tmeet M p k met = some met' ↔ p ≤ 4096 ∧ FreshW M met (List.range' p k) ∧ met' = met ++ List.range' p k := by
  rw [tmeet_iff]
  unfold FreshW
  constructor
  · rintro ⟨h1, h2, h3⟩
    refine ⟨h1, ⟨fun w hw => ?_, List.nodup_range'⟩, h3⟩
    rw [List.mem_range'_1] at hw
    have := h2 (w - p) (by omega)
    rwa [show p + (w - p) = w by omega] at this
  · rintro ⟨h1, ⟨h2, -⟩, h3⟩
    exact ⟨h1, fun j hj => h2 _ (by rw [List.mem_range'_1]; omega), h3⟩
theorem takeNs_iff {M : Mem} {d b : Nat} (hok : okM M = true) : ∀ (ns : List Nd) (met : List Nat) (out xs : List Rw) (met' : List Nat), takeNs M d b ns met out = some (xs, met') ↔ (∀ t ∈ ns, ofN t.2.1 d = b ∧ hashN t.2.1 = t.2.2.2) ∧ FreshW M met (w4R ns) ∧ xs = out ++ ns.map (rwOf b) ∧ met' = met ++ w4R ns
  | [], met, out, xs, met' => by
    unfold takeNs
    constructor
    · intro h
      simp only [Option.some.injEq, Prod.mk.injEq] at h
      obtain ⟨rfl, rfl⟩ := h
      exact ⟨by simp, ⟨by simp [w4R], by simp [w4R]⟩, by simp, by simp [w4R]⟩
    · rintro ⟨-, -, rfl, rfl⟩
      simp [w4R]
  | t :: ts, met, out, xs, met' => by
    have hw : w4R (t :: ts) = List.range' t.1 4 ++ w4R ts := by simp [w4R]
    rw [hw, fresh_append]
    cases hm : tmeet M t.1 4 met with
    | none =>
      rw [takeNs_none hm]
      constructor
      · intro h; cases h
      · rintro ⟨-, ⟨h2, -⟩, -⟩
        exfalso
        have hl := (h2.1 t.1 (by rw [List.mem_range'_1]; omega)).1
        obtain ⟨q1, q2, q3, -⟩ := okM_spec hok
        have hlt := live_lt hl
        have := meet_fresh.2 ⟨(by omega : t.1 ≤ 4096), h2, rfl⟩
        rw [hm] at this
        cases this
    | some met1 =>
      obtain ⟨h1, h2, rfl⟩ := meet_fresh.1 hm
      by_cases hk : ofN t.2.1 d = b ∧ hashN t.2.1 = t.2.2.2
      · rw [takeNs_good hm hk.1 hk.2, takeNs_iff hok ts]
        constructor
        · rintro ⟨k1, k2, rfl, rfl⟩
          refine ⟨fun x hx => ?_, ⟨h2, k2⟩, by simp, by simp⟩
          rcases List.mem_cons.1 hx with rfl | hx
          · exact hk
          · exact k1 x hx
        · rintro ⟨k1, ⟨-, k2⟩, rfl, rfl⟩
          exact ⟨fun x hx => k1 x (List.mem_cons_of_mem _ hx), k2, by simp, by simp⟩
      · rw [takeNs_bad hm hk]
        constructor
        · intro h; cases h
        · rintro ⟨k1, -⟩
          exact absurd (k1 t (List.mem_cons_self ..)) hk
theorem buckets_iff {M : Mem} {a d : Nat} (hok : okM M = true) : ∀ (k b : Nat) (met : List Nat) (out xs : List Rw) (met' : List Nat), bucketsGo M a d k b met out = some (xs, met') ↔ ∃ nss, nss.length = k ∧ BOk M a d b nss ∧ FreshW M met (wordsT nss) ∧ xs = out ++ rowsB b nss ∧ met' = met ++ wordsT nss
  | 0, b, met, out, xs, met' => by
    unfold bucketsGo
    constructor
    · intro h
      simp only [Option.some.injEq, Prod.mk.injEq] at h
      exact ⟨[], rfl, trivial, ⟨by simp [wordsT], by simp [wordsT]⟩, by simp [rowsB, h.1], by simp [wordsT, h.2]⟩
    · rintro ⟨nss, h0, -, -, rfl, rfl⟩
      obtain rfl := List.eq_nil_of_length_eq_zero h0
      simp [rowsB, wordsT]
  | k + 1, b, met, out, xs, met' => by
    have hwt : ∀ (ns : List Nd) (r : List (List Nd)), wordsT (ns :: r) = w4R ns ++ wordsT r := fun ns r => by simp [wordsT]
    unfold bucketsGo
    constructor
    · intro h
      cases hn : nodesR M (a + b) with
      | none => rw [hn] at h; cases h
      | some ns =>
        rw [hn, Option.bind_some] at h
        cases ht : takeNs M d b ns met out with
        | none => rw [ht] at h; cases h
        | some r =>
          obtain ⟨r1, r2⟩ := r
          rw [ht, Option.bind_some] at h
          obtain ⟨t1, t2, rfl, rfl⟩ := (takeNs_iff hok ns met out r1 r2).1 ht
          obtain ⟨nss, q1, q2, q3, rfl, rfl⟩ := (buckets_iff hok k (b + 1) _ _ _ _).1 h
          exact ⟨ns :: nss, by simp [q1], ⟨hn, t1, q2⟩, by rw [hwt, fresh_append]; exact ⟨t2, q3⟩, by simp [rowsB], by rw [hwt]; simp⟩
    · rintro ⟨nss, h0, hb, hf, rfl, rfl⟩
      match nss, h0, hb, hf with
      | ns :: r, h0, ⟨hn, t1, q2⟩, hf =>
        rw [hwt, fresh_append] at hf
        rw [hn, Option.bind_some, (takeNs_iff hok ns met out _ _).2 ⟨t1, hf.1, rfl, rfl⟩, Option.bind_some]
        exact (buckets_iff hok k (b + 1) _ _ _ _).2 ⟨r, by simpa using h0, q2, hf.2, by simp [rowsB], by rw [hwt]; simp⟩
/-- The words of a table. -/
def metT (root a d : Nat) (nss : List (List Nd)) : List Nat := root :: List.range' a (2 ^ d) ++ wordsT nss
/-- A table: its root, its array, its buckets. -/
structure TabP (M : Mem) (root a d : Nat) (nss : List (List Nd)) : Prop where
  says : saysW (rdL M.W root) = some (a, d)
  len : nss.length = 2 ^ d
  bok : BOk M a d 0 nss
  nd : (metT root a d nss).Nodup
  live : ∀ w ∈ metT root a d nss, liveN M w = true
theorem tab_of {M : Mem} {root : Nat} {xs : List Rw} {met : List Nat} (hok : okM M = true) (h : rowsW M root = some (xs, met)) : ∃ a d nss, TabP M root a d nss ∧ xs = rowsB 0 nss ∧ met = metT root a d nss := by
  obtain ⟨a, d, m0, m1, t0, hs, t1, hb⟩ := rows_open h
  obtain ⟨-, f0, rfl⟩ := meet_fresh.1 t0
  obtain ⟨-, f1, rfl⟩ := meet_fresh.1 t1
  obtain ⟨nss, q1, q2, q3, rfl, rfl⟩ := (buckets_iff hok _ _ _ _ _ _).1 hb
  rw [List.nil_append] at f1 q3
  have hr1 : List.range' root 1 = [root] := rfl
  rw [hr1] at f0 f1 q3 ⊢
  have f01 : FreshW M [] ([root] ++ List.range' a (2 ^ d)) := fresh_append.2 ⟨f0, by simpa using f1⟩
  have f02 : FreshW M [] ([root] ++ List.range' a (2 ^ d) ++ wordsT nss) := fresh_append.2 ⟨f01, by simpa using q3⟩
  exact ⟨a, d, nss, ⟨hs, q1, q2, f02.2, fun w hw => (f02.1 w hw).1⟩, by simp, rfl⟩
end Go.Proofs.YtahicokokfcieaaGreatDoor
namespace Go.Proofs.YtahicokokfcieaaGreatDoor
open Go.RowKit
open Go.Proofs
set_option linter.unusedVariables false
theorem wordsT_cons (ns : List Nd) (q : List (List Nd)) : wordsT (ns :: q) = w4R ns ++ wordsT q := by simp [wordsT]
theorem w4R_cons (t : Nd) (l : List Nd) : w4R (t :: l) = List.range' t.1 4 ++ w4R l := by simp [w4R]
theorem posT_le {p k : Nat} (h : p ≤ 4096) : posL p k = p + k := by unfold posL; omega
theorem nodes_le {M : Mem} {head : Nat} {ns : List Nd} (hok : okM M = true) (h : nodesR M head = some ns) : ∀ t ∈ ns, t.1 ≤ 4096 := fun t ht => by
  have := (chain_live hok _ _ (nodesW_chain (nodesR_some h).1).2 t ht).1
  omega
end Go.Proofs.YtahicokokfcieaaGreatDoor
namespace Go.Proofs.YtahicokokfcieaaGreatDoor
open Go.RowKit
open Go.Proofs
set_option linter.unusedVariables false
theorem rowsB_mem : ∀ (nss : List (List Nd)) (b : Nat) (r : Rw), r ∈ rowsB b nss ↔ ∃ i ns t, nss[i]? = some ns ∧ t ∈ ns ∧ r = rwOf (b + i) t
  | [], b, r => by simp [rowsB]
  | ns :: q, b, r => by
    simp only [rowsB, List.mem_append, List.mem_map, rowsB_mem q (b + 1) r]
    constructor
    · rintro (⟨t, ht, rfl⟩ | ⟨i, ms, t, h1, h2, rfl⟩)
      · exact ⟨0, ns, t, rfl, ht, by simp⟩
      · exact ⟨i + 1, ms, t, by simpa using h1, h2, by rw [show b + 1 + i = b + (i + 1) by omega]⟩
    · rintro ⟨i, ms, t, h1, h2, rfl⟩
      cases i with
      | zero =>
        have h1 : some ns = some ms := h1
        cases h1
        exact .inl ⟨t, h2, by simp⟩
      | succ i => exact .inr ⟨i, ms, t, by simpa using h1, h2, by rw [show b + 1 + i = b + (i + 1) by omega]⟩
theorem bok_at {M : Mem} {a d : Nat} : ∀ (nss : List (List Nd)) (b i : Nat) (ns : List Nd), BOk M a d b nss → nss[i]? = some ns → nodesR M (a + (b + i)) = some ns ∧ ∀ t ∈ ns, ofN t.2.1 d = b + i ∧ hashN t.2.1 = t.2.2.2
  | [], b, i, ns, _, h => by simp at h
  | ms :: q, b, 0, ns, ⟨h1, h2, _⟩, h => by
    have h : some ms = some ns := h
    cases h
    exact ⟨h1, h2⟩
  | ms :: q, b, i + 1, ns, ⟨_, _, h3⟩, h => by
    have := bok_at q (b + 1) i ns h3 (by simpa using h)
    rw [show b + (i + 1) = b + 1 + i by omega]
    exact this
end Go.Proofs.YtahicokokfcieaaGreatDoor
namespace Go.Proofs.YtahicokokfcieaaGreatDoor
open Go.RowKit
open Go.Proofs
set_option linter.unusedVariables false
attribute [local go_sem] Oper.semAt_some
set_option maxHeartbeats 1000000 in
theorem rhas19_any (l : List Nat) (a : Option Addr) (n cap q : Nat) (V : World) (h : Leads V a n cap (ncells l)) (hn : l.length = n) :
    Calls Tryz.prog 38 #[.slice a n cap, .int .i64 ((q : Nat) : Int)] V (fun e W => e = .returned (.bool (decide (q ∈ l))) ∧ W = V) := by
  have hl := h.len
  have H := hid h
  have HN := hid hn
  clear h hn
  go_enter Tryz.func38, Tryz.ntmps38
  go_wp2
  go_loopg [9] n (fun g i wr => ∃ k : Nat, g + k = n ∧ i = .int .i64 (k : Nat) ∧ Hid (∀ x ∈ l.take k, x ≠ q) ∧ wr = V)
  case atStart => exact ⟨0, rfl, rfl, hid (by simp), rfl⟩
  case round =>
    obtain ⟨k, hk, rfl, hs, hwr⟩ := hrel
    subst hwr
    have HK := hid hk
    clear hk
    by_cases hlt : k < n
    · obtain ⟨x, hxk⟩ : ∃ x, l[k]? = some x := ⟨_, List.getElem?_eq_getElem (by rw [HN.out]; exact hlt)⟩
      obtain ⟨b, off, rfl, -, hc⟩ := H.out.at hlt (ncell_at hxk)
      have f1 := hc _ (Below.refl _ _)
      have HX := hid hxk
      clear hc hxk
      by_cases he : x = q
      · subst he
        have HE : Hid (decide (x ∈ l) = true) := hid (decide_eq_true (List.mem_of_getElem? HX.out))
        go_wp2
        go_ret
        exact ⟨retb HE.out.symm, rfl⟩
      · have t0 : (((x : Nat) : Int) == ((q : Nat) : Int)) = false := by simp; omega
        have HTK : Hid (∀ y ∈ l.take (k + 1), y ≠ q) := hid (by
          rw [take_snoc HX.out]
          intro y hy
          rcases List.mem_append.1 hy with hy | hy
          · exact hs.out y hy
          · rw [List.mem_singleton] at hy; subst hy; exact he)
        clear he
        go_wp2
        go_roundg (gk - 1)
        case measure => have := HK.out; omega
        case rel => exact ⟨k + 1, by have := HK.out; omega, by go_num, HTK, rfl⟩
    · have e := HK.out
      obtain rfl : k = n := by omega
      have HE : Hid (decide (q ∈ l) = false) := hid (decide_eq_false fun hm => by
        have := hs.out
        rw [List.take_of_length_le (by rw [HN.out]; exact Nat.le_refl _)] at this
        exact this q hm rfl)
      clear hs e HK
      go_wp2
      go_ret
      exact ⟨retb HE.out.symm, rfl⟩
theorem rHash_any (k : Nat) (V : World) : Calls Tryz.prog 35 #[.int .u64 ((k : Nat) : Int)] V (Ret (.int .u64 ((hashN k : Nat) : Int)) V) := by
  have e : IntKind.u64.wrap (((k : Nat) : Int) * 11400714819323198485) = ((hashN k : Nat) : Int) := by
    unfold hashN
    rw [IntKind.wrap_u64]
    omega
  go_enter Tryz.func35, Tryz.ntmps35
  go_wp2
  go_ret
  exact ⟨rfl, Below.refl _ _⟩
theorem rOf_4 (key : Nat) (V : World) : Calls Tryz.prog 36 #[.int .u64 ((key : Nat) : Int), .int .i64 4] V (Ret (.int .i64 ((ofN key 2 : Nat) : Int)) V) := by
  obtain ⟨h, hh⟩ : ∃ h, hashN key = h := ⟨_, rfl⟩
  have hl : h < 18446744073709551616 := by rw [← hh]; exact hashN_lt key
  obtain ⟨b, hb⟩ : ∃ b, ofN key 2 = b := ⟨_, rfl⟩
  have hb' : b = h / 4611686018427387904 := by rw [← hb, ← hh]; rfl
  have hq : ((h : Nat) : Int) / 4611686018427387904 = ((b : Nat) : Int) := by omega
  have hb4 : b < 16 := by omega
  have HH := hid (fun W => rHash_any key W)
  rw [hh] at HH
  rw [hb]
  clear hh hb hb'
  go_enter Tryz.func36, Tryz.ntmps36
  go_wp2_with fail
  refine (HH.out V).mono ?_
  rintro e w2 ⟨rfl, hb2⟩
  have HB2 := hid hb2
  clear hb2
  go_wp2
  go_ret
  exact ⟨rfl, HB2.out⟩
theorem rOf_8 (key : Nat) (V : World) : Calls Tryz.prog 36 #[.int .u64 ((key : Nat) : Int), .int .i64 8] V (Ret (.int .i64 ((ofN key 3 : Nat) : Int)) V) := by
  obtain ⟨h, hh⟩ : ∃ h, hashN key = h := ⟨_, rfl⟩
  have hl : h < 18446744073709551616 := by rw [← hh]; exact hashN_lt key
  obtain ⟨b, hb⟩ : ∃ b, ofN key 3 = b := ⟨_, rfl⟩
  have hb' : b = h / 2305843009213693952 := by rw [← hb, ← hh]; rfl
  have hq : ((h : Nat) : Int) / 2305843009213693952 = ((b : Nat) : Int) := by omega
  have hb4 : b < 16 := by omega
  have HH := hid (fun W => rHash_any key W)
  rw [hh] at HH
  rw [hb]
  clear hh hb hb'
  go_enter Tryz.func36, Tryz.ntmps36
  go_wp2_with fail
  refine (HH.out V).mono ?_
  rintro e w2 ⟨rfl, hb2⟩
  have HB2 := hid hb2
  clear hb2
  go_wp2
  go_ret
  exact ⟨rfl, HB2.out⟩
theorem rOf_16 (key : Nat) (V : World) : Calls Tryz.prog 36 #[.int .u64 ((key : Nat) : Int), .int .i64 16] V (Ret (.int .i64 ((ofN key 4 : Nat) : Int)) V) := by
  obtain ⟨h, hh⟩ : ∃ h, hashN key = h := ⟨_, rfl⟩
  have hl : h < 18446744073709551616 := by rw [← hh]; exact hashN_lt key
  obtain ⟨b, hb⟩ : ∃ b, ofN key 4 = b := ⟨_, rfl⟩
  have hb' : b = h / 1152921504606846976 := by rw [← hb, ← hh]; rfl
  have hq : ((h : Nat) : Int) / 1152921504606846976 = ((b : Nat) : Int) := by omega
  have hb4 : b < 16 := by omega
  have HH := hid (fun W => rHash_any key W)
  rw [hh] at HH
  rw [hb]
  clear hh hb hb'
  go_enter Tryz.func36, Tryz.ntmps36
  go_wp2_with fail
  refine (HH.out V).mono ?_
  rintro e w2 ⟨rfl, hb2⟩
  have HB2 := hid hb2
  clear hb2
  go_wp2
  go_ret
  exact ⟨rfl, HB2.out⟩
theorem rOf_any (key d : Nat) (z : Int) (V : World) (h : depZ z = some d) : Calls Tryz.prog 36 #[.int .u64 ((key : Nat) : Int), .int .i64 z] V (Ret (.int .i64 ((ofN key d : Nat) : Int)) V) := by
  unfold depZ at h
  split at h
  · cases h; subst z; exact rOf_4 key V
  · split at h
    · cases h; subst z; exact rOf_8 key V
    · split at h
      · cases h; subst z; exact rOf_16 key V
      · cases h
theorem rLive19_any (M : Mem) (wa la : Option Addr) (wc lc q : Nat) (V : World) (h : MemL V wa wc la lc M) (hlen : M.L.length = M.W.length) (hq : q < 18446744073709551616) :
    Calls Tryz.prog 32 #[memV wa wc la lc M, .int .u64 ((q : Nat) : Int)] V (Ret (.bool (liveN M q)) V) := by
  obtain ⟨V1, hV1, hb1, hs1, hl1⟩ := laid V #[.slice wa M.W.length wc, .slice la M.L.length lc, .bool M.F] 25
  have x0 := cell_laid (i := 0) hl1 rfl
  have x1 := cell_laid (i := 1) hl1 rfl
  have HB := hid hb1
  have hwl := h.w.len
  have hll := h.l.len
  have HL := hid (h.l.grow hb1)
  unfold memV
  obtain ⟨n, hn⟩ : ∃ n, M.W.length = n := ⟨_, rfl⟩
  rw [hn] at x0 hwl hlen hV1 ⊢
  rw [hlen] at x1 hll hV1 HL ⊢
  have HLN := hid hlen
  have hwr : IntKind.u64.wrap ((n : Nat) : Int) = ((n : Nat) : Int) := by rw [IntKind.wrap_u64]; omega
  clear hb1 hs1 hl1 h hn hlen
  by_cases hqn : q < n
  · obtain ⟨b, hb⟩ : ∃ b, M.L[q]? = some b := ⟨_, List.getElem?_eq_getElem (by rw [HLN.out]; exact hqn)⟩
    have hlv : liveN M q = b := by unfold liveN; rw [hb]; rfl
    rw [hlv]
    obtain ⟨lb, lo, rfl, -, hc⟩ := HL.out.at hqn (bcell_at hb)
    have f1 := hc _ (Below.refl _ _)
    have t1 : decide (((q : Nat) : Int) < ((n : Nat) : Int)) = true := decide_eq_true (by omega)
    have t1' : ((q : Nat) : Int) < ((n : Nat) : Int) := by omega
    clear hc hlv hb
    go_enter Tryz.func32, Tryz.ntmps32
    go_wp2
    go_ret
    exact ⟨rfl, HB.out⟩
  · have hlv : liveN M q = false := by unfold liveN; rw [List.getElem?_eq_none (by rw [HLN.out]; omega)]; rfl
    rw [hlv]
    have t1 : decide (((q : Nat) : Int) < ((n : Nat) : Int)) = false := decide_eq_false (by omega)
    have t1' : ¬ ((q : Nat) : Int) < ((n : Nat) : Int) := by omega
    clear hlv
    go_enter Tryz.func32, Tryz.ntmps32
    go_wp2
    go_ret
    exact ⟨rfl, HB.out⟩
/-- What the document's Words gives. -/
def resW (M : Mem) (root array p : Nat) : Option (List Nat) := (tmeet M root 1 []).bind fun m => tmeet M array p m
def GivesW19 (R : Option (List Nat)) (V : World) (e : Ending) (W : World) : Prop := Below V.heap.size V W ∧ ((R = none ∧ e = .returned (.tuple #[.slice none 0 0, .bool false])) ∨ (∃ met v, R = some met ∧ e = .returned (.tuple #[v, .bool true]) ∧ W.ownsRow V.heap.size 3 1 v met.length (ncells met)))
theorem resW_no {M : Mem} {root array p : Nat} (h : liveN M root = false ∨ 4096 < array) : resW M root array p = none := by
  unfold resW
  rcases h with h | h
  · have : tmeet M root 1 [] = none := by
      unfold tmeet takeN freeB
      rw [h]
      split <;> rfl
    rw [this]; rfl
  · cases tmeet M root 1 [] with
    | none => rfl
    | some m => show tmeet M array p m = none; unfold tmeet; rw [if_pos h]
theorem resW_go {M : Mem} {root array p : Nat} (h : liveN M root = true) (hr : root ≤ 4096) (ha : array ≤ 4096) : resW M root array p = takeN M array p [root] := by
  unfold resW
  have : tmeet M root 1 [] = some [root] := by
    unfold tmeet
    rw [if_neg (by omega)]
    unfold takeN freeB
    rw [h]
    rfl
  rw [this]
  show tmeet M array p [root] = _
  unfold tmeet
  rw [if_neg (by omega)]
set_option maxRecDepth 100000 in
set_option maxHeartbeats 4000000 in
theorem rWords19_any (M : Mem) (wa la : Option Addr) (wc lc root array p : Nat) (V : World) (h : MemL V wa wc la lc M) (hok : okM M = true) (hr : root < 18446744073709551616) (ha : array < 18446744073709551616) (hp : p ≤ 16) :
    Calls Tryz.prog 21 #[memV wa wc la lc M, .int .u64 ((root : Nat) : Int), .int .u64 ((array : Nat) : Int), .int .i64 ((p : Nat) : Int)] V (GivesW19 (resW M root array p) V) := by
  obtain ⟨hn1, hn4, hmn, -⟩ := okM_spec hok
  obtain ⟨V1, hV1, hb1, hs1, hl1⟩ := laid V #[.slice wa M.W.length wc, .slice la M.L.length lc, .bool M.F] 25
  obtain ⟨X, hX⟩ : ∃ X, V.heap.size = X := ⟨_, rfl⟩
  rw [hX] at hl1
  have hVX : V.heap.size ≤ X := by omega
  have KX := hid hl1
  have HB := hid hb1
  have HM := hid h
  have hwl := h.w.len
  have hll := h.l.len
  have HLV := hid (fun (q : Nat) (W : World) (hb : Below V.heap.size V W) (hq : q < 18446744073709551616) => rLive19_any M wa la wc lc q W (HM.out.grow hb) hmn hq)
  have HLT := hid (fun (q : Nat) (hl : liveN M q = true) => (by have := live_lt hl; omega : q < 4096 + 1))
  obtain ⟨RES, hRES⟩ : ∃ R, resW M root array p = R := ⟨_, rfl⟩
  rw [hRES]
  have HRES := hid hRES
  unfold memV at HLV ⊢
  have x0 := cell_laid (i := 0) KX.out rfl
  have x1 := cell_laid (i := 1) KX.out rfl
  have x2 := cell_laid (i := 2) KX.out rfl
  clear hb1 hs1 hl1 h hok hRES hn1 hn4 hmn
  have hwp : IntKind.u64.wrap ((p : Nat) : Int) = ((p : Nat) : Int) := by rw [IntKind.wrap_u64]; omega
  go_enter Tryz.func21, Tryz.ntmps21
  go_wp2_with fail
  refine (HLV.out root V1 HB.out hr).mono ?_
  rintro e w2 ⟨rfl, hb2⟩
  have KX2 := hid (keep_laid KX.out hb2)
  have HB2 := hid (step HB.out hb2)
  clear hb2 x0 x1 x2 hX
  cases hlr : liveN M root with
  | false =>
    have HN : Hid (RES = none) := hid (by rw [← HRES.out]; exact resW_no (.inl hlr))
    clear hlr
    go_wp2
    go_ret2
    exact ⟨HB2.out, .inl ⟨HN.out, rfl⟩⟩
  | true =>
    by_cases hal : 4096 < array
    · have HN : Hid (RES = none) := hid (by rw [← HRES.out]; exact resW_no (.inr hal))
      have t1 : decide ((4096 : Int) < ((array : Nat) : Int)) = true := decide_eq_true (by omega)
      have t1' : (4096 : Int) < ((array : Nat) : Int) := by omega
      clear hlr
      go_wp2
      go_ret2
      exact ⟨HB2.out, .inl ⟨HN.out, rfl⟩⟩
    · have hr4 : root < 4097 := HLT.out root hlr
      have HGO : Hid (takeN M array p [root] = RES) := hid (by rw [← HRES.out]; exact (resW_go hlr (by omega) (by omega)).symm)
      have t1 : decide ((4096 : Int) < ((array : Nat) : Int)) = false := decide_eq_false (by omega)
      have t1' : ¬ (4096 : Int) < ((array : Nat) : Int) := by omega
      have hwr : IntKind.i64.wrap ((root : Nat) : Int) = ((root : Nat) : Int) := by rw [IntKind.wrap_i64]; omega
      obtain ⟨w3, hw3, hb3, hs3, hl3⟩ := laid w2 #[.int .i64 ((root : Nat) : Int)] 3
      obtain ⟨B, hB⟩ : ∃ X, w2.heap.size = X := ⟨_, rfl⟩
      rw [hB] at hl3
      have hVB : V.heap.size ≤ B := by have := HB2.out.size; omega
      have HF0 : Hid (Wd V [root] (.slice (some ⟨B, 0, none⟩) 1 1) w3) := hid ⟨own_lit hl3 hVB (by decide) rfl rfl, step HB2.out hb3⟩
      have KX3 := hid (keep_laid KX2.out hb3)
      clear hb3 hs3 hl3 hlr KX2 HB2 KX HB
      go_wp2
      clear hB
      go_loopg [10, 25] p (fun g t10 t25 wr => ∃ (k : Nat) (met : List Nat), t25 = .int .u64 ((k : Nat) : Int) ∧ Hid (k + g = p) ∧ Hid (Wd V met t10 wr) ∧ Hid (met = root :: List.range' array k) ∧ Hid (takeN M (array + k) g met = RES) ∧ Hid (wr.heap[X]? = some (.cells #[.slice wa M.W.length wc, .slice la M.L.length lc, .bool M.F] 25 (0, 0))))
      case atStart => exact ⟨0, [root], rfl, hid (by omega), HF0, hid rfl, hid HGO.out, KX3⟩
      case round =>
        clear HF0 KX3 HGO
        obtain ⟨k, met, rfl, hk, hF, hmet, hR, hXw⟩ := hrel
        obtain ⟨va, vc, e10, -⟩ := Leads.of_own hF.out.r5
        have hlen : met.length = k + 1 := by rw [hmet.out]; simp
        rw [hlen] at e10
        subst e10
        have HLE := hid hlen
        have HK := hk
        by_cases hkp : k < p
        · obtain ⟨g1, hg1⟩ : ∃ g1, gk = g1 + 1 := ⟨gk - 1, by have := hk.out; omega⟩
          have HG1 := hid hg1
          obtain ⟨s, hs⟩ : ∃ s, array + k = s := ⟨_, rfl⟩
          have hsi : IntKind.u64.wrap (((array : Nat) : Int) + ((k : Nat) : Int)) = ((s : Nat) : Int) := by rw [IntKind.wrap_u64]; omega
          have hs5 : s ≤ 5000 := by omega
          have hws : IntKind.i64.wrap ((s : Nat) : Int) = ((s : Nat) : Int) := by rw [IntKind.wrap_i64]; omega
          have HS := hid hs
          have hR2 := hR.out
          rw [hg1, hs] at hR2
          unfold takeN at hR2
          have HR2 := hid hR2
          have t2 : decide (((k : Nat) : Int) < ((p : Nat) : Int)) = true := decide_eq_true (by omega)
          have t2' : ((k : Nat) : Int) < ((p : Nat) : Int) := by omega
          have x0 := cell_laid (i := 0) hXw.out rfl
          have x1 := cell_laid (i := 1) hXw.out rfl
          have x2 := cell_laid (i := 2) hXw.out rfl
          clear hg1 hs hR2 hR hk hlen
          go_wp2_with fail
          refine (HLV.out s wr hF.out.below (by omega)).mono ?_
          rintro e w5 ⟨rfl, hb5⟩
          have HF5 := hid (hF.out.grow hb5)
          have KX5 := hid (keep_laid hXw.out hb5)
          clear hb5 x0 x1 x2 hF hXw
          cases hls : liveN M s with
          | false =>
            have HN : Hid (RES = none) := hid (by rw [← HR2.out]; unfold freeB; rw [hls]; rfl)
            clear hls
            go_wp2
            go_ret2
            exact ⟨HF5.out.below, .inl ⟨HN.out, rfl⟩⟩
          | true =>
            by_cases hsr : s = root
            · have HN : Hid (RES = none) := hid (by rw [← HR2.out]; unfold freeB; rw [hls, decide_eq_true (show s ∈ met by rw [hmet.out, hsr]; exact List.mem_cons_self ..)]; rfl)
              have t3 : (((s : Nat) : Int) == ((root : Nat) : Int)) = true := by simp [hsr]
              have HSR := hid hsr
              clear hls hsr
              go_wp2
              go_ret2
              exact ⟨HF5.out.below, .inl ⟨HN.out, rfl⟩⟩
            · have HR3 : Hid (takeN M (s + 1) g1 (met ++ [s]) = RES) := hid (by
                have hnm : ¬ s ∈ met := by
                  rw [hmet.out]
                  intro hm
                  rcases List.mem_cons.1 hm with e | hm
                  · exact hsr e
                  · rw [List.mem_range'_1] at hm; have := HS.out; omega
                rw [← HR2.out]
                unfold freeB
                rw [hls, decide_eq_false hnm]; rfl)
              have HME : Hid (met ++ [s] = root :: List.range' array (k + 1)) := hid (by rw [hmet.out, ← HS.out, List.range'_concat]; simp)
              have t3 : (((s : Nat) : Int) == ((root : Nat) : Int)) = false := by simp; omega
              obtain ⟨w6, hw6, hb6, hs6, hl6⟩ := laid w5 #[.int .i64 ((s : Nat) : Int)] 3
              obtain ⟨Z, hZ⟩ : ∃ X, w5.heap.size = X := ⟨_, rfl⟩
              rw [hZ] at hl6
              have HLZ := hid hl6
              have HF6 := hid (HF5.out.grow hb6)
              have KX6 := hid (keep_laid KX5.out hb6)
              have HOW : Hid (w6.ownsRow V.heap.size 3 1 (.slice va (k + 1) vc) (k + 1) (ncells met)) := hid (by have := HF6.out.r5; rw [HLE.out] at this; exact this)
              clear hb6 hs6 hl6 hls HF5 KX5 hsr
              go_wp2_with ((with_reducible show wpList _ _ _ _ _ _); refine wp_appendM elemInts rfl (.tmp 41) (.tmp 46) rfl V.heap.size (.slice va (k + 1) vc) (k + 1) (ncells met) rfl HOW.out ⟨Z, 0, none⟩ 1 1 [.int .i64 ((s : Nat) : Int)] rfl rfl ?c1 ?c2 ?c3 ?c4 ?c5)
              case c1 => intro j u hj; refine cell_add (o := 0) (by rw [Nat.zero_add]; exact cell_laid HLZ.out (by simpa using hj))
              case c2 => first | (intro u hu; simp at hu; subst hu; rfl) | omega
              try (case c3 => omega)
              try (case c4 => exact HF6.out.below.size)
              case c5 =>
                intro v' w8 ho hg hmv
                have HF8 := hid (HF6.out.app (q := s) (v5' := v') (by rw [HLE.out]; exact ho) hg)
                have KX8 := hid (keep_grown KX6.out hg (own_ne HOW.out KX6.out (by decide)))
                obtain ⟨x9', y9', e9, -⟩ := Leads.of_own ho
                subst e9
                clear ho hg hmv HF6 HLZ HOW KX6 hZ
                go_wp2
                go_roundg g1
                case measure => have := HG1.out; omega
                case rel => exact ⟨k + 1, met ++ [s], by go_num, hid (by have := HK.out; have := HG1.out; omega), HF8, HME, hid (by rw [show array + (k + 1) = s + 1 by have := HS.out; omega]; exact HR3.out), KX8⟩
        · have hg0 : gk = 0 := by have := hk.out; omega
          have t2 : decide (((k : Nat) : Int) < ((p : Nat) : Int)) = false := decide_eq_false (by omega)
          have t2' : ¬ ((k : Nat) : Int) < ((p : Nat) : Int) := by omega
          have HE : Hid (RES = some met) := hid (by have := hR.out; rw [hg0] at this; exact this.symm)
          have HF9 := hF
          clear hg0 hR hF hk hlen
          go_wp2
          go_ret2
          exact ⟨HF9.out.below, .inr ⟨met, _, HE.out, rfl, by have := HF9.out.r5; rw [HLE.out] at this ⊢; exact this⟩⟩
end Go.Proofs.YtahicokokfcieaaGreatDoor
