/- TableWords: the walk of the law. -/
import Derived.Test.YtahicokokfcieaaDoorTbW1
import Derived.Test.YtahicokokfcieaaDoorTgAx
import Derived.Test.YtahicokokfcieaaDoorTgAa
import Derived.Deep.LoopGhost
namespace Go.Proofs.YtahicokokfcieaaDoor
open Go.RowKit
open Go.Proofs
set_option linter.unusedVariables false
attribute [local go_sem] Oper.semAt_some
theorem rWord_any (a d : Nat) (z : Int) (V : World) (h : depZ z = some d) (ha : a ≤ 4096) : Calls Tryd.prog 11 #[.int .u64 ((a : Nat) : Int), .int .i64 z] V (Ret (.int .u64 ((wordW a d : Nat) : Int)) V) := by
  unfold depZ at h
  split at h
  · cases h; subst z; exact rWord_4 a V ha
  · split at h
    · cases h; subst z; exact rWord_8 a V ha
    · split at h
      · cases h; subst z; exact rWord_16 a V ha
      · cases h
set_option maxRecDepth 100000 in
set_option maxHeartbeats 4000000 in
theorem tableWords_walk (a0 : Option Addr) (cap0 : Nat) (xs : List Nat) (a1 : Option Addr) (cap1 : Nat) (ys : List Int) (w : World) (hg : Glob w) (h0 : Leads w a0 xs.length cap0 (wcells xs)) (h1 : Leads w a1 ys.length cap1 (icells ys)) (hx : wok xs) (hy : iok ys) :
    Calls Tryd.prog 3 #[.slice a0 xs.length cap0, .slice a1 ys.length cap1] w (Ret (.bool true) w) := by
  obtain ⟨n, en⟩ : ∃ n, xs.length = n := ⟨_, rfl⟩
  obtain ⟨m, em⟩ : ∃ m, ys.length = m := ⟨_, rfl⟩
  rw [en] at h0 ⊢
  rw [em] at h1 ⊢
  have H0 := hid (fun k hk => Leads.word (k := k) h0 en hx hk)
  have H1 := hid (fun k hk => Leads.number (k := k) h1 em hy hk)
  have hn := h0.len.1
  have hm := h1.len.1
  have HG := hid hg
  clear en em h0 h1 hx hy hg
  go_enter Tryd.func3, Tryd.ntmps3
  go_wp2_with fail
  refine (wakes_any w HG.out).mono ?_
  rintro e w1 ⟨rfl, hb1⟩
  go_wp2
  go_loopg [23] n (fun g i wr => ∃ k : Nat, g + k = n ∧ i = .int .i64 (k : Nat) ∧ Hid (Below w.heap.size w wr))
  case atStart => exact ⟨0, rfl, rfl, hid hb1⟩
  case round =>
    obtain ⟨k, hk, rfl, hb⟩ := hrel
    obtain ⟨G, hG⟩ : ∃ G, G = gk - 1 := ⟨_, rfl⟩
    have HK := hid (And.intro hk hG)
    clear hk hG hb1
    by_cases hlt : k < n
    · obtain ⟨b, off, x, rfl, hxb, -, hc⟩ := H0.out k hlt
      have hc := hc _ hb.out
      cases h8 : ((k : Int) == 10) with
      | true =>
        go_wp2
        go_ret
        exact ⟨rfl, hb.out⟩
      | false =>
        have HS := hid (fun W hg => Says_any x W hxb hg)
        have HRS := hid (fun W => rSays_any x W hxb)
        obtain ⟨sx, hsx⟩ : ∃ s, saysW x = s := ⟨_, rfl⟩
        rw [hsx] at HS HRS
        clear hsx
        cases sx with
        | none =>
          unfold saysV at HS
          unfold rsaysV at HRS
          go_wp2_with fail
          refine (HS.out wr (HG.out.grow hb.out)).mono ?_
          rintro e w2 ⟨rfl, hb2⟩
          have HB2 := hid (step hb.out hb2)
          clear hb2 hc
          go_wp2_with fail
          refine (HRS.out w2).mono ?_
          rintro e w3 ⟨rfl, hb3⟩
          have HB3 := hid (step HB2.out hb3)
          clear hb3
          go_wp2
          go_loopg [66] m (fun g i wr => ∃ k : Nat, g + k = m ∧ i = .int .i64 (k : Nat) ∧ Hid (Below w.heap.size w wr))
          case atStart => exact ⟨0, rfl, rfl, HB3⟩
          case round =>
            clear HB2 HB3 HS HRS
            obtain ⟨j, hj, rfl, hb2⟩ := hrel
            have HJ := hid hj
            clear hj
            by_cases hlj : j < m
            · obtain ⟨bw, offw, z, rfl, hzb, -, hcw⟩ := H1.out j hlj
              have hcw := hcw _ hb2.out
              cases h8j : ((j : Int) == 8) with
              | true =>
                go_wp2
                go_roundg G
                case measure => have := HK.out; omega
                case rel => exact ⟨k + 1, by have := HK.out; omega, by go_num, hb2⟩
              | false =>
                have HWD := hid (fun W hg => Word_any x z W hg hxb hzb)
                have HMY := hid (fun W => rMay_any z W)
                unfold wordV at HWD
                cases hd : depZ z with
                | none =>
                  rw [hd] at HWD HMY
                  dsimp only at HWD
                  rw [show (none : Option Nat).isSome = false from rfl] at HMY
                  clear hd
                  go_wp2_with fail
                  refine (HWD.out _ (HG.out.grow hb2.out)).mono ?_
                  rintro e w4 ⟨rfl, hb4⟩
                  have HB4 := hid (step hb2.out hb4)
                  clear hb4 hcw
                  go_wp2_with fail
                  refine (HMY.out w4).mono ?_
                  rintro e w5 ⟨rfl, hb5⟩
                  have HB5 := hid (step HB4.out hb5)
                  clear hb5
                  go_wp2
                  go_roundg (gk - 1)
                  case measure => have := HJ.out; omega
                  case rel => exact ⟨j + 1, by have := HJ.out; omega, by go_num, HB5⟩
                | some d' =>
                  have HRW := hid (fun W ha => rWord_any x d' z W hd ha)
                  rw [hd] at HWD HMY
                  dsimp only at HWD
                  rw [show (some d').isSome = true from rfl] at HMY
                  obtain ⟨wd, hwd⟩ : ∃ v, wordW x d' = v := ⟨_, rfl⟩
                  rw [hwd] at HWD HRW
                  clear hd hwd
                  by_cases hle : x ≤ 4096
                  · rw [if_pos hle] at HWD
                    have t1 : decide (((x : Nat) : Int) ≤ 4096) = true := decide_eq_true (by omega)
                    have t2 : ((x : Nat) : Int) ≤ 4096 := by omega
                    go_wp2_with fail
                    refine (HWD.out _ (HG.out.grow hb2.out)).mono ?_
                    rintro e w4 ⟨rfl, hb4⟩
                    have HB4 := hid (step hb2.out hb4)
                    clear hb4 hcw
                    go_wp2_with fail
                    refine (HMY.out w4).mono ?_
                    rintro e w5 ⟨rfl, hb5⟩
                    have HB5 := hid (step HB4.out hb5)
                    clear hb5
                    go_wp2_with fail
                    refine (HRW.out w5 hle).mono ?_
                    rintro e w6 ⟨rfl, hb6⟩
                    have HB6 := hid (step HB5.out hb6)
                    clear hb6
                    go_wp2
                    go_roundg (gk - 1)
                    case measure => have := HJ.out; omega
                    case rel => exact ⟨j + 1, by have := HJ.out; omega, by go_num, HB6⟩
                  · rw [if_neg hle] at HWD
                    have t1 : decide (((x : Nat) : Int) ≤ 4096) = false := decide_eq_false (by omega)
                    have t2 : ¬ ((x : Nat) : Int) ≤ 4096 := by omega
                    go_wp2_with fail
                    refine (HWD.out _ (HG.out.grow hb2.out)).mono ?_
                    rintro e w4 ⟨rfl, hb4⟩
                    have HB4 := hid (step hb2.out hb4)
                    clear hb4 hcw
                    go_wp2_with fail
                    refine (HMY.out w4).mono ?_
                    rintro e w5 ⟨rfl, hb5⟩
                    have HB5 := hid (step HB4.out hb5)
                    clear hb5
                    go_wp2
                    go_roundg (gk - 1)
                    case measure => have := HJ.out; omega
                    case rel => exact ⟨j + 1, by have := HJ.out; omega, by go_num, HB5⟩
            · go_wp2
              go_roundg G
              case measure => have := HK.out; omega
              case rel => exact ⟨k + 1, by have := HK.out; omega, by go_num, hb2⟩
        | some ad =>
          obtain ⟨a, d⟩ := ad
          unfold saysV at HS
          unfold rsaysV at HRS
          dsimp only at HS HRS
          obtain ⟨p, hp⟩ : ∃ p, 2 ^ d = p := ⟨_, rfl⟩
          rw [hp] at HS HRS
          clear hp
          go_wp2_with fail
          refine (HS.out wr (HG.out.grow hb.out)).mono ?_
          rintro e w2 ⟨rfl, hb2⟩
          have HB2 := hid (step hb.out hb2)
          clear hb2 hc
          go_wp2_with fail
          refine (HRS.out w2).mono ?_
          rintro e w3 ⟨rfl, hb3⟩
          have HB3 := hid (step HB2.out hb3)
          clear hb3
          go_wp2
          go_loopg [66] m (fun g i wr => ∃ k : Nat, g + k = m ∧ i = .int .i64 (k : Nat) ∧ Hid (Below w.heap.size w wr))
          case atStart => exact ⟨0, rfl, rfl, HB3⟩
          case round =>
            clear HB2 HB3 HS HRS
            obtain ⟨j, hj, rfl, hb2⟩ := hrel
            have HJ := hid hj
            clear hj
            by_cases hlj : j < m
            · obtain ⟨bw, offw, z, rfl, hzb, -, hcw⟩ := H1.out j hlj
              have hcw := hcw _ hb2.out
              cases h8j : ((j : Int) == 8) with
              | true =>
                go_wp2
                go_roundg G
                case measure => have := HK.out; omega
                case rel => exact ⟨k + 1, by have := HK.out; omega, by go_num, hb2⟩
              | false =>
                have HWD := hid (fun W hg => Word_any x z W hg hxb hzb)
                have HMY := hid (fun W => rMay_any z W)
                unfold wordV at HWD
                cases hd : depZ z with
                | none =>
                  rw [hd] at HWD HMY
                  dsimp only at HWD
                  rw [show (none : Option Nat).isSome = false from rfl] at HMY
                  clear hd
                  go_wp2_with fail
                  refine (HWD.out _ (HG.out.grow hb2.out)).mono ?_
                  rintro e w4 ⟨rfl, hb4⟩
                  have HB4 := hid (step hb2.out hb4)
                  clear hb4 hcw
                  go_wp2_with fail
                  refine (HMY.out w4).mono ?_
                  rintro e w5 ⟨rfl, hb5⟩
                  have HB5 := hid (step HB4.out hb5)
                  clear hb5
                  go_wp2
                  go_roundg (gk - 1)
                  case measure => have := HJ.out; omega
                  case rel => exact ⟨j + 1, by have := HJ.out; omega, by go_num, HB5⟩
                | some d' =>
                  have HRW := hid (fun W ha => rWord_any x d' z W hd ha)
                  rw [hd] at HWD HMY
                  dsimp only at HWD
                  rw [show (some d').isSome = true from rfl] at HMY
                  obtain ⟨wd, hwd⟩ : ∃ v, wordW x d' = v := ⟨_, rfl⟩
                  rw [hwd] at HWD HRW
                  clear hd hwd
                  by_cases hle : x ≤ 4096
                  · rw [if_pos hle] at HWD
                    have t1 : decide (((x : Nat) : Int) ≤ 4096) = true := decide_eq_true (by omega)
                    have t2 : ((x : Nat) : Int) ≤ 4096 := by omega
                    go_wp2_with fail
                    refine (HWD.out _ (HG.out.grow hb2.out)).mono ?_
                    rintro e w4 ⟨rfl, hb4⟩
                    have HB4 := hid (step hb2.out hb4)
                    clear hb4 hcw
                    go_wp2_with fail
                    refine (HMY.out w4).mono ?_
                    rintro e w5 ⟨rfl, hb5⟩
                    have HB5 := hid (step HB4.out hb5)
                    clear hb5
                    go_wp2_with fail
                    refine (HRW.out w5 hle).mono ?_
                    rintro e w6 ⟨rfl, hb6⟩
                    have HB6 := hid (step HB5.out hb6)
                    clear hb6
                    go_wp2
                    go_roundg (gk - 1)
                    case measure => have := HJ.out; omega
                    case rel => exact ⟨j + 1, by have := HJ.out; omega, by go_num, HB6⟩
                  · rw [if_neg hle] at HWD
                    have t1 : decide (((x : Nat) : Int) ≤ 4096) = false := decide_eq_false (by omega)
                    have t2 : ¬ ((x : Nat) : Int) ≤ 4096 := by omega
                    go_wp2_with fail
                    refine (HWD.out _ (HG.out.grow hb2.out)).mono ?_
                    rintro e w4 ⟨rfl, hb4⟩
                    have HB4 := hid (step hb2.out hb4)
                    clear hb4 hcw
                    go_wp2_with fail
                    refine (HMY.out w4).mono ?_
                    rintro e w5 ⟨rfl, hb5⟩
                    have HB5 := hid (step HB4.out hb5)
                    clear hb5
                    go_wp2
                    go_roundg (gk - 1)
                    case measure => have := HJ.out; omega
                    case rel => exact ⟨j + 1, by have := HJ.out; omega, by go_num, HB5⟩
            · go_wp2
              go_roundg G
              case measure => have := HK.out; omega
              case rel => exact ⟨k + 1, by have := HK.out; omega, by go_num, hb2⟩
    · go_wp2
      go_ret
      exact ⟨rfl, hb.out⟩
end Go.Proofs.YtahicokokfcieaaDoor
