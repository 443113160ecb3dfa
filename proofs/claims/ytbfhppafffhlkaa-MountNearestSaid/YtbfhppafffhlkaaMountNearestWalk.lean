/- MountNearest: the walk of the law. wakes comes as a premise here; it is put in where the law is joined. -/
import Derived.Test.YtbfhppafffhlkaaMountPlain
import Derived.Test.YtbfhppafffhlkaaMount15
import Derived.Test.YtbfhppafffhlkaaPathPlain2
namespace Go.Proofs.Ytbfhppafffhlkaa
open Go.RowKit
open Go.Proofs
set_option linter.unusedVariables false

theorem ups_rd0 (x : Nat) (ps : List (List UInt8)) (h : rd x = some ps) (j b : Nat) (hb : (ups ps)[j]? = some b) : j ≤ ps.length ∧ rd b = some (ps.take (ps.length - j)) := by
  obtain ⟨-, -, -, hok, -, -, -⟩ := rd_some h
  obtain ⟨hj, he⟩ := List.getElem?_eq_some_iff.1 hb
  rw [ups_len] at hj
  refine ⟨by omega, ?_⟩
  have e : b = numL (ps.take (ps.length - j)) := by
    unfold ups at hb
    rw [List.getElem?_map, List.getElem?_range (by omega)] at hb
    exact (Option.some.inj hb).symm
  rw [e]
  exact rd_num _ (okL_take ps _ hok)

set_option maxRecDepth 100000 in
set_option maxHeartbeats 2000000 in
theorem mountNearest.walk0 (hwk : ∀ W : World, Calls Try.prog 7 #[] W (Ret (.bool true) W)) (a0 : Option Addr) (cap0 nx : Nat) (ms : List (Nat × Nat)) (x : Nat) (w : World) (h0 : Leads w a0 ms.length cap0 (mcells ms)) (ok0 : mok ms) (hnx : nx < 18446744073709551616) (hx : x < 18446744073709551616) :
    Calls Try.prog 4 #[.agg #[.slice a0 ms.length cap0, .int .u64 (nx : Nat)], .int .u64 (x : Nat)] w (Ret (.bool true) w) := by
  obtain ⟨n0, en0⟩ : ∃ n, ms.length = n := ⟨_, rfl⟩
  rw [en0] at h0 ⊢
  obtain ⟨n, hn⟩ : ∃ n : Nat, min (n0 : Int) 18 = (n : Int) := ⟨min n0 18, by omega⟩
  have hn18 : n ≤ 18 := by omega
  obtain ⟨l, hlt⟩ : ∃ l, ms.take n = l := ⟨_, rfl⟩
  have hll : l.length = n := by rw [← hlt, List.length_take, en0]; omega
  have hlk : mok l := fun p hp => ok0 p (List.mem_of_mem_take (hlt ▸ hp))
  obtain ⟨w1, hw1, hb1, hs1, hl1⟩ := laid w #[.slice a0 n0 cap0, .int .u64 ((nx : Nat) : Int)] 25
  have HW := hid hwk
  have HL1 := hid hl1
  have HLL := hid hll
  have HLK := hid hlk
  have HOWN := hid fun W (hW : Below w1.heap.size w1 W) => own_any ms a0 n0 n cap0 nx W en0 hn (h0.grow (step hb1 hW))
  rw [hlt] at HOWN
  have hC := fun W a c h => mCheck_any l a n c nx W HLL.out HLK.out (by omega) hnx h
  have hR := fun W a c h => mResolve_any l a n c nx x W HLL.out HLK.out (by omega) hnx hx h
  have hO := fun W a c u (hu : u < 18446744073709551616) h => mOf_any l a n c nx u W HLL.out HLK.out (by omega) hnx hu h
  have HO := hid hO
  clear hwk hl1 hll hlk hlt h0 ok0 en0 hs1 hO hn
  cases hr : rd x with
  | none =>
    have HU := hid fun W => Up_none x W hx hr
    cases hg : goodM l nx with
    | false =>
      rw [show resMV l nx x = .tuple #[.int .u64 0, .int .i64 340] by unfold resMV chk2E; rw [hg]; rfl] at hR
      rw [show chkE l nx = 340 by unfold chkE; rw [hg]; rfl] at hC
      have HC := hid hC
      have HR := hid hR
      clear hC hR hr hg
      go_enter Try.func4, Try.ntmps4
      go_wp2_with fail
      refine (HW.out _).mono ?_
      rintro e w2 ⟨rfl, hb2⟩
      have k0 := cell_laid (i := 0) (keep_laid HL1.out hb2) rfl
      have k1 := cell_laid (i := 1) (keep_laid HL1.out hb2) rfl
      go_wp2_with fail
      refine (HOWN.out _ hb2).mono ?_
      rintro e w3 ⟨v, rfl, ho, hb3⟩
      obtain ⟨a1, c1, rfl, hld⟩ := Leads.of_own ho
      obtain ⟨w4, hw4, hb4, hs4, hl4⟩ := laid w3 #[.slice a1 n c1, .int .u64 ((nx : Nat) : Int)] 25
      have HV4 := hid (hld.grow hb4)
      have HL4 := hid hl4
      have hb14 := step (step (step hb1 hb2) hb3) hb4
      have m0 := cell_laid (i := 0) hl4 rfl
      have m1 := cell_laid (i := 1) hl4 rfl
      clear k0 k1 ho hld hl4 hs4
      go_wp2_with fail
      refine (HR.out _ _ _ HV4.out).mono ?_
      rintro e w5 ⟨rfl, hb5⟩
      go_wp2_with fail
      refine (HU.out _).mono ?_
      rintro e w7 ⟨rfl, hb7⟩
      have hb47 := step hb5 hb7
      have HV := hid (HV4.out.grow hb47)
      have hb17 := step hb14 hb47
      have j0 := cell_laid (i := 0) (keep_laid HL4.out hb47) rfl
      have j1 := cell_laid (i := 1) (keep_laid HL4.out hb47) rfl
      clear m0 m1
      go_wp2_with fail
      refine (HC.out _ _ _ HV.out).mono ?_
      rintro e w9 ⟨rfl, hb9⟩
      have i0 := cell_laid (i := 0) (keep_laid HL4.out (step hb47 hb9)) rfl
      have i1 := cell_laid (i := 1) (keep_laid HL4.out (step hb47 hb9)) rfl
      clear j0 j1
      go_wp2_with (go_at_call 19; refine (HC.out _ _ _ (HV.out.grow hb9)).mono ?_; rintro e w10 ⟨rfl, hb10⟩)
      go_ret
      exact ⟨rfl, step (step hb17 hb9) hb10⟩
    | true =>
      rw [show resMV l nx x = .tuple #[.int .u64 0, .int .i64 310] by unfold resMV chk2E pathE; rw [hg, hr]; rfl] at hR
      rw [show chkE l nx = 0 by unfold chkE; rw [hg]; rfl] at hC
      have HC := hid hC
      have HR := hid hR
      clear hC hR hr hg
      go_enter Try.func4, Try.ntmps4
      go_wp2_with fail
      refine (HW.out _).mono ?_
      rintro e w2 ⟨rfl, hb2⟩
      have k0 := cell_laid (i := 0) (keep_laid HL1.out hb2) rfl
      have k1 := cell_laid (i := 1) (keep_laid HL1.out hb2) rfl
      go_wp2_with fail
      refine (HOWN.out _ hb2).mono ?_
      rintro e w3 ⟨v, rfl, ho, hb3⟩
      obtain ⟨a1, c1, rfl, hld⟩ := Leads.of_own ho
      obtain ⟨w4, hw4, hb4, hs4, hl4⟩ := laid w3 #[.slice a1 n c1, .int .u64 ((nx : Nat) : Int)] 25
      have HV4 := hid (hld.grow hb4)
      have HL4 := hid hl4
      have hb14 := step (step (step hb1 hb2) hb3) hb4
      have m0 := cell_laid (i := 0) hl4 rfl
      have m1 := cell_laid (i := 1) hl4 rfl
      clear k0 k1 ho hld hl4 hs4
      go_wp2_with fail
      refine (HR.out _ _ _ HV4.out).mono ?_
      rintro e w5 ⟨rfl, hb5⟩
      go_wp2_with fail
      refine (HU.out _).mono ?_
      rintro e w7 ⟨rfl, hb7⟩
      have hb47 := step hb5 hb7
      have HV := hid (HV4.out.grow hb47)
      have hb17 := step hb14 hb47
      have j0 := cell_laid (i := 0) (keep_laid HL4.out hb47) rfl
      have j1 := cell_laid (i := 1) (keep_laid HL4.out hb47) rfl
      clear m0 m1
      go_wp2_with fail
      refine (HC.out _ _ _ HV.out).mono ?_
      rintro e w9 ⟨rfl, hb9⟩
      have i0 := cell_laid (i := 0) (keep_laid HL4.out (step hb47 hb9)) rfl
      have i1 := cell_laid (i := 1) (keep_laid HL4.out (step hb47 hb9)) rfl
      clear j0 j1
      go_wp2_with (go_at_call 19; refine (HC.out _ _ _ (HV.out.grow hb9)).mono ?_; rintro e w10 ⟨rfl, hb10⟩)
      go_ret
      exact ⟨rfl, step (step hb17 hb9) hb10⟩
  | some ps =>
    have HU := hid fun W => Up_some x ps W hx hr
    have HUP := hid fun u hu => mount_ups_lt x ps hr u hu
    obtain ⟨m, hm⟩ : ∃ m, (ups ps).length = m := ⟨_, rfl⟩
    have HM := hid hm
    have hm8 : m ≤ 1000 := by
      have := (rd_some hr).2.2.2.2.2.2
      rw [← hm]; unfold ups; simp; omega
    cases hg : goodM l nx with
    | false =>
      rw [show resMV l nx x = .tuple #[.int .u64 0, .int .i64 340] by unfold resMV chk2E; rw [hg]; rfl] at hR
      rw [show chkE l nx = 340 by unfold chkE; rw [hg]; rfl] at hC
      have HC := hid hC
      have HR := hid hR
      clear hC hR hr hg hm
      go_enter Try.func4, Try.ntmps4
      go_wp2_with fail
      refine (HW.out _).mono ?_
      rintro e w2 ⟨rfl, hb2⟩
      have k0 := cell_laid (i := 0) (keep_laid HL1.out hb2) rfl
      have k1 := cell_laid (i := 1) (keep_laid HL1.out hb2) rfl
      go_wp2_with fail
      refine (HOWN.out _ hb2).mono ?_
      rintro e w3 ⟨v, rfl, ho, hb3⟩
      obtain ⟨a1, c1, rfl, hld⟩ := Leads.of_own ho
      obtain ⟨w4, hw4, hb4, hs4, hl4⟩ := laid w3 #[.slice a1 n c1, .int .u64 ((nx : Nat) : Int)] 25
      have HV4 := hid (hld.grow hb4)
      have HL4 := hid hl4
      have hb14 := step (step (step hb1 hb2) hb3) hb4
      have m0 := cell_laid (i := 0) hl4 rfl
      have m1 := cell_laid (i := 1) hl4 rfl
      clear k0 k1 ho hld hl4 hs4
      go_wp2_with fail
      refine (HR.out _ _ _ HV4.out).mono ?_
      rintro e w5 ⟨rfl, hb5⟩
      go_wp2_with fail
      refine (HU.out _).mono ?_
      rintro e w7 ⟨v, rfl, ho, hb7⟩
      rw [HM.out] at ho
      obtain ⟨a3, c3, rfl, hld⟩ := Leads.of_own ho
      have HLD := hid hld
      clear ho hld
      have hb47 := step hb5 hb7
      have HV := hid (HV4.out.grow hb47)
      have hb17 := step hb14 hb47
      have j0 := cell_laid (i := 0) (keep_laid HL4.out hb47) rfl
      have j1 := cell_laid (i := 1) (keep_laid HL4.out hb47) rfl
      clear m0 m1
      go_wp2_with fail
      refine (HC.out _ _ _ HV.out).mono ?_
      rintro e w9 ⟨rfl, hb9⟩
      have i0 := cell_laid (i := 0) (keep_laid HL4.out (step hb47 hb9)) rfl
      have i1 := cell_laid (i := 1) (keep_laid HL4.out (step hb47 hb9)) rfl
      clear j0 j1
      go_wp2_with (go_at_call 19; refine (HC.out _ _ _ (HV.out.grow hb9)).mono ?_; rintro e w10 ⟨rfl, hb10⟩)
      go_ret
      exact ⟨rfl, step (step hb17 hb9) hb10⟩
    | true =>
      have hpos := fun u => atM_pos l u (fun p hp => (good_pos hg p hp).1)
      obtain ⟨I, E, hIE⟩ : ∃ (I : Nat) (E : Int), resMV l nx x = .tuple #[.int .u64 ((I : Nat) : Int), .int .i64 E] := by
        unfold resMV
        split
        · rw [hr]
          dsimp only
          cases (ups ps).find? (fun u => decide (0 < atM l u)) with
          | some u => exact ⟨_, _, rfl⟩
          | none => exact ⟨0, _, rfl⟩
        · exact ⟨0, _, rfl⟩
      rw [hIE] at hR
      have hres : resMV l nx x = (match (ups ps).find? (fun u => hasM l u) with | some u => Value.tuple #[.int .u64 ((atM l u : Nat) : Int), .int .i64 0] | none => .tuple #[.int .u64 0, .int .i64 4]) := by
        unfold resMV chk2E pathE
        rw [hg, hr, if_pos rfl]
        simp only [hpos]
        rfl
      have HRES := hid (hIE.symm.trans hres)
      have hof : ∀ u : Nat, (∃ k : Nat, (ups ps)[k]? = some u) → ofMV l nx u = (if hasM l u then .tuple #[.int .u64 ((atM l u : Nat) : Int), .int .i64 0] else .tuple #[.int .u64 0, .int .i64 4]) := by
        rintro u ⟨k, hk⟩
        obtain ⟨_, hru⟩ := ups_rd0 x ps hr k u hk
        unfold ofMV chk2E pathE
        rw [hg, hru]
        rfl
      have HOF := hid hof
      rw [show chkE l nx = 0 by unfold chkE; rw [hg]; rfl] at hC
      have HC := hid hC
      have HR := hid hR
      clear hC hR hr hg hm hpos hIE hres hof
      go_enter Try.func4, Try.ntmps4
      go_wp2_with fail
      refine (HW.out _).mono ?_
      rintro e w2 ⟨rfl, hb2⟩
      have k0 := cell_laid (i := 0) (keep_laid HL1.out hb2) rfl
      have k1 := cell_laid (i := 1) (keep_laid HL1.out hb2) rfl
      go_wp2_with fail
      refine (HOWN.out _ hb2).mono ?_
      rintro e w3 ⟨v, rfl, ho, hb3⟩
      obtain ⟨a1, c1, rfl, hld⟩ := Leads.of_own ho
      obtain ⟨w4, hw4, hb4, hs4, hl4⟩ := laid w3 #[.slice a1 n c1, .int .u64 ((nx : Nat) : Int)] 25
      have HV4 := hid (hld.grow hb4)
      have HL4 := hid hl4
      have hb14 := step (step (step hb1 hb2) hb3) hb4
      have m0 := cell_laid (i := 0) hl4 rfl
      have m1 := cell_laid (i := 1) hl4 rfl
      clear k0 k1 ho hld hl4 hs4
      go_wp2_with fail
      refine (HR.out _ _ _ HV4.out).mono ?_
      rintro e w5 ⟨rfl, hb5⟩
      go_wp2_with fail
      refine (HU.out _).mono ?_
      rintro e w7 ⟨v, rfl, ho, hb7⟩
      rw [HM.out] at ho
      obtain ⟨a3, c3, rfl, hld⟩ := Leads.of_own ho
      have HLD := hid hld
      clear ho hld
      have hb47 := step hb5 hb7
      have HV := hid (HV4.out.grow hb47)
      have hb17 := step hb14 hb47
      have j0 := cell_laid (i := 0) (keep_laid HL4.out hb47) rfl
      have j1 := cell_laid (i := 1) (keep_laid HL4.out hb47) rfl
      clear m0 m1
      go_wp2_with fail
      refine (HC.out _ _ _ HV.out).mono ?_
      rintro e w9 ⟨rfl, hb9⟩
      have i0 := cell_laid (i := 0) (keep_laid HL4.out (step hb47 hb9)) rfl
      have i1 := cell_laid (i := 1) (keep_laid HL4.out (step hb47 hb9)) rfl
      clear j0 j1
      go_wp2
      go_loopg [11, 12, 13, 48] m (fun g _ _ _ i wr => ∃ k : Nat, g + k = m ∧ i = .int .i64 (k : Nat) ∧ Hid (∀ (j u : Nat), j < k → (ups ps)[j]? = some u → hasM l u = false) ∧ Below w9.heap.size w9 wr)
      case atStart => exact ⟨0, rfl, rfl, hid (fun j u h => absurd h (Nat.not_lt_zero j)), Below.refl _ _⟩
      case round =>
        obtain ⟨k, hk, rfl, hno, hb⟩ := hrel
        have HK := hid hk
        clear hk
        have hb9r := step (step hb47 hb9) hb
        have g0 := cell_laid (i := 0) (keep_laid HL4.out hb9r) rfl
        have g1 := cell_laid (i := 1) (keep_laid HL4.out hb9r) rfl
        have HV9 := hid (HV.out.grow (step hb9 hb))
        by_cases hlt : k < m
        · obtain ⟨u, hu⟩ : ∃ u, (ups ps)[k]? = some u := ⟨_, List.getElem?_eq_getElem (by rw [HM.out]; exact hlt)⟩
          obtain ⟨b1, off, rfl, hc⟩ := HLD.out.at hlt (wcell_at hu)
          have hc1 := hc wr (step hb9 hb)
          have huw := HUP.out u (List.mem_of_getElem? hu)
          have hOu := HO.out wr a1 c1 u huw HV9.out
          rw [HOF.out u ⟨k, hu⟩] at hOu
          cases hh : hasM l u with
          | true =>
            rw [hh, if_pos rfl] at hOu
            have hv := HRES.out
            rw [find_first _ _ u k hu hh (fun j y hj hy => hno.out j y hj hy)] at hv
            obtain ⟨hI, hE⟩ : (I : Int) = ((atM l u : Nat) : Int) ∧ E = 0 := by simpa using hv
            obtain ⟨N, hN⟩ : ∃ N, atM l u = N := ⟨_, rfl⟩
            rw [hN] at hOu hI
            obtain rfl : I = N := by omega
            subst hE
            have HOU := hid hOu
            clear hc hOu hno hh hv hN hI
            go_wp2_with fail
            refine HOU.out.mono ?_
            rintro e w10 ⟨rfl, hb10⟩
            go_wp2
            go_ret
            exact ⟨rfl, step (step (step hb17 hb9) hb) hb10⟩
          | false =>
            rw [hh, if_neg (by simp)] at hOu
            have HN : Hid (∀ (j u : Nat), j < k + 1 → (ups ps)[j]? = some u → hasM l u = false) := hid (by
              intro j u' hj hu'
              by_cases e : j = k
              · subst e; rw [hu] at hu'; cases hu'; exact hh
              · exact hno.out j u' (by omega) hu')
            have HOU := hid hOu
            clear hc hOu hno hh
            go_wp2_with fail
            refine HOU.out.mono ?_
            rintro e w10 ⟨rfl, hb10⟩
            go_wp2
            go_roundg (gk - 1)
            case measure => have := HK.out; omega
            case rel => exact ⟨k + 1, by have := HK.out; omega, by go_num, HN, step hb hb10⟩
        · have hv := HRES.out
          rw [find_no _ _ (fun j y hj hy => hno.out j y (by rw [HM.out] at hj; have := HK.out; omega) hy)] at hv
          obtain ⟨hI, hE⟩ : I = 0 ∧ E = 4 := by simpa using hv
          subst hI hE
          clear hno HK hv
          go_wp2
          go_ret
          exact ⟨rfl, step (step hb17 hb9) hb⟩
theorem mountNearest.walk (a0 : Option Addr) (cap0 nx : Nat) (ms : List (Nat × Nat)) (x : Nat) (w : World) (h0 : Leads w a0 ms.length cap0 (mcells ms)) (ok0 : mok ms) (hnx : nx < 18446744073709551616) (hx : x < 18446744073709551616) :
    Calls Try.prog 4 #[.agg #[.slice a0 ms.length cap0, .int .u64 (nx : Nat)], .int .u64 (x : Nat)] w (Ret (.bool true) w) := mountNearest.walk0 wakes_any a0 cap0 nx ms x w h0 ok0 hnx hx
end Go.Proofs.Ytbfhppafffhlkaa
