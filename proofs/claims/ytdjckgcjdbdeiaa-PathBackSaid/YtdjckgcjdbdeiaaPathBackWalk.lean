/- PathBack: the walk of the law. -/
import Derived.Test.YtdjckgcjdbdeiaaPathLaw
namespace Go.Proofs.Ytdjckgcjdbdeiaa
open Go.RowKit
open Go.Proofs
set_option linter.unusedVariables false

set_option maxRecDepth 100000 in
set_option maxHeartbeats 1000000 in
theorem pathBack.walk (x y : Nat) (w : World) (hx : x < 18446744073709551616) (hy : y < 18446744073709551616) :
    Calls Try.prog 4 #[.int .u64 (x : Nat), .int .u64 (y : Nat)] w (Ret (.bool true) w) := by
  cases hr : rd x with
  | none =>
    have hA := fun W => Ahead_any x y W hx hy
    have hB := fun W => Ahead_any y x W hy hx
    rw [(ahead_none x y hr).1] at hA
    rw [(ahead_none x y hr).2] at hB
    have HA := hid hA
    have HB := hid hB
    have HP := hid fun W => Parts_none x W hx hr
    clear hA hB hr
    go_enter Try.func4, Try.ntmps4
    go_wp2_with fail
    refine (wakes_any _).mono ?_
    rintro e w1 ⟨rfl, hb1⟩
    go_wp2_with fail
    refine (HP.out _).mono ?_
    rintro e w2 ⟨rfl, hb2⟩
    go_wp2_with fail
    refine (HA.out _).mono ?_
    rintro e w3 ⟨rfl, hb3⟩
    go_wp2_with fail
    refine (HB.out _).mono ?_
    rintro e w4 ⟨rfl, hb4⟩
    go_wp2
    go_ret
    exact ⟨rfl, step (step (step hb1 hb2) hb3) hb4⟩
  | some ps =>
    obtain ⟨-, -, -, hok, hnum, htot, hlen⟩ := rd_some hr
    have HP := hid fun W => Parts_some x ps W hx hr
    have HU := hid fun W => Up_some x ps W hx hr
    have HUL := hid (ups_len ps)
    have HUH := hid (ups_head x ps hr)
    have hj : joinV ps = .tuple #[.int .u64 ((x : Nat) : Int), .int .i64 0] := by unfold joinV; rw [hok, hnum, if_pos rfl]
    have HJ := hid hj
    have hbx := fun W => Ahead_any y x W hy hx
    have hab := ahead_ups x ps hr
    rw [hab y] at hbx
    have hxx := fun W => Ahead_any x x W hx hx
    rw [hab x, decide_eq_true (self_ups x ps hr)] at hxx
    have hus : ∀ u ∈ ups ps, ∀ W, Calls Try.prog 18 #[.int .u64 (u : Nat), .int .u64 (x : Nat)] W (Ret (.bool true) W) := by
      intro u hu W
      have := Ahead_any u x W (ups_lt x ps hr u hu) hx
      rwa [hab u, decide_eq_true hu] at this
    have HBX := hid hbx
    have HXX := hid hxx
    have HUS := hid hus
    have HT := hid (Nat.le_trans (Pth.join_tot ps) htot)
    clear hj hbx hab hxx hus hr hok hnum htot
    go_enter Try.func4, Try.ntmps4
    go_wp2_with fail
    refine (wakes_any _).mono ?_
    rintro e w1 ⟨rfl, hb1⟩
    go_wp2_with fail
    refine (HP.out _).mono ?_
    rintro e w2 ⟨v, xs, rfl, hd, ho, hb2⟩
    obtain ⟨n, hn⟩ : ∃ n, xs.length = n := ⟨_, rfl⟩
    rw [hn] at ho
    have hpn : ps.length = n := by rw [← hd, dl_len]; exact hn
    obtain ⟨a, c, rfl, hld⟩ := Leads.of_own ho
    have hJ := fun W (hW : Below w2.heap.size w2 W) => Join_any xs a n c W hn (hld.grow hW) (by omega) (by rw [hd]; have := HT.out; omega)
    rw [hd, HJ.out] at hJ
    have HJJ := hid hJ
    have HPN := hid hpn
    clear ho hn hld hd hJ
    go_wp2_with fail
    refine (HJJ.out _ (Below.refl _ _)).mono ?_
    rintro e w3 ⟨rfl, hb3⟩
    go_wp2_with fail
    refine (HU.out _).mono ?_
    rintro e w4 ⟨v, rfl, ho, hb4⟩
    rw [HUL.out, hpn] at ho
    obtain ⟨a4, c4, rfl, hld⟩ := Leads.of_own ho
    obtain ⟨b, off, rfl, hc⟩ := hld.at (k := 0) (by omega) (wcell_at HUH.out)
    have hc0 := hc w4 (Below.refl _ _)
    rw [Nat.add_zero] at hc0
    have HLD := hid hld
    have hn5 : n ≤ 4 := by omega
    have hb14 := step (step (step hb1 hb2) hb3) hb4
    clear ho hld hc hpn hb1 hb2 hb3 hb4
    go_wp2
    go_loopg [12, 70] (n + 1) (fun g _ i wr => ∃ k : Nat, g + k = n + 1 ∧ i = .int .i64 (k : Nat) ∧ Below w4.heap.size w4 wr)
    case atStart => exact ⟨0, rfl, rfl, Below.refl _ _⟩
    case round =>
      obtain ⟨k, hk, rfl, hb⟩ := hrel
      have HK := hid hk
      clear hk
      by_cases hlt : k < n + 1
      · obtain ⟨u, hu⟩ : ∃ u, (ups ps)[k]? = some u := ⟨_, List.getElem?_eq_getElem (by rw [HUL.out, HPN.out]; exact hlt)⟩
        obtain ⟨b', off', e, hc⟩ := HLD.out.at hlt (wcell_at hu)
        cases e
        have hc1 := hc wr hb
        have HA := hid (HUS.out u (List.mem_of_getElem? hu))
        clear hc hu
        go_wp2_with (go_at_call 18; refine (HA.out _).mono ?_; rintro e w5 ⟨rfl, hb5⟩)
        go_roundg (gk - 1)
        case measure => have := HK.out; omega
        case rel => exact ⟨k + 1, by have := HK.out; omega, by go_num, step hb hb5⟩
      · clear HK
        obtain ⟨q, hq⟩ : ∃ q, decide (y ∈ ups ps) = q := ⟨_, rfl⟩
        have hB := HBX.out
        rw [hq] at hB
        have HB := hid hB
        have hC := fun W hW => ContU_any (ups ps) (some ⟨b, off, none⟩) (n + 1) c4 y W (by rw [HUL.out, HPN.out]) (HLD.out.grow hW)
        rw [hq] at hC
        have HC := hid hC
        clear hB hC hq
        go_wp2_with fail
        refine (HB.out _).mono ?_
        rintro e w5 ⟨rfl, hb5⟩
        go_wp2_with fail
        refine (HC.out _ (step hb hb5)).mono ?_
        rintro e w6 ⟨rfl, hb6⟩
        cases q with
        | true =>
          go_wp2_with (go_at_call 18; refine (HXX.out _).mono ?_; rintro e w7 ⟨rfl, hb7⟩)
          go_ret
          exact ⟨rfl, step (step (step (step hb14 hb) hb5) hb6) hb7⟩
        | false =>
          go_wp2_with (go_at_call 18; refine (HXX.out _).mono ?_; rintro e w7 ⟨rfl, hb7⟩)
          go_ret
          exact ⟨rfl, step (step (step (step hb14 hb) hb5) hb6) hb7⟩
end Go.Proofs.Ytdjckgcjdbdeiaa
