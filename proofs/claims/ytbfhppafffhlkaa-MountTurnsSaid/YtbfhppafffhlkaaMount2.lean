/- The functions of package mount: Check, check. -/
import Derived.Test.YtbfhppafffhlkaaMount1
import Derived.Test.YtbfhppafffhlkaaRegion
import Derived.Deep.DeepCutAuto
import Derived.Deep.CutBlock
namespace Go.Proofs.Ytbfhppafffhlkaa
open Go.RowKit
open Go.Proofs
set_option linter.unusedVariables false

def chkGo (nx : Nat) : Nat → List (Nat × Nat) → Bool
  | _, [] => true
  | last, p :: r => (rd p.1).isSome && decide (last < p.2) && decide (p.2 < nx) && chkGo nx p.2 r
/-- Mounts that may be. -/
def goodM (ms : List (Nat × Nat)) (nx : Nat) : Bool := chkGo nx 0 ms && decide (ms.length ≤ 16) && apartM ms && decide (1 ≤ nx) && decide (nx ≤ 1073741825)
def chkE (ms : List (Nat × Nat)) (nx : Nat) : Int := if goodM ms nx then 0 else 340
/-- .. and a path that may be. -/
def chk2E (ms : List (Nat × Nat)) (nx : Nat) (x : Nat) : Int := if goodM ms nx then pathE x else 340
theorem drop_at' {α : Type} (l : List α) (k : Nat) (x : α) (h : l[k]? = some x) : l.drop k = x :: l.drop (k + 1) := by
  obtain ⟨hk, e⟩ := List.getElem?_eq_some_iff.1 h
  rw [List.drop_eq_getElem_cons hk, e]

set_option maxRecDepth 100000 in
set_option maxHeartbeats 1000000 in
theorem mCheck_any (ms : List (Nat × Nat)) (a : Option Addr) (n cap nx : Nat) (w : World) (hl : ms.length = n) (hok : mok ms) (hn : n ≤ 1000) (hnx : nx < 18446744073709551616) (h : Leads w a n cap (mcells ms)) :
    Calls Try.prog 19 #[.agg #[.slice a n cap, .int .u64 (nx : Nat)]] w (Ret (.int .i64 (chkE ms nx)) w) := by
  obtain ⟨w1, hw1, hb1, hs1, hl1⟩ := laid w #[.slice a n cap, .int .u64 ((nx : Nat) : Int)] 25
  have HB1 := hid hl1
  have hc0 : w1.cell? ⟨w.heap.size, 0, none⟩ = some (.slice a n cap) := cell_laid hl1 rfl
  have H := hid h
  have HL := hid hl
  have HOK := hid hok
  have hnc := h.len.1
  obtain ⟨R, hR⟩ : ∃ R, chkE ms nx = R := ⟨_, rfl⟩
  rw [hR]
  have HR := hid hR
  clear h hl hok hl1 hs1 hR
  go_enter Try.func19, Try.ntmps19
  go_wp2
  go_loopg [3, 9] n (fun g t i wr => ∃ k tk : Nat, g + k = n ∧ i = .int .i64 (k : Nat) ∧ t = .int .u64 (tk : Nat) ∧ tk < 18446744073709551616 ∧ Hid (chkGo nx 0 ms = chkGo nx tk (ms.drop k)) ∧ Below w1.heap.size w1 wr)
  case atStart => exact ⟨0, 0, rfl, rfl, rfl, by decide, rfl, Below.refl _ _⟩
  case round =>
    obtain ⟨k, tk, hk, rfl, rfl, htk, hG, hb⟩ := hrel
    have HK := hid hk
    clear hk
    by_cases hlt : k < n
    · obtain ⟨⟨p1, p2⟩, hp⟩ : ∃ p, ms[k]? = some p := ⟨_, List.getElem?_eq_getElem (by rw [HL.out]; exact hlt)⟩
      obtain ⟨hp1, hp2⟩ := HOK.out _ (List.mem_of_getElem? hp)
      dsimp only at hp1 hp2
      obtain ⟨b, off, rfl, hbl, hc⟩ := H.out.mount hlt hp
      have hc1 := (hc wr (step hb1 hb)).1
      have hc2 := (hc wr (step hb1 hb)).2
      have hG2 : chkGo nx tk (ms.drop k) = ((rd p1).isSome && decide (tk < p2) && decide (p2 < nx) && chkGo nx p2 (ms.drop (k + 1))) := by rw [drop_at' _ _ _ hp]; rfl
      rw [hG2] at hG
      obtain ⟨wb, hwb, hbb, hsb, hlb⟩ := laid wr #[.int .u64 ((p1 : Nat) : Int), .int .u64 ((p2 : Nat) : Int)] 51
      have HLB := hid hlb
      have hx0 := cell_laid hlb (i := 0) rfl
      have hx1 := cell_laid hlb (i := 1) rfl
      have hbw : Below w1.heap.size w1 wb := step hb hbb
      have hC := fun W => Check_any p1 W hp1
      unfold pathE at hC
      clear hp hc hlb hG2 hsb
      cases hr : (rd p1).isSome with
      | false =>
        rw [hr] at hC hG
        have HE : Hid (R = 340) := hid (by rw [← HR.out]; unfold chkE goodM; rw [hG.out]; rfl)
        have HC := hid hC
        clear hC hr hG
        go_wp2_with (go_at_call 41; refine (HC.out _).mono ?_; rintro e w2 ⟨rfl, hb2⟩)
        go_ret
        exact ⟨reti HE.out.symm, step (step hb1 hbw) hb2⟩
      | true =>
        rw [hr, Bool.true_and] at hG
        rw [hr, if_pos rfl] at hC
        have HC := hid hC
        clear hC hr
        by_cases h1 : tk < p2
        · by_cases h2 : p2 < nx
          · rw [decide_eq_true h1, decide_eq_true h2, Bool.true_and, Bool.true_and] at hG
            go_wp2_with fail
            refine (HC.out _).mono ?_
            rintro e w2 ⟨rfl, hb2⟩
            have hy0 := cell_laid (keep_laid HLB.out hb2) (i := 0) rfl
            have hy1 := cell_laid (keep_laid HLB.out hb2) (i := 1) rfl
            have hn1 : w2.cell? ⟨w.heap.size, 1, none⟩ = some (.int .u64 ((nx : Nat) : Int)) := cell_laid (keep_laid HB1.out (step hbw hb2)) rfl
            go_wp2
            go_roundg (gk - 1)
            case measure => have := HK.out; omega
            case rel => exact ⟨k + 1, p2, by have := HK.out; omega, by go_num, rfl, hp2, hG, step hbw hb2⟩
          · have HE : Hid (R = 340) := hid (by rw [← HR.out]; unfold chkE goodM; rw [hG.out, decide_eq_false h2, Bool.and_false, Bool.false_and]; rfl)
            have h2' : nx ≤ p2 := by omega
            clear hG h2
            go_wp2_with fail
            refine (HC.out _).mono ?_
            rintro e w2 ⟨rfl, hb2⟩
            have hy0 := cell_laid (keep_laid HLB.out hb2) (i := 0) rfl
            have hy1 := cell_laid (keep_laid HLB.out hb2) (i := 1) rfl
            have hn1 : w2.cell? ⟨w.heap.size, 1, none⟩ = some (.int .u64 ((nx : Nat) : Int)) := cell_laid (keep_laid HB1.out (step hbw hb2)) rfl
            go_wp2
            go_ret
            exact ⟨reti HE.out.symm, step (step hb1 hbw) hb2⟩
        · have HE : Hid (R = 340) := hid (by rw [← HR.out]; unfold chkE goodM; rw [hG.out, decide_eq_false h1, Bool.false_and]; rfl)
          have h1' : p2 ≤ tk := by omega
          clear hG h1
          go_wp2_with fail
          refine (HC.out _).mono ?_
          rintro e w2 ⟨rfl, hb2⟩
          have hy0 := cell_laid (keep_laid HLB.out hb2) (i := 0) rfl
          have hy1 := cell_laid (keep_laid HLB.out hb2) (i := 1) rfl
          go_wp2
          go_ret
          exact ⟨reti HE.out.symm, step (step hb1 hbw) hb2⟩
    · have e := HK.out
      obtain rfl : n = k := by omega
      have HG : Hid (chkGo nx 0 ms = true) := hid (by have := hG.out; rw [List.drop_of_length_le (by rw [HL.out]; exact Nat.le_refl _)] at this; rw [this]; rfl)
      have f1 : ∀ z : Ext wr, z.v.cell? ⟨w.heap.size, 0, none⟩ = some (.slice a n cap) := fun z => cell_laid (keep_laid HB1.out (step hb z.b)) rfl
      have f2 : ∀ z : Ext wr, z.v.cell? ⟨w.heap.size, 1, none⟩ = some (.int .u64 ((nx : Nat) : Int)) := fun z => cell_laid (keep_laid HB1.out (step hb z.b)) rfl
      have HBP := hid fun W (hW : Below w1.heap.size w1 W) => byPath_any ms a n cap ((nx : Nat) : Int) W HL.out HOK.out hn (H.out.grow (step hb1 hW))
      obtain ⟨s, hs⟩ : ∃ s, Maps.size (mapD ms) = s := ⟨_, rfl⟩
      have hsz := mapD_size ms
      rw [hs, HL.out] at hsz
      have HS := hid hs
      clear e hG hs
      by_cases h16 : n ≤ 16
      · have q16 : decide ((16 : Int) < (n : Int)) = false := decide_eq_false (by omega)
        by_cases hap : s < n
        · have HE : Hid (R = 340) := hid (by
            rw [← HR.out]; unfold chkE goodM
            rw [decide_eq_true hap] at hsz
            have : apartM ms = false := by simpa using hsz.symm
            rw [this, Bool.and_false, Bool.false_and, Bool.false_and]; rfl)
          have qs : decide (s < n) = true := decide_eq_true hap
          have qs2 : decide ((s : Int) < (n : Int)) = true := decide_eq_true (by omega)
          clear hsz
          go_upto_region 9 with (fail)
          refine wp_region_mix (fun w' => ∃ z : Ext wr, w' = z.v) 23 [(0, false), (1, false), (2, false), (3, false), (4, false), (5, false), (8, false), (9, false), (10, false), (6, true), (7, true), (11, false), (12, false), (13, false), (14, false), (15, false), (16, false), (17, false), (18, false), (19, false), (20, false), (21, false), (22, false)] (by kernel_rfl) (by kernel_rfl) ⟨⟨_, (Below.refl _ _).drew⟩, rfl⟩ ?_
          repeat (refine wpMix_q rfl rfl ?_; go_big_quiet_step (fail); refine wpQuiet_nil ?_)
          refine wpMix_h rfl fun R' hR' hO => ?_
          go_wp2_with (fail)
          refine (HBP.out _ hb.drew).mono ?_
          rintro e w2 ⟨b, rfl, hbb, hI, hb2⟩
          have hbz : Below wr.heap.size wr w2 := (Below.refl _ _).drew.trans hb2
          go_wp2
          refine hR' _ _ ⟨⟨w2, hbz⟩, rfl⟩ ?_
          refine wpMix_h rfl fun R' hR' hO => ?_
          have hrun := hI.len Try.underlying66 3
          rw [HS.out] at hrun
          go_wp2
          refine hR' _ _ ⟨⟨w2, hbz⟩, rfl⟩ ?_
          repeat (refine wpMix_q rfl rfl ?_; go_big_quiet_step (fail); refine wpQuiet_nil ?_)
          refine wpMix_done ?_
          simp only [List.drop_succ_cons, List.drop_zero]
          go_wp2
          go_ret
          exact ⟨reti HE.out.symm, step (step hb1 hb) hbz⟩
        · have hap2 : apartM ms = true := by rw [decide_eq_false hap] at hsz; simpa using hsz.symm
          clear hsz
          have hap' : n ≤ s := by omega
          have qs : decide (s < n) = false := decide_eq_false hap
          have qs2 : decide ((s : Int) < (n : Int)) = false := decide_eq_false (by omega)
          by_cases h1 : 1 ≤ nx
          · by_cases h2 : nx ≤ 1073741825
            · have HE : Hid (R = 0) := hid (by rw [← HR.out]; unfold chkE goodM; rw [HG.out, HL.out, hap2, decide_eq_true h16, decide_eq_true h1, decide_eq_true h2]; rfl)
              have q1 : decide ((nx : Int) < 1) = false := decide_eq_false (by omega)
              have q2 : decide ((1073741825 : Int) < (nx : Int)) = false := decide_eq_false (by omega)
              clear hap hap2
              go_upto_region 9 with (fail)
              refine wp_region_mix (fun w' => ∃ z : Ext wr, w' = z.v) 23 [(0, false), (1, false), (2, false), (3, false), (4, false), (5, false), (8, false), (9, false), (10, false), (6, true), (7, true), (11, false), (12, false), (13, false), (14, false), (15, false), (16, false), (17, false), (18, false), (19, false), (20, false), (21, false), (22, false)] (by kernel_rfl) (by kernel_rfl) ⟨⟨_, (Below.refl _ _).drew⟩, rfl⟩ ?_
              repeat (refine wpMix_q rfl rfl ?_; go_big_quiet_step (fail); refine wpQuiet_nil ?_)
              refine wpMix_h rfl fun R' hR' hO => ?_
              go_wp2_with (fail)
              refine (HBP.out _ hb.drew).mono ?_
              rintro e w2 ⟨b, rfl, hbb, hI, hb2⟩
              have hbz : Below wr.heap.size wr w2 := (Below.refl _ _).drew.trans hb2
              go_wp2
              refine hR' _ _ ⟨⟨w2, hbz⟩, rfl⟩ ?_
              refine wpMix_h rfl fun R' hR' hO => ?_
              have hrun := hI.len Try.underlying66 3
              rw [HS.out] at hrun
              go_wp2
              refine hR' _ _ ⟨⟨w2, hbz⟩, rfl⟩ ?_
              repeat (refine wpMix_q rfl rfl ?_; go_big_quiet_step (fail); refine wpQuiet_nil ?_)
              refine wpMix_done ?_
              simp only [List.drop_succ_cons, List.drop_zero]
              go_wp2
              go_ret
              exact ⟨reti HE.out.symm, step (step hb1 hb) hbz⟩
            · have HE : Hid (R = 340) := hid (by rw [← HR.out]; unfold chkE goodM; rw [decide_eq_false h2, Bool.and_false]; rfl)
              have h2' : 1073741825 < nx := by omega
              have q1 : decide ((nx : Int) < 1) = false := decide_eq_false (by omega)
              have q2 : decide ((1073741825 : Int) < (nx : Int)) = true := decide_eq_true (by omega)
              clear hap hap2 h2
              go_upto_region 9 with (fail)
              refine wp_region_mix (fun w' => ∃ z : Ext wr, w' = z.v) 23 [(0, false), (1, false), (2, false), (3, false), (4, false), (5, false), (8, false), (9, false), (10, false), (6, true), (7, true), (11, false), (12, false), (13, false), (14, false), (15, false), (16, false), (17, false), (18, false), (19, false), (20, false), (21, false), (22, false)] (by kernel_rfl) (by kernel_rfl) ⟨⟨_, (Below.refl _ _).drew⟩, rfl⟩ ?_
              repeat (refine wpMix_q rfl rfl ?_; go_big_quiet_step (fail); refine wpQuiet_nil ?_)
              refine wpMix_h rfl fun R' hR' hO => ?_
              go_wp2_with (fail)
              refine (HBP.out _ hb.drew).mono ?_
              rintro e w2 ⟨b, rfl, hbb, hI, hb2⟩
              have hbz : Below wr.heap.size wr w2 := (Below.refl _ _).drew.trans hb2
              go_wp2
              refine hR' _ _ ⟨⟨w2, hbz⟩, rfl⟩ ?_
              refine wpMix_h rfl fun R' hR' hO => ?_
              have hrun := hI.len Try.underlying66 3
              rw [HS.out] at hrun
              go_wp2
              refine hR' _ _ ⟨⟨w2, hbz⟩, rfl⟩ ?_
              repeat (refine wpMix_q rfl rfl ?_; go_big_quiet_step (fail); refine wpQuiet_nil ?_)
              refine wpMix_done ?_
              simp only [List.drop_succ_cons, List.drop_zero]
              go_wp2
              go_ret
              exact ⟨reti HE.out.symm, step (step hb1 hb) hbz⟩
          · have HE : Hid (R = 340) := hid (by rw [← HR.out]; unfold chkE goodM; rw [decide_eq_false h1, Bool.and_false, Bool.false_and]; rfl)
            have h1' : nx < 1 := by omega
            have q1 : decide ((nx : Int) < 1) = true := decide_eq_true (by omega)
            clear hap hap2 h1
            go_upto_region 9 with (fail)
            refine wp_region_mix (fun w' => ∃ z : Ext wr, w' = z.v) 23 [(0, false), (1, false), (2, false), (3, false), (4, false), (5, false), (8, false), (9, false), (10, false), (6, true), (7, true), (11, false), (12, false), (13, false), (14, false), (15, false), (16, false), (17, false), (18, false), (19, false), (20, false), (21, false), (22, false)] (by kernel_rfl) (by kernel_rfl) ⟨⟨_, (Below.refl _ _).drew⟩, rfl⟩ ?_
            repeat (refine wpMix_q rfl rfl ?_; go_big_quiet_step (fail); refine wpQuiet_nil ?_)
            refine wpMix_h rfl fun R' hR' hO => ?_
            go_wp2_with (fail)
            refine (HBP.out _ hb.drew).mono ?_
            rintro e w2 ⟨b, rfl, hbb, hI, hb2⟩
            have hbz : Below wr.heap.size wr w2 := (Below.refl _ _).drew.trans hb2
            go_wp2
            refine hR' _ _ ⟨⟨w2, hbz⟩, rfl⟩ ?_
            refine wpMix_h rfl fun R' hR' hO => ?_
            have hrun := hI.len Try.underlying66 3
            rw [HS.out] at hrun
            go_wp2
            refine hR' _ _ ⟨⟨w2, hbz⟩, rfl⟩ ?_
            repeat (refine wpMix_q rfl rfl ?_; go_big_quiet_step (fail); refine wpQuiet_nil ?_)
            refine wpMix_done ?_
            simp only [List.drop_succ_cons, List.drop_zero]
            go_wp2
            go_ret
            exact ⟨reti HE.out.symm, step (step hb1 hb) hbz⟩
      · have HE : Hid (R = 340) := hid (by rw [← HR.out]; unfold chkE goodM; rw [HL.out, decide_eq_false h16, Bool.and_false, Bool.false_and, Bool.false_and, Bool.false_and]; rfl)
        have h16' : 16 < n := by omega
        have q16 : decide ((16 : Int) < (n : Int)) = true := decide_eq_true (by omega)
        clear hsz h16
        go_upto_region 9 with (fail)
        refine wp_region_mix (fun w' => ∃ z : Ext wr, w' = z.v) 23 [(0, false), (1, false), (2, false), (3, false), (4, false), (5, false), (8, false), (9, false), (10, false), (6, true), (7, true), (11, false), (12, false), (13, false), (14, false), (15, false), (16, false), (17, false), (18, false), (19, false), (20, false), (21, false), (22, false)] (by kernel_rfl) (by kernel_rfl) ⟨⟨_, (Below.refl _ _).drew⟩, rfl⟩ ?_
        repeat (refine wpMix_q rfl rfl ?_; go_big_quiet_step (fail); refine wpQuiet_nil ?_)
        refine wpMix_h rfl fun R' hR' hO => ?_
        go_wp2
        refine hR' _ _ ⟨⟨_, (Below.refl _ _).drew⟩, rfl⟩ ?_
        refine wpMix_h rfl fun R' hR' hO => ?_
        go_wp2
        refine hR' _ _ ⟨⟨_, (Below.refl _ _).drew⟩, rfl⟩ ?_
        repeat (refine wpMix_q rfl rfl ?_; go_big_quiet_step (fail); refine wpQuiet_nil ?_)
        refine wpMix_done ?_
        simp only [List.drop_succ_cons, List.drop_zero]
        go_wp2
        go_ret
        exact ⟨reti HE.out.symm, (step hb1 hb).drew⟩
end Go.Proofs.Ytbfhppafffhlkaa
