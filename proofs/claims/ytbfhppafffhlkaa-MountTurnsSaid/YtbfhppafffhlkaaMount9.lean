/- The functions of package mount: the walk of Add. -/
import Derived.Test.YtbfhppafffhlkaaMount8
import Derived.Deep.DeepCutAuto
import Derived.Deep.CutBlock
namespace Go.Proofs.Ytbfhppafffhlkaa
open Go.RowKit
open Go.Proofs
set_option linter.unusedVariables false

set_option maxRecDepth 100000 in
set_option maxHeartbeats 2000000 in
theorem mAdd_any (ms : List (Nat × Nat)) (a : Option Addr) (n cap nx x : Nat) (w : World) (hl : ms.length = n) (hok : mok ms) (hn : n ≤ 1000) (hnx : nx < 18446744073709551616) (hx : x < 18446744073709551616) (h : Leads w a n cap (mcells ms)) :
    Calls Try.prog 13 #[.agg #[.slice a n cap, .int .u64 (nx : Nat)], .int .u64 (x : Nat)] w (AddP ms nx x w) := by
  obtain ⟨B, hB⟩ : ∃ B, w.heap.size = B := ⟨_, rfl⟩
  obtain ⟨w1, hw1, hb1, hs1, hl1⟩ := laid w #[.slice a n cap, .int .u64 ((nx : Nat) : Int)] 25
  obtain ⟨w2, hw2, hb2, hs2, hl2⟩ := laid w1 #[.slice none 0 0, .int .u64 0] 25
  have hb02 := step hb1 hb2
  rw [hB] at hs1 hl1
  rw [hs1] at hs2 hl2
  have L1 := keep_laid hl1 hb2
  have HL1 := hid L1
  have HL2 := hid hl2
  have hc0 : w2.cell? ⟨B, 0, none⟩ = some (.slice a n cap) := cell_laid L1 rfl
  have hc1 : w2.cell? ⟨B, 1, none⟩ = some (.int .u64 ((nx : Nat) : Int)) := cell_laid L1 rfl
  have hC := mchk_any ms a n cap nx x w2 hl hok hn hnx hx (h.grow hb02)
  have hsz2 : B + 2 ≤ w2.heap.size := by omega
  have hwB : w.heap.size ≤ B := by omega
  clear hl1 hl2 L1 hs2
  by_cases h0 : chk2E ms nx x = 0
  · rw [h0] at hC
    have HC := hid hC
    have HB := hid fun W (hW : Below w2.heap.size w2 W) => byPath_any ms a n cap ((nx : Nat) : Int) W hl hok hn (h.grow (step hb02 hW))
    have H := hid h
    have HL := hid hl
    have hnc := h.len.1
    cases hh : hasM ms x with
    | true =>
      have HE : Hid (addE ms nx x = 5) := hid (by unfold addE; rw [if_pos h0, hh, if_pos rfl])
      have HH := hid hh
      clear hC hl hok h h0 hh
      go_enter Try.func13, Try.ntmps13
      go_wp2_with fail
      refine HC.out.mono ?_
      rintro e w5 ⟨rfl, hb5⟩
      have k0 : w5.cell? ⟨B, 0, none⟩ = some (.slice a n cap) := cell_laid (keep_laid HL1.out hb5) rfl
      have k1 : w5.cell? ⟨B, 1, none⟩ = some (.int .u64 ((nx : Nat) : Int)) := cell_laid (keep_laid HL1.out hb5) rfl
      go_wp2_with fail
      refine (HB.out _ hb5).mono ?_
      rintro e w7 ⟨b, rfl, hbb, hI, hb7⟩
      have hb27 := step hb5 hb7
      have m0 : w7.cell? ⟨B, 0, none⟩ = some (.slice a n cap) := cell_laid (keep_laid HL1.out hb27) rfl
      have m1 : w7.cell? ⟨B, 1, none⟩ = some (.int .u64 ((nx : Nat) : Int)) := cell_laid (keep_laid HL1.out hb27) rfl
      have k3 := keep_laid HL2.out hb27
      have hf0 := free_laid (i := 0) k3
      have hf1 := free_laid (i := 1) k3
      have hd0 := cell_laid (i := 0) k3 rfl
      have hd1 := cell_laid (i := 1) k3 rfl
      have HEND := hid (set_laid (i := 1) (set_laid (i := 0) k3 (.slice none 0 0)) (.int .u64 0))
      have HBF := hid (((step hb02 hb27).setCell (p := ⟨B + 1, 0, none⟩) (by show w.heap.size ≤ B + 1; omega) (.slice none 0 0)).setCell (p := ⟨B + 1, 1, none⟩) (by show w.heap.size ≤ B + 1; omega) (.int .u64 0))
      clear k3
      go_wp2_with (at_lookup; refine wp_look rfl _ _ 66 rfl Try.underlying66 b x ms rfl hI rfl hx ?_; rw [HH.out])
      refine bodyPost_ret (add_result HEND.out rfl rfl rfl) rfl (addP_no HE.out (by decide) HBF.out)
    | false =>
      have HH := hid hh
      by_cases hf : n = 16 ∨ 1073741824 < nx
      · have HE : Hid (addE ms nx x = 6) := hid (by unfold addE; rw [if_pos h0, hh, if_neg (by simp), if_pos (by rw [hl]; exact hf)])
        by_cases h16 : n = 16
        · subst h16
          clear hC hl hok h h0 hh hf
          go_enter Try.func13, Try.ntmps13
          go_wp2_with fail
          refine HC.out.mono ?_
          rintro e w5 ⟨rfl, hb5⟩
          have k0 : w5.cell? ⟨B, 0, none⟩ = some (.slice a 16 cap) := cell_laid (keep_laid HL1.out hb5) rfl
          have k1 : w5.cell? ⟨B, 1, none⟩ = some (.int .u64 ((nx : Nat) : Int)) := cell_laid (keep_laid HL1.out hb5) rfl
          go_wp2_with fail
          refine (HB.out _ hb5).mono ?_
          rintro e w7 ⟨b, rfl, hbb, hI, hb7⟩
          have hb27 := step hb5 hb7
          have m0 : w7.cell? ⟨B, 0, none⟩ = some (.slice a 16 cap) := cell_laid (keep_laid HL1.out hb27) rfl
          have m1 : w7.cell? ⟨B, 1, none⟩ = some (.int .u64 ((nx : Nat) : Int)) := cell_laid (keep_laid HL1.out hb27) rfl
          have k3 := keep_laid HL2.out hb27
          have hf0 := free_laid (i := 0) k3
          have hf1 := free_laid (i := 1) k3
          have hd0 := cell_laid (i := 0) k3 rfl
          have hd1 := cell_laid (i := 1) k3 rfl
          have HEND := hid (set_laid (i := 1) (set_laid (i := 0) k3 (.slice none 0 0)) (.int .u64 0))
          have HBF := hid (((step hb02 hb27).setCell (p := ⟨B + 1, 0, none⟩) (by show w.heap.size ≤ B + 1; omega) (.slice none 0 0)).setCell (p := ⟨B + 1, 1, none⟩) (by show w.heap.size ≤ B + 1; omega) (.int .u64 0))
          clear k3
          go_wp2_with (at_lookup; refine wp_look rfl _ _ 66 rfl Try.underlying66 b x ms rfl hI rfl hx ?_; rw [HH.out])
          refine bodyPost_ret (add_result HEND.out rfl rfl rfl) rfl (addP_no HE.out (by decide) HBF.out)
        · have q1 : (((n : Nat) : Int) == 16) = false := by simp; omega
          have q2 : decide ((1073741824 : Int) < ((nx : Nat) : Int)) = true := decide_eq_true (by rcases hf with h | h; exact absurd h h16; omega)
          clear hC hl hok h h0 hh hf h16
          go_enter Try.func13, Try.ntmps13
          go_wp2_with fail
          refine HC.out.mono ?_
          rintro e w5 ⟨rfl, hb5⟩
          have k0 : w5.cell? ⟨B, 0, none⟩ = some (.slice a n cap) := cell_laid (keep_laid HL1.out hb5) rfl
          have k1 : w5.cell? ⟨B, 1, none⟩ = some (.int .u64 ((nx : Nat) : Int)) := cell_laid (keep_laid HL1.out hb5) rfl
          go_wp2_with fail
          refine (HB.out _ hb5).mono ?_
          rintro e w7 ⟨b, rfl, hbb, hI, hb7⟩
          have hb27 := step hb5 hb7
          have m0 : w7.cell? ⟨B, 0, none⟩ = some (.slice a n cap) := cell_laid (keep_laid HL1.out hb27) rfl
          have m1 : w7.cell? ⟨B, 1, none⟩ = some (.int .u64 ((nx : Nat) : Int)) := cell_laid (keep_laid HL1.out hb27) rfl
          have k3 := keep_laid HL2.out hb27
          have hf0 := free_laid (i := 0) k3
          have hf1 := free_laid (i := 1) k3
          have hd0 := cell_laid (i := 0) k3 rfl
          have hd1 := cell_laid (i := 1) k3 rfl
          have HEND := hid (set_laid (i := 1) (set_laid (i := 0) k3 (.slice none 0 0)) (.int .u64 0))
          have HBF := hid (((step hb02 hb27).setCell (p := ⟨B + 1, 0, none⟩) (by show w.heap.size ≤ B + 1; omega) (.slice none 0 0)).setCell (p := ⟨B + 1, 1, none⟩) (by show w.heap.size ≤ B + 1; omega) (.int .u64 0))
          clear k3
          go_wp2_with (at_lookup; refine wp_look rfl _ _ 66 rfl Try.underlying66 b x ms rfl hI rfl hx ?_; rw [HH.out])
          refine bodyPost_ret (add_result HEND.out rfl rfl rfl) rfl (addP_no HE.out (by decide) HBF.out)
      · have HE : Hid (addE ms nx x = 0) := hid (by unfold addE; rw [if_pos h0, hh, if_neg (by simp), if_neg (by rw [hl]; exact hf)])
        have q1 : (((n : Nat) : Int) == 16) = false := by simp; omega
        have q2 : decide ((1073741824 : Int) < ((nx : Nat) : Int)) = false := decide_eq_false (by omega)
        have hnx2 : nx ≤ 1073741824 := by omega
        clear hC hl hok h h0 hh hf
        go_enter Try.func13, Try.ntmps13
        go_wp2_with fail
        refine HC.out.mono ?_
        rintro e w5 ⟨rfl, hb5⟩
        have k0 : w5.cell? ⟨B, 0, none⟩ = some (.slice a n cap) := cell_laid (keep_laid HL1.out hb5) rfl
        have k1 : w5.cell? ⟨B, 1, none⟩ = some (.int .u64 ((nx : Nat) : Int)) := cell_laid (keep_laid HL1.out hb5) rfl
        go_wp2_with fail
        refine (HB.out _ hb5).mono ?_
        rintro e w7 ⟨b, rfl, hbb, hI, hb7⟩
        have hb27 := step hb5 hb7
        have m0 : w7.cell? ⟨B, 0, none⟩ = some (.slice a n cap) := cell_laid (keep_laid HL1.out hb27) rfl
        have m1 : w7.cell? ⟨B, 1, none⟩ = some (.int .u64 ((nx : Nat) : Int)) := cell_laid (keep_laid HL1.out hb27) rfl
        obtain ⟨w8, hw8⟩ : ∃ w8, w7.alloc (.cells (madeCells #[.int .u64 0, .int .u64 0] ((n + 1) * 2)) 51) = w8 := ⟨_, rfl⟩
        have hmk := make_mounts w7 n hn
        rw [hw8] at hmk
        obtain ⟨w9, hcp, hown, hb79⟩ := copy_mounts ms a n cap w7 w8 3 HL.out hn (H.out.grow (step hb02 hb27)) hw8
        have hb78 : Below w7.heap.size w7 w8 := by rw [← hw8]; exact (Below.refl _ _).alloc (Nat.le_refl _) _
        have p0 : w8.cell? ⟨B, 0, none⟩ = some (.slice a n cap) := cell_laid (keep_laid HL1.out (step hb27 hb78)) rfl
        have p1 : w8.cell? ⟨B, 1, none⟩ = some (.int .u64 ((nx : Nat) : Int)) := cell_laid (keep_laid HL1.out (step hb27 hb78)) rfl
        have HO := hid hown
        have hb29 := step hb27 hb79
        have hb07 := step hb02 hb27
        have hw7 := hb07.size
        have hw72 := hb27.size
        clear hown hw8
        go_upto_region 11 with (at_lookup; refine wp_look rfl _ _ 66 rfl Try.underlying66 b x ms rfl hI rfl hx ?_; rw [HH.out])
        have hnon : Nonempty (Boxed B B (.slice a n cap) (.int .u64 ((nx : Nat) : Int)) (.slice a n cap)) := ⟨⟨w9, cell_laid (keep_laid HL1.out hb29) rfl, cell_laid (keep_laid HL1.out hb29) rfl, cell_laid (keep_laid HL1.out hb29) rfl⟩⟩
        have f0 : ∀ z : Boxed B B (.slice a n cap) (.int .u64 ((nx : Nat) : Int)) (.slice a n cap), z.v.cell? ⟨B, 0, none⟩ = some (.slice a n cap) := fun z => z.h0
        have f1 : ∀ z : Boxed B B (.slice a n cap) (.int .u64 ((nx : Nat) : Int)) (.slice a n cap), z.v.cell? ⟨B, 1, none⟩ = some (.int .u64 ((nx : Nat) : Int)) := fun z => z.h1
        have HX4 : Hid (∀ V : World, V.heap[B]? = some (.cells #[.slice a n cap, .int .u64 ((nx : Nat) : Int)] 25 (0, 0)) → ∃ z : Boxed B B (.slice a n cap) (.int .u64 ((nx : Nat) : Int)) (.slice a n cap), V = z.v) := hid fun V h1 => ⟨⟨V, cell_laid h1 rfl, cell_laid h1 rfl, cell_laid h1 rfl⟩, rfl⟩
        obtain ⟨w10, hw10, hb10, hs10, hl10⟩ := laid w9.drew #[.int .u64 ((x : Nat) : Int), .int .u64 ((nx : Nat) : Int)] 51
        have hb910 : Below w9.heap.size w9 w10 := (Below.refl _ _).drew.trans hb10
        have HL10 := hid hl10
        have hb210 := step hb29 hb910
        clear hl10 hs10
        refine wp_region_mix (fun w' => ∃ z : Boxed B B (.slice a n cap) (.int .u64 ((nx : Nat) : Int)) (.slice a n cap), w' = z.v) 16 [(0, false), (1, false), (2, false), (3, false), (4, false), (7, false), (8, false), (9, false), (11, false), (12, false), (5, true), (6, true), (10, false), (13, true), (14, false), (15, false)] (by kernel_rfl) (by kernel_rfl) (HX4.out _ (keep_laid HL1.out hb29.drew)) ?_
        repeat (refine wpMix_q rfl rfl ?_; go_big_quiet_step (fail); refine wpQuiet_nil ?_)
        refine wpMix_h rfl fun R' hR' hO => ?_
        go_wp2
        refine hR' _ _ (HX4.out _ (keep_laid HL1.out hb210)) ?_
        refine wpMix_h rfl fun R' hR' hO => ?_
        have hw710 : w7.heap.size ≤ w10.heap.size := by have := hb79.size; have := hb910.size; omega
        refine wp_append1 elemMounts rfl (.tmp 51) (.tmp 56) rfl w7.heap.size (.slice (some ⟨w7.heap.size, 0, none⟩) n (n + 1)) n (mcells ms) rfl (own_grow HO.out hb910) w9.drew.heap.size [.int .u64 ((x : Nat) : Int), .int .u64 ((nx : Nat) : Int)] rfl rfl ?c1 ?c2 ?c3 hw710 ?c5
        case c1 =>
          intro j u hj
          exact cell_laid HL10.out (by simpa using hj)
        case c2 => intro u hu; simp at hu; rcases hu with rfl | rfl <;> rfl
        case c3 => omega
        case c5 =>
          intro v' w11 hown' hb11 hs11
          obtain ⟨a', c', rfl, -⟩ := Leads.of_own hown'
          have HO' := hid hown'
          have hb211 : Below w2.heap.size w2 w11 := hb210.trans (hb11.mono hw72)
          have k3 := keep_laid HL2.out hb211
          have hf0 := free_laid (i := 0) k3
          have hf1 := free_laid (i := 1) k3
          have hd0 := cell_laid (i := 0) k3 rfl
          have hd1 := cell_laid (i := 1) k3 rfl
          have K3 := hid k3
          clear hown' k3
          go_wp2
          refine hR' _ _ (HX4.out _ (keep_laid HL1.out hb211)) ?_
          repeat (refine wpMix_q rfl rfl ?_; go_big_quiet_step (fail); refine wpQuiet_nil ?_)
          refine wpMix_h rfl fun R' hR' hO => ?_
          go_wp2
          refine hR' _ _ (HX4.out _ (other_laid (other_laid (keep_laid HL1.out hb211) (by omega) _) (by omega) _)) ?_
          repeat (refine wpMix_q rfl rfl ?_; go_big_quiet_step (fail); refine wpQuiet_nil ?_)
          refine wpMix_done ?_
          simp only [List.drop_succ_cons, List.drop_zero]
          go_wp2
          refine bodyPost_ret (add_result (set_laid (i := 1) (set_laid (i := 0) K3.out _) _) rfl rfl rfl) rfl ?_
          refine ⟨.slice a' (n + 1) c', ?_, ((step hb02 hb211).setCell (p := ⟨B + 1, 0, none⟩) (by show w.heap.size ≤ B + 1; omega) _).setCell (p := ⟨B + 1, 1, none⟩) (by show w.heap.size ≤ B + 1; omega) _⟩
          rw [if_pos HE.out, HL.out]
          refine ⟨by go_num, ?_⟩
          have := own_base (ownsRow_setCell_below (a := ⟨B + 1, 1, none⟩) (ownsRow_setCell_below (a := ⟨B + 1, 0, none⟩) HO'.out (by show B + 1 < _; omega) (.slice a' (n + 1) c')) (by show B + 1 < _; omega) (.int .u64 ((nx : Int) + 1))) hw7
          unfold mcells at *
          rw [List.flatMap_append]
          exact this
  · have HE : Hid (addE ms nx x = chk2E ms nx x) := hid (by unfold addE; rw [if_neg h0])
    have HC := hid hC
    obtain ⟨E, hE⟩ : ∃ E, chk2E ms nx x = E := ⟨_, rfl⟩
    rw [hE] at HC h0 HE
    have HN0 := hid h0
    have q : (E == 0) = false := by simpa using h0
    clear hC hl hok h h0 hE
    go_enter Try.func13, Try.ntmps13
    go_wp2_with fail
    refine HC.out.mono ?_
    rintro e w5 ⟨rfl, hb5⟩
    have k3 := keep_laid HL2.out hb5
    have hf0 := free_laid (i := 0) k3
    have hf1 := free_laid (i := 1) k3
    have hd0 := cell_laid (i := 0) k3 rfl
    have hd1 := cell_laid (i := 1) k3 rfl
    have HEND := hid (set_laid (i := 1) (set_laid (i := 0) k3 (.slice none 0 0)) (.int .u64 0))
    have HBF := hid (((step hb02 hb5).setCell (p := ⟨B + 1, 0, none⟩) (by show w.heap.size ≤ B + 1; omega) (.slice none 0 0)).setCell (p := ⟨B + 1, 1, none⟩) (by show w.heap.size ≤ B + 1; omega) (.int .u64 0))
    clear k3
    go_wp2
    refine bodyPost_ret (add_result HEND.out rfl rfl rfl) rfl (addP_no HE.out HN0.out HBF.out)
end Go.Proofs.Ytbfhppafffhlkaa
