/- Lists linked both ways: the phases (printed by gen_dbl10.py). -/
import Derived.Test.YtoihjmdpbbcbjaaDbl9
namespace Go.Proofs.Ytoihjmdpbbcbjaa
open Go.RowKit
open Go.Proofs
set_option linter.unusedVariables false
attribute [local go_sem] Oper.semAt_some

theorem ekey_any {B : Nat} {fr : Bool} (E : Nat) (s : Ed) (lost : Bool) (M : Mem) (V : World) (h : EdL B fr E s lost M V) (hB : B ≤ V.heap.size) (hok : okM M = true) (hs : s.Ok) :
    Calls Try.prog 68 #[.pointer (some ⟨E, 0, none⟩)] V (GivesD B E V s (!(stepM M true ((posN s.pl 0 : Nat) : Int) s.key).2.2) (stepM M true ((posN s.pl 0 : Nat) : Int) s.key).1) := by
  obtain ⟨z, hz⟩ := h.cls
  have q := z.c4
  rw [← hz] at q
  have HS := hid (estore_any E s lost M 0 s.key V h hB hok hs.pl (by decide))
  unfold GivesD at HS ⊢
  clear h hok hz z hs
  go_enter Try.func68, Try.ntmps68
  go_wp2_with fail
  refine HS.out.mono ?_
  rintro e W ⟨rfl, h1, h2⟩
  go_wp2
  go_end0
  exact ⟨rfl, h1, h2⟩
theorem evalue_any {B : Nat} {fr : Bool} (E : Nat) (s : Ed) (lost : Bool) (M : Mem) (V : World) (h : EdL B fr E s lost M V) (hB : B ≤ V.heap.size) (hok : okM M = true) (hs : s.Ok) :
    Calls Try.prog 69 #[.pointer (some ⟨E, 0, none⟩)] V (GivesD B E V s (!(stepM M true ((posN s.pl 1 : Nat) : Int) s.val).2.2) (stepM M true ((posN s.pl 1 : Nat) : Int) s.val).1) := by
  obtain ⟨z, hz⟩ := h.cls
  have q := z.c5
  rw [← hz] at q
  have HS := hid (estore_any E s lost M 1 s.val V h hB hok hs.pl (by decide))
  unfold GivesD at HS ⊢
  clear h hok hz z hs
  go_enter Try.func69, Try.ntmps69
  go_wp2_with fail
  refine HS.out.mono ?_
  rintro e W ⟨rfl, h1, h2⟩
  go_wp2
  go_end0
  exact ⟨rfl, h1, h2⟩
theorem enext_any {B : Nat} {fr : Bool} (E : Nat) (s : Ed) (lost : Bool) (M : Mem) (V : World) (h : EdL B fr E s lost M V) (hB : B ≤ V.heap.size) (hok : okM M = true) (hs : s.Ok) :
    Calls Try.prog 71 #[.pointer (some ⟨E, 0, none⟩)] V (GivesD B E V s (!(stepM M true ((posN s.pl 2 : Nat) : Int) s.next).2.2) (stepM M true ((posN s.pl 2 : Nat) : Int) s.next).1) := by
  obtain ⟨z, hz⟩ := h.cls
  have q := z.c7
  rw [← hz] at q
  have HS := hid (estore_any E s lost M 2 s.next V h hB hok hs.pl (by decide))
  unfold GivesD at HS ⊢
  clear h hok hz z hs
  go_enter Try.func71, Try.ntmps71
  go_wp2_with fail
  refine HS.out.mono ?_
  rintro e W ⟨rfl, h1, h2⟩
  go_wp2
  go_end0
  exact ⟨rfl, h1, h2⟩
theorem eprev_any {B : Nat} {fr : Bool} (E : Nat) (s : Ed) (lost : Bool) (M : Mem) (V : World) (h : EdL B fr E s lost M V) (hB : B ≤ V.heap.size) (hok : okM M = true) (hs : s.Ok) :
    Calls Try.prog 72 #[.pointer (some ⟨E, 0, none⟩)] V (GivesD B E V s (!(stepM M true ((posN s.pl 3 : Nat) : Int) s.prev).2.2) (stepM M true ((posN s.pl 3 : Nat) : Int) s.prev).1) := by
  obtain ⟨z, hz⟩ := h.cls
  have q := z.c6
  rw [← hz] at q
  have HS := hid (estore_any E s lost M 3 s.prev V h hB hok hs.pl (by decide))
  unfold GivesD at HS ⊢
  clear h hok hz z hs
  go_enter Try.func72, Try.ntmps72
  go_wp2_with fail
  refine HS.out.mono ?_
  rintro e W ⟨rfl, h1, h2⟩
  go_wp2
  go_end0
  exact ⟨rfl, h1, h2⟩
theorem elink_any {B : Nat} {fr : Bool} (E : Nat) (s : Ed) (lost : Bool) (M : Mem) (V : World) (h : EdL B fr E s lost M V) (hB : B ≤ V.heap.size) (hok : okM M = true) (hs : s.Ok) :
    Calls Try.prog 75 #[.pointer (some ⟨E, 0, none⟩)] V (GivesD B E V s (!(stepM M true ((fromN s : Nat) : Int) (if s.cuts = true then s.next else s.pl)).2.2) (stepM M true ((fromN s : Nat) : Int) (if s.cuts = true then s.next else s.pl)).1) := by
  obtain ⟨z, hz⟩ := h.cls
  have q1 := z.c1
  have q3 := z.c3
  have q7 := z.c7
  rw [← hz] at q1 q3 q7
  have HA := hid (eahead_any E s V h.cls hs)
  have hle := fromN_le s
  have HD := hid (fun new => edoes_any E s lost M true 2 ((fromN s : Nat) : Int) new V h hB hok (by omega) rfl)
  unfold GivesD
  obtain ⟨c, hc⟩ : ∃ c, s.cuts = c := ⟨_, rfl⟩
  rw [hc] at q1 ⊢
  obtain ⟨P, hP⟩ : ∃ P, fromN s = P := ⟨_, rfl⟩
  rw [hP] at HA HD ⊢
  clear h hok hz z hs hc hle hP
  cases c
  case' true => rw [if_pos rfl]
  case' false => rw [if_neg (by decide)]
  all_goals
    go_enter Try.func75, Try.ntmps75
    go_wp2_with fail
    refine HA.out.mono ?_
    rintro e W ⟨rfl, hw⟩
    subst hw
    go_wp2_with fail
    refine (HD.out _).mono ?_
    rintro e W ⟨rfl, h1, h2⟩
    go_wp2
    go_end0
    exact ⟨rfl, h1, h2⟩
theorem eturn_any {B : Nat} {fr : Bool} (E : Nat) (s : Ed) (lost : Bool) (M : Mem) (V : World) (h : EdL B fr E s lost M V) (hB : B ≤ V.heap.size) (hok : okM M = true) (hs : s.Ok) :
    Calls Try.prog 76 #[.pointer (some ⟨E, 0, none⟩)] V (GivesD B E V s (!(stepM M true ((backN s : Nat) : Int) (if s.cuts = true then s.prev else s.pl)).2.2) (stepM M true ((backN s : Nat) : Int) (if s.cuts = true then s.prev else s.pl)).1) := by
  obtain ⟨z, hz⟩ := h.cls
  have q1 := z.c1
  have q3 := z.c3
  have q7 := z.c6
  rw [← hz] at q1 q3 q7
  have HA := hid (ebehind_any E s V h.cls hs)
  have hle := backN_le s
  have HD := hid (fun new => edoes_any E s lost M true 2 ((backN s : Nat) : Int) new V h hB hok (by omega) rfl)
  unfold GivesD
  obtain ⟨c, hc⟩ : ∃ c, s.cuts = c := ⟨_, rfl⟩
  rw [hc] at q1 ⊢
  obtain ⟨P, hP⟩ : ∃ P, backN s = P := ⟨_, rfl⟩
  rw [hP] at HA HD ⊢
  clear h hok hz z hs hc hle hP
  cases c
  case' true => rw [if_pos rfl]
  case' false => rw [if_neg (by decide)]
  all_goals
    go_enter Try.func76, Try.ntmps76
    go_wp2_with fail
    refine HA.out.mono ?_
    rintro e W ⟨rfl, hw⟩
    subst hw
    go_wp2_with fail
    refine (HD.out _).mono ?_
    rintro e W ⟨rfl, h1, h2⟩
    go_wp2
    go_end0
    exact ⟨rfl, h1, h2⟩
set_option maxRecDepth 100000 in
set_option maxHeartbeats 2000000 in
theorem eseek_any {B : Nat} {fr : Bool} (E : Nat) (s : Ed) (lost : Bool) (M : Mem) (V : World) (h : EdL B fr E s lost M V) (hB : B ≤ V.heap.size) (hok : okM M = true) (hs : s.Ok) :
    Calls Try.prog 70 #[.pointer (some ⟨E, 0, none⟩)] V (GivesD B E V { s with next := if (stepM M false ((fromN s : Nat) : Int) 0).2.2 = true then (stepM M false ((fromN s : Nat) : Int) 0).2.1 else s.next } (!(stepM M false ((fromN s : Nat) : Int) 0).2.2) (stepM M false ((fromN s : Nat) : Int) 0).1) := by
  have hdr := (h.grow (Below.refl _ _).drew).cls
  haveI : Nonempty (RSd E s) := hdr.elim fun z _ => ⟨z⟩
  obtain ⟨D, hD⟩ : ∃ D, V.drew = D := ⟨_, rfl⟩
  rw [hD] at hdr
  have HD := hid hD
  have q3 : ∀ z : RSd E s, z.w.cell? ⟨E, 3, none⟩ = some (.int .u64 ((s.pl : Nat) : Int)) := fun z => z.c3
  have q6 : ∀ z : RSd E s, z.w.cell? ⟨E, 6, none⟩ = some (.int .u64 ((s.prev : Nat) : Int)) := fun z => z.c6
  have q7 : ∀ z : RSd E s, z.w.cell? ⟨E, 7, none⟩ = some (.int .u64 ((s.next : Nat) : Int)) := fun z => z.c7
  have HCD := hid hdr
  have HF := hid (eahead_any E s D hdr hs)
  have HLo := hid (eload_any E s lost M (fromN s) s.next D (by rw [← hD]; exact h.grow (Below.refl _ _).drew) (by rw [← hD]; exact hB) hok (by have := fromN_le s; omega))
  have HG := hid (grownBy_below (show Below V.heap.size V D by rw [← hD]; exact (Below.refl _ _).drew) (some E))
  obtain ⟨X, hX⟩ : ∃ X, (if (stepM M false ((fromN s : Nat) : Int) 0).2.2 = true then (stepM M false ((fromN s : Nat) : Int) 0).2.1 else s.next) = X := ⟨_, rfl⟩
  obtain ⟨LO, hLO⟩ : ∃ X, (!(stepM M false ((fromN s : Nat) : Int) 0).2.2) = X := ⟨_, rfl⟩
  obtain ⟨M', hM'⟩ : ∃ X, (stepM M false ((fromN s : Nat) : Int) 0).1 = X := ⟨_, rfl⟩
  rw [hX, hLO, hM'] at HLo
  rw [hX, hLO, hM']
  obtain ⟨A, hA⟩ : ∃ A, fromN s = A := ⟨_, rfl⟩
  rw [hA] at HLo HF
  clear h hok hs hX hLO hM' hD hA
  go_enter Try.func70, Try.ntmps70
  go_wp2_with fail
  refine wp_region_mix2 (fun V => ∃ z : RSd E s, V = z.w) 13 (.q 0 (.q 1 (.q 2 (.q 4 (.q 5 (.q 6 (.q 7 (.q 8 (.h 3 (.h 9 (.q 10 (.q 11 (.q 12 .done))))))))))))) (by kernel_rfl) (by kernel_rfl) (by rw [HD.out]; exact hdr) ?_
  clear hdr
  rw [HD.out]
  repeat (refine wpMix2_q rfl rfl ?_; go_big_quiet_step (fail); refine wpQuiet_nil ?_)
  refine wpMix2_h rfl fun R' hR' hO => ?_
  go_wp2_with fail
  refine HF.out.mono ?_
  rintro e W ⟨rfl, hw⟩
  subst hw
  go_wp2
  refine hR' _ _ HCD.out ?_
  clear hR' hO R'
  refine wpMix2_h rfl fun R' hR' hO => ?_
  go_wp2_with fail
  refine HLo.out.mono ?_
  rintro e W ⟨rfl, h1, h2⟩
  have HC1 := hid h1.cls
  have H1 := hid h1
  have H2 := hid h2
  obtain ⟨z, hz⟩ := HC1.out
  have c7 := z.c7
  have f7 := h1.free (i := 7)
  rw [← hz] at c7
  clear hz z h1 h2
  go_wp2
  refine hR' _ _ HC1.out ?_
  clear hR' hO R'
  repeat (refine wpMix2_q rfl rfl ?_; go_big_quiet_step (fail); refine wpQuiet_nil ?_)
  refine wpMix2_done ?_
  simp only [List.drop_succ_cons, List.drop_zero]
  go_wp2
  go_end0
  exact ⟨rfl, H1.out.put7 X, grownBy_trans (grownBy_trans HG.out H2.out) (grownBy_put _)⟩
set_option maxRecDepth 100000 in
set_option maxHeartbeats 2000000 in
theorem eright_any {B : Nat} {fr : Bool} (E : Nat) (s : Ed) (lost : Bool) (M : Mem) (V : World) (h : EdL B fr E s lost M V) (hB : B ≤ V.heap.size) (hok : okM M = true) (hs : s.Ok) :
    Calls Try.prog 73 #[.pointer (some ⟨E, 0, none⟩)] V (GivesD B E V { s with next := if (stepM M false ((posN s.pl 2 : Nat) : Int) 0).2.2 = true then (stepM M false ((posN s.pl 2 : Nat) : Int) 0).2.1 else s.next } (!(stepM M false ((posN s.pl 2 : Nat) : Int) 0).2.2) (stepM M false ((posN s.pl 2 : Nat) : Int) 0).1) := by
  have hdr := (h.grow (Below.refl _ _).drew).cls
  haveI : Nonempty (RSd E s) := hdr.elim fun z _ => ⟨z⟩
  obtain ⟨D, hD⟩ : ∃ D, V.drew = D := ⟨_, rfl⟩
  rw [hD] at hdr
  have HD := hid hD
  have q3 : ∀ z : RSd E s, z.w.cell? ⟨E, 3, none⟩ = some (.int .u64 ((s.pl : Nat) : Int)) := fun z => z.c3
  have q6 : ∀ z : RSd E s, z.w.cell? ⟨E, 6, none⟩ = some (.int .u64 ((s.prev : Nat) : Int)) := fun z => z.c6
  have q7 : ∀ z : RSd E s, z.w.cell? ⟨E, 7, none⟩ = some (.int .u64 ((s.next : Nat) : Int)) := fun z => z.c7
  have HCD := hid hdr
  have HF := hid (word_any s.pl 2 D hs.pl (by decide))
  have HLo := hid (eload_any E s lost M (posN s.pl 2) s.next D (by rw [← hD]; exact h.grow (Below.refl _ _).drew) (by rw [← hD]; exact hB) hok (by unfold posN; omega))
  have HG := hid (grownBy_below (show Below V.heap.size V D by rw [← hD]; exact (Below.refl _ _).drew) (some E))
  obtain ⟨X, hX⟩ : ∃ X, (if (stepM M false ((posN s.pl 2 : Nat) : Int) 0).2.2 = true then (stepM M false ((posN s.pl 2 : Nat) : Int) 0).2.1 else s.next) = X := ⟨_, rfl⟩
  obtain ⟨LO, hLO⟩ : ∃ X, (!(stepM M false ((posN s.pl 2 : Nat) : Int) 0).2.2) = X := ⟨_, rfl⟩
  obtain ⟨M', hM'⟩ : ∃ X, (stepM M false ((posN s.pl 2 : Nat) : Int) 0).1 = X := ⟨_, rfl⟩
  rw [hX, hLO, hM'] at HLo
  rw [hX, hLO, hM']
  obtain ⟨A, hA⟩ : ∃ A, posN s.pl 2 = A := ⟨_, rfl⟩
  rw [hA] at HLo HF
  clear h hok hs hX hLO hM' hD hA
  go_enter Try.func73, Try.ntmps73
  go_wp2_with fail
  refine wp_region_mix2 (fun V => ∃ z : RSd E s, V = z.w) 18 (.q 0 (.q 1 (.q 2 (.q 3 (.q 4 (.q 5 (.q 6 (.q 7 (.q 9 (.q 10 (.q 11 (.q 12 (.q 13 (.h 8 (.h 14 (.q 15 (.q 16 (.q 17 .done)))))))))))))))))) (by kernel_rfl) (by kernel_rfl) (by rw [HD.out]; exact hdr) ?_
  clear hdr
  rw [HD.out]
  repeat (refine wpMix2_q rfl rfl ?_; go_big_quiet_step (fail); refine wpQuiet_nil ?_)
  refine wpMix2_h rfl fun R' hR' hO => ?_
  go_wp2_with fail
  refine HF.out.mono ?_
  rintro e W ⟨rfl, hw⟩
  subst hw
  go_wp2
  refine hR' _ _ HCD.out ?_
  clear hR' hO R'
  refine wpMix2_h rfl fun R' hR' hO => ?_
  go_wp2_with fail
  refine HLo.out.mono ?_
  rintro e W ⟨rfl, h1, h2⟩
  have HC1 := hid h1.cls
  have H1 := hid h1
  have H2 := hid h2
  obtain ⟨z, hz⟩ := HC1.out
  have c7 := z.c7
  have f7 := h1.free (i := 7)
  rw [← hz] at c7
  clear hz z h1 h2
  go_wp2
  refine hR' _ _ HC1.out ?_
  clear hR' hO R'
  repeat (refine wpMix2_q rfl rfl ?_; go_big_quiet_step (fail); refine wpQuiet_nil ?_)
  refine wpMix2_done ?_
  simp only [List.drop_succ_cons, List.drop_zero]
  go_wp2
  go_end0
  exact ⟨rfl, H1.out.put7 X, grownBy_trans (grownBy_trans HG.out H2.out) (grownBy_put _)⟩
set_option maxRecDepth 100000 in
set_option maxHeartbeats 2000000 in
theorem eleft_any {B : Nat} {fr : Bool} (E : Nat) (s : Ed) (lost : Bool) (M : Mem) (V : World) (h : EdL B fr E s lost M V) (hB : B ≤ V.heap.size) (hok : okM M = true) (hs : s.Ok) :
    Calls Try.prog 74 #[.pointer (some ⟨E, 0, none⟩)] V (GivesD B E V { s with prev := if (stepM M false ((posN s.pl 3 : Nat) : Int) 0).2.2 = true then (stepM M false ((posN s.pl 3 : Nat) : Int) 0).2.1 else s.prev } (!(stepM M false ((posN s.pl 3 : Nat) : Int) 0).2.2) (stepM M false ((posN s.pl 3 : Nat) : Int) 0).1) := by
  have hdr := (h.grow (Below.refl _ _).drew).cls
  haveI : Nonempty (RSd E s) := hdr.elim fun z _ => ⟨z⟩
  obtain ⟨D, hD⟩ : ∃ D, V.drew = D := ⟨_, rfl⟩
  rw [hD] at hdr
  have HD := hid hD
  have q3 : ∀ z : RSd E s, z.w.cell? ⟨E, 3, none⟩ = some (.int .u64 ((s.pl : Nat) : Int)) := fun z => z.c3
  have q6 : ∀ z : RSd E s, z.w.cell? ⟨E, 6, none⟩ = some (.int .u64 ((s.prev : Nat) : Int)) := fun z => z.c6
  have q7 : ∀ z : RSd E s, z.w.cell? ⟨E, 7, none⟩ = some (.int .u64 ((s.next : Nat) : Int)) := fun z => z.c7
  have HCD := hid hdr
  have HF := hid (word_any s.pl 3 D hs.pl (by decide))
  have HLo := hid (eload_any E s lost M (posN s.pl 3) s.prev D (by rw [← hD]; exact h.grow (Below.refl _ _).drew) (by rw [← hD]; exact hB) hok (by unfold posN; omega))
  have HG := hid (grownBy_below (show Below V.heap.size V D by rw [← hD]; exact (Below.refl _ _).drew) (some E))
  obtain ⟨X, hX⟩ : ∃ X, (if (stepM M false ((posN s.pl 3 : Nat) : Int) 0).2.2 = true then (stepM M false ((posN s.pl 3 : Nat) : Int) 0).2.1 else s.prev) = X := ⟨_, rfl⟩
  obtain ⟨LO, hLO⟩ : ∃ X, (!(stepM M false ((posN s.pl 3 : Nat) : Int) 0).2.2) = X := ⟨_, rfl⟩
  obtain ⟨M', hM'⟩ : ∃ X, (stepM M false ((posN s.pl 3 : Nat) : Int) 0).1 = X := ⟨_, rfl⟩
  rw [hX, hLO, hM'] at HLo
  rw [hX, hLO, hM']
  obtain ⟨A, hA⟩ : ∃ A, posN s.pl 3 = A := ⟨_, rfl⟩
  rw [hA] at HLo HF
  clear h hok hs hX hLO hM' hD hA
  go_enter Try.func74, Try.ntmps74
  go_wp2_with fail
  refine wp_region_mix2 (fun V => ∃ z : RSd E s, V = z.w) 18 (.q 0 (.q 1 (.q 2 (.q 3 (.q 4 (.q 5 (.q 6 (.q 7 (.q 9 (.q 10 (.q 11 (.q 12 (.q 13 (.h 8 (.h 14 (.q 15 (.q 16 (.q 17 .done)))))))))))))))))) (by kernel_rfl) (by kernel_rfl) (by rw [HD.out]; exact hdr) ?_
  clear hdr
  rw [HD.out]
  repeat (refine wpMix2_q rfl rfl ?_; go_big_quiet_step (fail); refine wpQuiet_nil ?_)
  refine wpMix2_h rfl fun R' hR' hO => ?_
  go_wp2_with fail
  refine HF.out.mono ?_
  rintro e W ⟨rfl, hw⟩
  subst hw
  go_wp2
  refine hR' _ _ HCD.out ?_
  clear hR' hO R'
  refine wpMix2_h rfl fun R' hR' hO => ?_
  go_wp2_with fail
  refine HLo.out.mono ?_
  rintro e W ⟨rfl, h1, h2⟩
  have HC1 := hid h1.cls
  have H1 := hid h1
  have H2 := hid h2
  obtain ⟨z, hz⟩ := HC1.out
  have c7 := z.c6
  have f7 := h1.free (i := 6)
  rw [← hz] at c7
  clear hz z h1 h2
  go_wp2
  refine hR' _ _ HC1.out ?_
  clear hR' hO R'
  repeat (refine wpMix2_q rfl rfl ?_; go_big_quiet_step (fail); refine wpQuiet_nil ?_)
  refine wpMix2_done ?_
  simp only [List.drop_succ_cons, List.drop_zero]
  go_wp2
  go_end0
  exact ⟨rfl, H1.out.put6 X, grownBy_trans (grownBy_trans HG.out H2.out) (grownBy_put _)⟩
end Go.Proofs.Ytoihjmdpbbcbjaa
