/- The functions of package mount: Drop. -/
import Derived.Test.YtbfhppafffhlkaaMount6
namespace Go.Proofs.Ytbfhppafffhlkaa
open Go.RowKit Go.Shelf
open Go.Proofs
set_option linter.unusedVariables false
attribute [local go_sem] Oper.semAt_some

def dropE (ms : List (Nat × Nat)) (nx x : Nat) : Int := if chk2E ms nx x = 0 then (if hasM ms x then (if belowM ms x = [] then 0 else 341) else 4) else chk2E ms nx x
/-- What Drop gives. -/
def DropP (ms : List (Nat × Nat)) (nx x : Nat) (w : World) (e : Ending) (w' : World) : Prop :=
  ∃ v, (if dropE ms nx x = 0 then e = .returned (.tuple #[.agg #[v, .int .u64 ((nx : Nat) : Int)], .int .i64 0]) ∧ w'.ownsRow w.heap.size 51 2 v (keptM ms x).length (mcells (keptM ms x)) else e = .returned (.tuple #[.agg #[.slice none 0 0, .int .u64 0], .int .i64 (dropE ms nx x)])) ∧ Below w.heap.size w w'
theorem dropP_no {ms : List (Nat × Nat)} {nx x : Nat} {w w' : World} {E : Int} (h : dropE ms nx x = E) (hE : E ≠ 0) (hb : Below w.heap.size w w') : DropP ms nx x w (.returned (.tuple #[.agg #[.slice none 0 0, .int .u64 0], .int .i64 E])) w' := by
  refine ⟨.slice none 0 0, ?_, hb⟩
  rw [h, if_neg hE]
theorem drop_result {W : World} {b b' : Nat} {v0 v1 : Value} {E : Int} {tmps : Array Value} (h : W.heap[b]? = some (.cells #[v0, v1] 25 (0, 0))) (h' : W.heap[b']? = some (.cells #[.int .i64 E] 32 (0, 0))) (hp : tmps[4]?.getD undef = .pointer (some ⟨b, 0, none⟩)) (hq : tmps[5]?.getD undef = .pointer (some ⟨b', 0, none⟩)) :
    (results Try.f11 tmps).run Try.prog W = .ok (.tuple #[.agg #[v0, v1], .int .i64 E]) W := by
  have h0 := cell_laid (i := 0) (v := v0) h rfl
  have h1 := cell_laid (i := 1) (v := v1) h rfl
  have h2 := cell_laid (i := 0) (v := .int .i64 E) h' rfl
  simp [results, Try.results11, go_sem, hp, hq, h0, h1, h2]
theorem drop_end {W : World} {b b' : Nat} {u0 u1 u2 : Value} {T T' : TypeId} (h : W.heap[b]? = some (.cells #[u0, u1] T (0, 0))) (h' : W.heap[b']? = some (.cells #[u2] T' (0, 0))) (hne : b ≠ b') (v0 v1 v2 : Value) :
    (((W.setCell ⟨b, 0, none⟩ v0).setCell ⟨b, 1, none⟩ v1).setCell ⟨b', 0, none⟩ v2).heap[b]? = some (.cells #[v0, v1] T (0, 0)) ∧ (((W.setCell ⟨b, 0, none⟩ v0).setCell ⟨b, 1, none⟩ v1).setCell ⟨b', 0, none⟩ v2).heap[b']? = some (.cells #[v2] T' (0, 0)) :=
  ⟨other_laid (set_laid (set_laid h v0) v1) hne v2, set_laid (other_laid (other_laid h' hne.symm v0) hne.symm v1) v2⟩
/-- What the loop of Drop keeps. -/
def DropI (B : Nat) (a : Option Addr) (n cap nx x : Nat) (w : World) (base : Nat) (W : World) : Prop :=
  W.heap[B]? = some (.cells #[.slice a n cap, .int .u64 ((nx : Nat) : Int)] 25 (0, 0)) ∧ W.heap[B + 1]? = some (.cells #[.int .u64 ((x : Nat) : Int)] 23 (0, 0)) ∧
  W.heap[B + 1 + 1]? = some (.cells #[.slice none 0 0, .int .u64 0] 25 (0, 0)) ∧ W.heap[B + 1 + 1 + 1]? = some (.cells #[.int .i64 0] 32 (0, 0)) ∧ Below w.heap.size w W ∧ base ≤ W.heap.size
def DropX (B : Nat) (w : World) (base : Nat) (W : World) : Prop :=
  W.heap[B + 1 + 1]? = some (.cells #[.slice none 0 0, .int .u64 0] 25 (0, 0)) ∧ W.heap[B + 1 + 1 + 1]? = some (.cells #[.int .i64 341] 32 (0, 0)) ∧ Below w.heap.size w W ∧ base ≤ W.heap.size
theorem DropI.abide {B n cap nx x base Bs : Nat} {a : Option Addr} {w A A' : World} {row : Option Nat} (h : DropI B a n cap nx x w base A) (hg : A.grownBy A' row)
    (hr : ∀ r, row = some r → r = Bs ∨ (base ≤ r ∧ ∃ o, A.heap[r]? = some o ∧ o.isCells = false)) (h5 : B + 1 + 1 + 1 < Bs) (hb : Bs < base) (hw : w.heap.size ≤ Bs) : DropI B a n cap nx x w base A' := by
  obtain ⟨k1, k2, k3, k4, hbl, hsz⟩ := h
  exact ⟨cells_abide k1 hg hr (by omega), cells_abide k2 hg hr (by omega), cells_abide k3 hg hr (by omega), cells_abide k4 hg hr (by omega), below_abide hbl hg hr hw (by omega), Nat.le_trans hsz hg.size⟩
theorem DropX.abide {B base Bs : Nat} {w A A' : World} {row : Option Nat} (h : DropX B w base A) (hg : A.grownBy A' row)
    (hr : ∀ r, row = some r → r = Bs ∨ (base ≤ r ∧ ∃ o, A.heap[r]? = some o ∧ o.isCells = false)) (h5 : B + 1 + 1 + 1 < Bs) (hb : Bs < base) (hw : w.heap.size ≤ Bs) : DropX B w base A' := by
  obtain ⟨k3, k4, hbl, hsz⟩ := h
  exact ⟨cells_abide k3 hg hr (by omega), cells_abide k4 hg hr (by omega), below_abide hbl hg hr hw (by omega), Nat.le_trans hsz hg.size⟩

structure Boxed (b b' : Nat) (v0 v1 v2 : Value) where
  v : World
  h0 : v.cell? ⟨b, 0, none⟩ = some v0
  h1 : v.cell? ⟨b, 1, none⟩ = some v1
  h2 : v.cell? ⟨b', 0, none⟩ = some v2

set_option maxRecDepth 100000 in
set_option maxHeartbeats 2000000 in
theorem mDrop_any (ms : List (Nat × Nat)) (a : Option Addr) (n cap nx x : Nat) (w : World) (hl : ms.length = n) (hok : mok ms) (hn : n ≤ 1000) (hnx : nx < 18446744073709551616) (hx : x < 18446744073709551616) (h : Leads w a n cap (mcells ms)) :
    Calls Try.prog 11 #[.agg #[.slice a n cap, .int .u64 (nx : Nat)], .int .u64 (x : Nat)] w (DropP ms nx x w) := by
  obtain ⟨B, hB⟩ : ∃ B, w.heap.size = B := ⟨_, rfl⟩
  obtain ⟨w1, hw1, hb1, hs1, hl1⟩ := laid w #[.slice a n cap, .int .u64 ((nx : Nat) : Int)] 25
  obtain ⟨w2, hw2, hb2, hs2, hl2⟩ := laid w1 #[.int .u64 ((x : Nat) : Int)] 23
  obtain ⟨w3, hw3, hb3, hs3, hl3⟩ := laid w2 #[.slice none 0 0, .int .u64 0] 25
  obtain ⟨w4, hw4, hb4, hs4, hl4⟩ := laid w3 #[.int .i64 0] 32
  have hb04 := step (step (step hb1 hb2) hb3) hb4
  rw [hB] at hs1 hl1
  rw [hs1] at hs2 hl2
  rw [hs2] at hs3 hl3
  rw [hs3] at hs4 hl4
  have L1 := keep_laid (keep_laid (keep_laid hl1 hb2) hb3) hb4
  have L2 := keep_laid (keep_laid hl2 hb3) hb4
  have L3 := keep_laid hl3 hb4
  have HL1 := hid L1
  have HL2 := hid L2
  have HL3 := hid L3
  have HL4 := hid hl4
  have hc0 : w4.cell? ⟨B, 0, none⟩ = some (.slice a n cap) := cell_laid L1 rfl
  have hc1 : w4.cell? ⟨B, 1, none⟩ = some (.int .u64 ((nx : Nat) : Int)) := cell_laid L1 rfl
  have hc2 : w4.cell? ⟨B + 1, 0, none⟩ = some (.int .u64 ((x : Nat) : Int)) := cell_laid L2 rfl
  have hC := mchk_any ms a n cap nx x w4 hl hok hn hnx hx (h.grow hb04)
  have hw4s : w4.heap.size = B + 1 + 1 + 1 + 1 := hs4
  have hsz4 : B + 4 ≤ w4.heap.size := by omega
  have hwB : w.heap.size ≤ B := by omega
  have HS1 := hs1
  clear hl1 hl2 hl3 hl4 L1 L2 L3 hs4 hw4s
  by_cases h0 : chk2E ms nx x = 0
  · rw [h0] at hC
    have HC := hid hC
    have HB := hid fun W (hW : Below w4.heap.size w4 W) => byPath_any ms a n cap ((nx : Nat) : Int) W hl hok hn (h.grow (step hb04 hW))
    have H := hid h
    have HL := hid hl
    have HOK := hid hok
    cases hh : hasM ms x with
    | false =>
      have HE : Hid (dropE ms nx x = 4) := hid (by unfold dropE; rw [if_pos h0, hh, if_neg (by simp)])
      have HH := hid hh
      clear hC hl hok h h0 hh
      refine calls_of_wp_marks Try.func11 rfl ?_
      simp only [Try.ntmps11, List.size_toArray, List.length_cons, List.length_nil, Nat.reduceAdd, Nat.reduceSub, Array.replicate_succ, Array.replicate_zero, List.push_toArray, List.append_toArray, List.nil_append, List.cons_append]
      go_wp2_with fail
      refine HC.out.mono ?_
      rintro e w5 ⟨rfl, hb5⟩
      have k0 : w5.cell? ⟨B, 0, none⟩ = some (.slice a n cap) := cell_laid (keep_laid HL1.out hb5) rfl
      have k1 : w5.cell? ⟨B, 1, none⟩ = some (.int .u64 ((nx : Nat) : Int)) := cell_laid (keep_laid HL1.out hb5) rfl
      have k2 : w5.cell? ⟨B + 1, 0, none⟩ = some (.int .u64 ((x : Nat) : Int)) := cell_laid (keep_laid HL2.out hb5) rfl
      go_upto_region 4 with (fail)
      have f0 : ∀ z : Ext w5, z.v.cell? ⟨B, 0, none⟩ = some (.slice a n cap) := fun z => cell_laid (keep_laid HL1.out (step hb5 z.b)) rfl
      have f1 : ∀ z : Ext w5, z.v.cell? ⟨B, 1, none⟩ = some (.int .u64 ((nx : Nat) : Int)) := fun z => cell_laid (keep_laid HL1.out (step hb5 z.b)) rfl
      have f2 : ∀ z : Ext w5, z.v.cell? ⟨B + 1, 0, none⟩ = some (.int .u64 ((x : Nat) : Int)) := fun z => cell_laid (keep_laid HL2.out (step hb5 z.b)) rfl
      refine wp_region_mix (fun w' => ∃ z : Ext w5, w' = z.v) 9 [(0, false), (2, false), (1, true), (3, true), (4, false), (5, false), (6, false), (7, false), (8, false)] (by kernel_rfl) (by kernel_rfl) ⟨⟨_, (Below.refl _ _).drew⟩, rfl⟩ ?_
      repeat (refine wpMix_q rfl rfl ?_; go_big_quiet_step (fail); refine wpQuiet_nil ?_)
      refine wpMix_h rfl fun R' hR' hO => ?_
      go_wp2_with (fail)
      refine (HB.out _ hb5.drew).mono ?_
      rintro e w7 ⟨b, rfl, hbb, hI, hb7⟩
      have hb57 : Below w5.heap.size w5 w7 := (Below.refl _ _).drew.trans hb7
      go_wp2
      refine hR' _ _ ⟨⟨w7, hb57⟩, rfl⟩ ?_
      refine wpMix_h rfl fun R' hR' hO => ?_
      at_lookup
      refine wp_look rfl _ _ 66 rfl Try.underlying66 b x ms rfl hI rfl hx ?_
      rw [HH.out]
      go_wp2
      refine hR' _ _ ⟨⟨w7, hb57⟩, rfl⟩ ?_
      repeat (refine wpMix_q rfl rfl ?_; go_big_quiet_step (fail); refine wpQuiet_nil ?_)
      refine wpMix_done ?_
      simp only [List.drop_succ_cons, List.drop_zero]
      have hb47 : Below w4.heap.size w4 w7 := step hb5 hb57
      have k3 := keep_laid HL3.out hb47
      have k4 := keep_laid HL4.out hb47
      have hf0 := free_laid (i := 0) k3
      have hf1 := free_laid (i := 1) k3
      have hf2 := free_laid (i := 0) k4
      have hd0 := cell_laid (i := 0) k3 rfl
      have hd1 := cell_laid (i := 1) k3 rfl
      have hd2 := cell_laid (i := 0) k4 rfl
      have HEND := hid (drop_end k3 k4 (by omega) (.slice none 0 0) (.int .u64 0) (.int .i64 4))
      have hbf : Hid (Below w.heap.size w (((w7.setCell ⟨B + 1 + 1, 0, none⟩ (.slice none 0 0)).setCell ⟨B + 1 + 1, 1, none⟩ (.int .u64 0)).setCell ⟨B + 1 + 1 + 1, 0, none⟩ (.int .i64 4))) := hid ((((step hb04 hb47).setCell (p := ⟨B + 1 + 1, 0, none⟩) (by show w.heap.size ≤ B + 1 + 1; omega) _).setCell (p := ⟨B + 1 + 1, 1, none⟩) (by show w.heap.size ≤ B + 1 + 1; omega) _).setCell (p := ⟨B + 1 + 1 + 1, 0, none⟩) (by show w.heap.size ≤ B + 1 + 1 + 1; omega) _)
      clear k3 k4
      go_wp2
      refine leaves_none (drop_result HEND.out.1 HEND.out.2 rfl rfl) (dropP_no HE.out (by decide) hbf.out)
    | true =>
      have HH := hid hh
      have HEB := hid (fun hb : belowM ms x = [] => (show dropE ms nx x = 0 by unfold dropE; rw [if_pos h0, hh, if_pos rfl, if_pos hb]))
      have HEN := hid (fun hb : belowM ms x ≠ [] => (show dropE ms nx x = 341 by unfold dropE; rw [if_pos h0, hh, if_pos rfl, if_neg hb]))
      clear hC hl hok h h0 hh
      refine calls_of_wp_marks Try.func11 rfl ?_
      simp only [Try.ntmps11, List.size_toArray, List.length_cons, List.length_nil, Nat.reduceAdd, Nat.reduceSub, Array.replicate_succ, Array.replicate_zero, List.push_toArray, List.append_toArray, List.nil_append, List.cons_append]
      go_wp2_with fail
      refine HC.out.mono ?_
      rintro e w5 ⟨rfl, hb5⟩
      have k0 : w5.cell? ⟨B, 0, none⟩ = some (.slice a n cap) := cell_laid (keep_laid HL1.out hb5) rfl
      have k1 : w5.cell? ⟨B, 1, none⟩ = some (.int .u64 ((nx : Nat) : Int)) := cell_laid (keep_laid HL1.out hb5) rfl
      have k2 : w5.cell? ⟨B + 1, 0, none⟩ = some (.int .u64 ((x : Nat) : Int)) := cell_laid (keep_laid HL2.out hb5) rfl
      go_upto_region 4 with (fail)
      have f0 : ∀ z : Ext w5, z.v.cell? ⟨B, 0, none⟩ = some (.slice a n cap) := fun z => cell_laid (keep_laid HL1.out (step hb5 z.b)) rfl
      have f1 : ∀ z : Ext w5, z.v.cell? ⟨B, 1, none⟩ = some (.int .u64 ((nx : Nat) : Int)) := fun z => cell_laid (keep_laid HL1.out (step hb5 z.b)) rfl
      have f2 : ∀ z : Ext w5, z.v.cell? ⟨B + 1, 0, none⟩ = some (.int .u64 ((x : Nat) : Int)) := fun z => cell_laid (keep_laid HL2.out (step hb5 z.b)) rfl
      refine wp_region_mix (fun w' => ∃ z : Ext w5, w' = z.v) 9 [(0, false), (2, false), (1, true), (3, true), (4, false), (5, false), (6, false), (7, false), (8, false)] (by kernel_rfl) (by kernel_rfl) ⟨⟨_, (Below.refl _ _).drew⟩, rfl⟩ ?_
      repeat (refine wpMix_q rfl rfl ?_; go_big_quiet_step (fail); refine wpQuiet_nil ?_)
      refine wpMix_h rfl fun R' hR' hO => ?_
      go_wp2_with (fail)
      refine (HB.out _ hb5.drew).mono ?_
      rintro e w7 ⟨b, rfl, hbb, hI, hb7⟩
      have hb57 : Below w5.heap.size w5 w7 := (Below.refl _ _).drew.trans hb7
      go_wp2
      refine hR' _ _ ⟨⟨w7, hb57⟩, rfl⟩ ?_
      refine wpMix_h rfl fun R' hR' hO => ?_
      at_lookup
      refine wp_look rfl _ _ 66 rfl Try.underlying66 b x ms rfl hI rfl hx ?_
      rw [HH.out]
      go_wp2
      refine hR' _ _ ⟨⟨w7, hb57⟩, rfl⟩ ?_
      repeat (refine wpMix_q rfl rfl ?_; go_big_quiet_step (fail); refine wpQuiet_nil ?_)
      refine wpMix_done ?_
      simp only [List.drop_succ_cons, List.drop_zero]
      have hb47 : Below w4.heap.size w4 w7 := step hb5 hb57
      have m0 : w7.cell? ⟨B, 0, none⟩ = some (.slice a n cap) := cell_laid (keep_laid HL1.out hb47) rfl
      have m1 : w7.cell? ⟨B, 1, none⟩ = some (.int .u64 ((nx : Nat) : Int)) := cell_laid (keep_laid HL1.out hb47) rfl
      have m2 : w7.cell? ⟨B + 1, 0, none⟩ = some (.int .u64 ((x : Nat) : Int)) := cell_laid (keep_laid HL2.out hb47) rfl
      have HBL := hid fun W => below_any (.agg #[.slice a n cap, .int .u64 ((nx : Nat) : Int)]) (.slice a n cap) (.int .u64 ((nx : Nat) : Int)) x W rfl rfl
      obtain ⟨w8, hw8, hb8, hs8, hl8⟩ := laid w7 #[.slice a n cap, .int .u64 ((nx : Nat) : Int)] 25
      obtain ⟨w9, hw9, hb9, hs9, hl9⟩ := laid w8 #[.int .u64 ((x : Nat) : Int)] 23
      clear k0 k1 k2 f0 f1 f2
      go_wp2_with fail
      refine (HBL.out _).mono ?_
      rintro e w6 ⟨rfl, hw6⟩
      rw [hw8, hw9] at hw6
      rw [hw6]
      clear hw6 w6
      have hb49 := step (step hb47 hb8) hb9
      obtain ⟨S, eS⟩ : ∃ b, w7.heap.size = b := ⟨_, rfl⟩
      have hS4 : w4.heap.size ≤ S := by rw [← eS]; exact hb47.size
      have L8 := keep_laid hl8 hb9
      rw [eS] at hs8 L8
      rw [hs8] at hs9 hl9
      rw [eS]
      have HS9 : Hid (w9.heap.size = S + 1 + 1) := hid hs9
      have hS9 : S + 1 < w9.heap.size := by omega
      have hS9' : S + 2 ≤ w9.heap.size := by omega
      have hI0 : DropI B a n cap nx x w w9.heap.size w9 := ⟨keep_laid HL1.out hb49, keep_laid HL2.out hb49, keep_laid HL3.out hb49, keep_laid HL4.out hb49, step hb04 hb49, Nat.le_refl _⟩
      clear m0 m1 m2 hw8 hw9 hl8 hs8 hs9 eS hI
      go_wp2
      refine wp_range (Bs := S + 1) (gf := 45) (lb := #[.pointer (some ⟨S, 0, none⟩), .pointer (some ⟨S + 1, 0, none⟩)]) rfl (enters_of Try.func45 (by kernel_rfl) rfl)
        (below_seq (S + 1) _ S (S + 1) w ms a n cap nx x HL.out HOK.out hn hx H.out (by omega) (by omega)) (fun k hk => by omega) (by omega)
        (fun o o' => ?hR) (fun _ => rfl)
        (fun pre W => pre = [] ∧ DropI B a n cap nx x w w9.heap.size W)
        (fun c pre W => c = .ret ∧ pre ≠ [] ∧ DropX B w w9.heap.size W)
        ?hI ?hIx ?h0 (fun t p => t.setIfInBounds 29 (mval p)) ?assign ?body ?done ?stop
      case hR =>
        have g1 := (Below.refl w9.heap.size w9).alloc (Nat.le_refl _) o
        have g2 : Below w9.heap.size w9 ((w9.alloc o).alloc o') := g1.alloc (Nat.le_of_lt (by simp)) o'
        exact ⟨fun k hk => ((step hb04 hb49).trans (g2.mono (by omega))).block k hk, keep_laid L8 g2, keep_laid hl9 g2⟩
      case hI => exact fun s A B' row hs hg hr => ⟨hs.1, hs.2.abide hg hr (by omega) (by omega) (by omega)⟩
      case hIx => exact fun c s A B' row hs hg hr => ⟨hs.1, hs.2.1, hs.2.2.abide hg hr (by omega) (by omega) (by omega)⟩
      case h0 => exact ⟨rfl, hI0⟩
      case assign =>
        intro l p W K hK
        gi_wp2
        exact hK
      case body =>
        rintro l pre p W ⟨rfl, k1, k2, k3, k4, hbl, hsz⟩ hlen
        have hf0 := free_laid (i := 0) k3
        have hf1 := free_laid (i := 1) k3
        have hf2 := free_laid (i := 0) k4
        have hd0 := cell_laid (i := 0) k3 rfl
        have hd1 := cell_laid (i := 1) k3 rfl
        have hd2 := cell_laid (i := 0) k4 rfl
        have HEND := hid (drop_end k3 k4 (by omega) (.slice none 0 0) (.int .u64 0) (.int .i64 341))
        have HBF := hid (((hbl.setCell (p := ⟨B + 1 + 1, 0, none⟩) (by show w.heap.size ≤ B + 1 + 1; omega) (.slice none 0 0)).setCell (p := ⟨B + 1 + 1, 1, none⟩) (by show w.heap.size ≤ B + 1 + 1; omega) (.int .u64 0)).setCell (p := ⟨B + 1 + 1 + 1, 0, none⟩) (by show w.heap.size ≤ B + 1 + 1 + 1; omega) (.int .i64 341))
        clear k1 k2 k3 k4
        gi_wp2
        exact ⟨((KeepsOthers.setCell _ _ _).trans (KeepsOthers.setCell _ _ _)).trans (KeepsOthers.setCell _ _ _), rfl, by simp, HEND.out.1, HEND.out.2, HBF.out, by simpa [World.setCell] using hsz⟩
      case done =>
        rintro D xs W hD hxs ⟨rfl, k1, k2, k3, k4, hbl, hsz⟩ hK
        have HE := hid (HEB.out hxs.symm)
        have KK := hid hK
        have K1 := hid k1
        have K2 := hid k2
        have K3 := hid k3
        have K4 := hid k4
        have HBW := hid hbl
        clear hK k1 k2 k3 k4 hxs
        go_upto_region 9 with (fail)
        have f0 : ∀ z : Boxed B (B + 1) (.slice a n cap) (.int .u64 ((nx : Nat) : Int)) (.int .u64 ((x : Nat) : Int)), z.v.cell? ⟨B, 0, none⟩ = some (.slice a n cap) := fun z => z.h0
        have f1 : ∀ z : Boxed B (B + 1) (.slice a n cap) (.int .u64 ((nx : Nat) : Int)) (.int .u64 ((x : Nat) : Int)), z.v.cell? ⟨B, 1, none⟩ = some (.int .u64 ((nx : Nat) : Int)) := fun z => z.h1
        have f2 : ∀ z : Boxed B (B + 1) (.slice a n cap) (.int .u64 ((nx : Nat) : Int)) (.int .u64 ((x : Nat) : Int)), z.v.cell? ⟨B + 1, 0, none⟩ = some (.int .u64 ((x : Nat) : Int)) := fun z => z.h2
        have boxed4 : ∀ V : World, V.heap[B]? = some (.cells #[.slice a n cap, .int .u64 ((nx : Nat) : Int)] 25 (0, 0)) → V.heap[B + 1]? = some (.cells #[.int .u64 ((x : Nat) : Int)] 23 (0, 0)) → ∃ z : Boxed B (B + 1) (.slice a n cap) (.int .u64 ((nx : Nat) : Int)) (.int .u64 ((x : Nat) : Int)), V = z.v := fun V h1 h2 => ⟨⟨V, cell_laid h1 rfl, cell_laid h1 rfl, cell_laid h2 rfl⟩, rfl⟩
        have hnon : Nonempty (Boxed B (B + 1) (.slice a n cap) (.int .u64 ((nx : Nat) : Int)) (.int .u64 ((x : Nat) : Int))) := ⟨(boxed4 W K1.out K2.out).choose⟩
        have HX4 := hid boxed4
        clear boxed4
        refine wp_region_mix (fun w' => ∃ z : Boxed B (B + 1) (.slice a n cap) (.int .u64 ((nx : Nat) : Int)) (.int .u64 ((x : Nat) : Int)), w' = z.v) 9 [(0, false), (1, false), (2, false), (4, false), (5, false), (3, true), (6, false), (7, true), (8, true)] (by kernel_rfl) (by kernel_rfl) (HX4.out _ K1.out K2.out) ?_
        repeat (refine wpMix_q rfl rfl ?_; go_big_quiet_step (fail); refine wpQuiet_nil ?_)
        refine wpMix_h rfl fun R' hR' hO => ?_
        have HKE := hid (kept_any ms a n cap x (B + 1) W.drew HL.out hn K2.out (H.out.grow HBW.out.drew))
        go_wp2_with (fail)
        refine HKE.out.mono ?_
        rintro e W2 ⟨v, rfl, hown, hbk⟩
        have hbk' : Below W.heap.size W W2 := (Below.refl _ _).drew.trans hbk
        obtain ⟨a', c', rfl, hld⟩ := Leads.of_own hown
        have HO := hid hown
        have hWs : B + 1 + 1 + 1 < W.heap.size := by omega
        have j1 := keep_laid K1.out hbk'
        have j2 := keep_laid K2.out hbk'
        have j3 := keep_laid K3.out hbk'
        have j4 := keep_laid K4.out hbk'
        have hf0 := free_laid (i := 0) j3
        have hf1 := free_laid (i := 1) j3
        have hd0 := cell_laid (i := 0) j3 rfl
        have hd1 := cell_laid (i := 1) j3 rfl
        have J1 := hid j1
        have J2 := hid j2
        have J3 := hid j3
        have J4 := hid j4
        have KK2 := hid ((hbk'.block D (lt_laid KK.out)).trans KK.out)
        have HBK := hid (step HBW.out hbk')
        clear hown hld j1 j2 j3 j4
        go_wp2
        refine hR' _ _ (HX4.out _ J1.out J2.out) ?_
        repeat (refine wpMix_q rfl rfl ?_; go_big_quiet_step (fail); refine wpQuiet_nil ?_)
        refine wpMix_h rfl fun R' hR' hO => ?_
        go_wp2
        refine hR' _ _ (HX4.out _ (other_laid (other_laid J1.out (by omega) _) (by omega) _) (other_laid (other_laid J2.out (by omega) _) (by omega) _)) ?_
        refine wpMix_h rfl fun R' hR' hO => ?_
        have g4 := other_laid (other_laid J4.out (show B + 1 + 1 + 1 ≠ B + 1 + 1 by omega) (i := 0) (.slice a' (keptM ms x).length c')) (show B + 1 + 1 + 1 ≠ B + 1 + 1 by omega) (i := 1) (.int .u64 ((nx : Nat) : Int))
        have hf2 := free_laid (i := 0) g4
        have hd2 := cell_laid (i := 0) g4 rfl
        clear g4
        go_wp2
        refine hR' _ _ (HX4.out _ (other_laid (other_laid (other_laid J1.out (by omega) _) (by omega) _) (by omega) _) (other_laid (other_laid (other_laid J2.out (by omega) _) (by omega) _) (by omega) _)) ?_
        refine wpMix_done ?_
        simp only [List.drop_succ_cons, List.drop_zero]
        have HEND := hid (drop_end J3.out J4.out (by omega) (.slice a' (keptM ms x).length c') (.int .u64 ((nx : Nat) : Int)) (.int .i64 0))
        have KK3 := hid (other_laid (other_laid (other_laid KK2.out (show D ≠ B + 1 + 1 by omega) (i := 0) (.slice a' (keptM ms x).length c')) (show D ≠ B + 1 + 1 by omega) (i := 1) (.int .u64 ((nx : Nat) : Int))) (show D ≠ B + 1 + 1 + 1 by omega) (i := 0) (.int .i64 0))
        have HBF := hid (((HBK.out.setCell (p := ⟨B + 1 + 1, 0, none⟩) (by show w.heap.size ≤ B + 1 + 1; omega) (.slice a' (keptM ms x).length c')).setCell (p := ⟨B + 1 + 1, 1, none⟩) (by show w.heap.size ≤ B + 1 + 1; omega) (.int .u64 ((nx : Nat) : Int))).setCell (p := ⟨B + 1 + 1 + 1, 0, none⟩) (by show w.heap.size ≤ B + 1 + 1 + 1; omega) (.int .i64 0))
        have HO3 := hid (ownsRow_setCell_below (a := ⟨B + 1 + 1 + 1, 0, none⟩) (ownsRow_setCell_below (a := ⟨B + 1 + 1, 1, none⟩) (ownsRow_setCell_below (a := ⟨B + 1 + 1, 0, none⟩) HO.out (by show B + 1 + 1 < W.heap.size; omega) (.slice a' (keptM ms x).length c')) (by show B + 1 + 1 < W.heap.size; omega) (.int .u64 ((nx : Nat) : Int))) (by show B + 1 + 1 + 1 < W.heap.size; omega) (.int .i64 0))
        have hWw : w.heap.size ≤ W.drew.heap.size := by show w.heap.size ≤ W.heap.size; omega
        go_wp2
        refine leaves_mark KK3.out (drop_result (mark_other HEND.out.1 KK3.out _) (mark_other HEND.out.2 KK3.out _) rfl rfl) ⟨.slice a' (keptM ms x).length c', ?_, below_mark HBF.out (by omega) KK3.out⟩
        rw [if_pos HE.out]
        exact ⟨rfl, own_mark (own_base HO3.out hWw) KK3.out _⟩
      case stop =>
        rintro D c pre W hD ⟨r, hr⟩ ⟨rfl, hne, k3, k4, hbl, hsz⟩ hK
        have HE := hid (HEN.out (by rw [hr]; intro e; exact hne (List.append_eq_nil_iff.1 e).1))
        have K3 := hid k3
        have K4 := hid k4
        have KK := hid hK
        clear k3 k4 hK hr hne
        go_wp2
        exact leaves_mark KK.out (drop_result (mark_other K3.out KK.out _) (mark_other K4.out KK.out _) rfl rfl) (dropP_no HE.out (by decide) (below_mark hbl (by omega) KK.out))
  · have HE : Hid (dropE ms nx x = chk2E ms nx x) := hid (by unfold dropE; rw [if_neg h0])
    have HC := hid hC
    obtain ⟨E, hE⟩ : ∃ E, chk2E ms nx x = E := ⟨_, rfl⟩
    rw [hE] at HC h0 HE
    have HN0 := hid h0
    have q : (E == 0) = false := by simpa using h0
    clear hC hl hok h h0 hE
    refine calls_of_wp_marks Try.func11 rfl ?_
    simp only [Try.ntmps11, List.size_toArray, List.length_cons, List.length_nil, Nat.reduceAdd, Nat.reduceSub, Array.replicate_succ, Array.replicate_zero, List.push_toArray, List.append_toArray, List.nil_append, List.cons_append]
    go_wp2_with fail
    refine HC.out.mono ?_
    rintro e w5 ⟨rfl, hb5⟩
    have k3 := keep_laid HL3.out hb5
    have k4 := keep_laid HL4.out hb5
    have hf0 := free_laid (i := 0) k3
    have hf1 := free_laid (i := 1) k3
    have hf2 := free_laid (i := 0) k4
    have hd0 := cell_laid (i := 0) k3 rfl
    have hd1 := cell_laid (i := 1) k3 rfl
    have hd2 := cell_laid (i := 0) k4 rfl
    have HEND := hid (drop_end k3 k4 (by omega) (.slice none 0 0) (.int .u64 0) (.int .i64 E))
    have hbf : Hid (Below w.heap.size w (((w5.setCell ⟨B + 1 + 1, 0, none⟩ (.slice none 0 0)).setCell ⟨B + 1 + 1, 1, none⟩ (.int .u64 0)).setCell ⟨B + 1 + 1 + 1, 0, none⟩ (.int .i64 E))) := hid ((((step hb04 hb5).setCell (p := ⟨B + 1 + 1, 0, none⟩) (by show w.heap.size ≤ B + 1 + 1; omega) _).setCell (p := ⟨B + 1 + 1, 1, none⟩) (by show w.heap.size ≤ B + 1 + 1; omega) _).setCell (p := ⟨B + 1 + 1 + 1, 0, none⟩) (by show w.heap.size ≤ B + 1 + 1 + 1; omega) _)
    clear k3 k4
    go_wp2
    refine leaves_none (drop_result HEND.out.1 HEND.out.2 rfl rfl) (dropP_no HE.out HN0.out hbf.out)
end Go.Proofs.Ytbfhppafffhlkaa
