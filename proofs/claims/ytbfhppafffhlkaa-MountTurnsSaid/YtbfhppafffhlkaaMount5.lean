/- The functions of package mount: Under. -/
import Derived.Test.YtbfhppafffhlkaaMount4
import Derived.Test.YtbfhppafffhlkaaRange2
namespace Go.Proofs.Ytbfhppafffhlkaa
open Go.RowKit Go.Shelf
open Go.Proofs
set_option linter.unusedVariables false
attribute [local go_sem] Oper.semAt_some

def underN (ms : List (Nat × Nat)) (nx x : Nat) : List Nat := if chk2E ms nx x = 0 then (belowM ms x).map (·.2) else []

/-- What the loop over the mounts below has made. -/
def Unders (w : World) (b5 base : Nat) (pre : List (Nat × Nat)) (W : World) : Prop :=
  ∃ v, W.heap[b5]? = some (.cells #[v] 43 (0, 0)) ∧ W.ownsRow base 23 1 v pre.length (wcells (pre.map (·.2))) ∧ Below w.heap.size w W ∧ base ≤ W.heap.size
theorem Unders.abide {w A B : World} {row : Option Nat} {b5 base Bs : Nat} {pre : List (Nat × Nat)} (h : Unders w b5 base pre A) (hg : A.grownBy B row)
    (hr : ∀ r, row = some r → r = Bs ∨ (base ≤ r ∧ ∃ o, A.heap[r]? = some o ∧ o.isCells = false)) (h5 : b5 ≠ Bs) (hb : Bs < base) (hw : w.heap.size ≤ Bs) : Unders w b5 base pre B := by
  obtain ⟨v, k5, ho, hbl, hsz⟩ := h
  exact ⟨v, cells_abide k5 hg hr h5, own_abide ho hg hr hb, below_abide hbl hg hr hw (by omega), Nat.le_trans hsz hg.size⟩

set_option maxRecDepth 100000 in
set_option maxHeartbeats 2000000 in
theorem mUnder_any (ms : List (Nat × Nat)) (a : Option Addr) (n cap nx x : Nat) (w : World) (hl : ms.length = n) (hok : mok ms) (hn : n ≤ 1000) (hnx : nx < 18446744073709551616) (hx : x < 18446744073709551616) (h : Leads w a n cap (mcells ms)) :
    Calls Try.prog 21 #[.agg #[.slice a n cap, .int .u64 (nx : Nat)], .int .u64 (x : Nat)] w (fun e w' => ∃ v, Words (underN ms nx x) (fun v => v) w e w' v) := by
  obtain ⟨w1, hw1, hb1, hs1, hl1⟩ := laid w #[.slice a n cap, .int .u64 ((nx : Nat) : Int)] 25
  have hc0 : w1.cell? ⟨w.heap.size, 0, none⟩ = some (.slice a n cap) := cell_laid hl1 rfl
  have hc1 : w1.cell? ⟨w.heap.size, 1, none⟩ = some (.int .u64 ((nx : Nat) : Int)) := cell_laid hl1 rfl
  have hC := mchk_any ms a n cap nx x w1 hl hok hn hnx hx (h.grow hb1)
  have HL1 := hid hl1
  have hw1w : w.heap.size < w1.heap.size := lt_laid hl1
  unfold underN
  by_cases h0 : chk2E ms nx x = 0
  · rw [h0] at hC
    rw [if_pos h0]
    have HC := hid hC
    have H := hid h
    have HL := hid hl
    have HOK := hid hok
    clear hC hl hl1 hs1 hok h h0
    refine calls_of_wp_marks Try.func21 rfl ?_
    simp only [Try.ntmps21, List.size_toArray, List.length_cons, List.length_nil, Nat.reduceAdd, Nat.reduceSub, Array.replicate_succ, Array.replicate_zero, List.push_toArray, List.append_toArray, List.nil_append, List.cons_append]
    go_wp2_with fail
    refine HC.out.mono ?_
    rintro e w2 ⟨rfl, hb2⟩
    obtain ⟨w3, hw3, hb3, hs3, hl3⟩ := laid w2 #[.slice none 0 0] 43
    have hb23 := step hb2 hb3
    have hd0 : w3.cell? ⟨w.heap.size, 0, none⟩ = some (.slice a n cap) := cell_laid (keep_laid HL1.out hb23) rfl
    have hd1 : w3.cell? ⟨w.heap.size, 1, none⟩ = some (.int .u64 ((nx : Nat) : Int)) := cell_laid (keep_laid HL1.out hb23) rfl
    have HBL := hid fun W => below_any (.agg #[.slice a n cap, .int .u64 ((nx : Nat) : Int)]) (.slice a n cap) (.int .u64 ((nx : Nat) : Int)) x W rfl rfl
    obtain ⟨w4, hw4, hb4, hs4, hl4⟩ := laid w3 #[.slice a n cap, .int .u64 ((nx : Nat) : Int)] 25
    obtain ⟨w5, hw5, hb5, hs5, hl5⟩ := laid w4 #[.int .u64 ((x : Nat) : Int)] 23
    go_wp2_with fail
    refine (HBL.out _).mono ?_
    rintro e w6 ⟨rfl, hw6⟩
    rw [hw4, hw5] at hw6
    rw [hw6]
    clear hw6 w6
    have L3 := keep_laid (keep_laid hl3 hb4) hb5
    have L4 := keep_laid hl4 hb5
    have hB5 := step (step (step (step hb1 hb2) hb3) hb4) hb5
    obtain ⟨b5, eb5⟩ : ∃ b, w2.heap.size = b := ⟨_, rfl⟩
    rw [eb5] at hs3 L3
    rw [hs3] at hs4 L4
    rw [hs4] at hs5 hl5
    have hwb5 : w.heap.size ≤ b5 := by rw [← eb5]; have := hb2.size; omega
    rw [eb5, hs3]
    clear hd0 hd1 hc0 hc1 hw3 hw4 hw5 hl3 hl4 hs3 hs4 hw1 eb5
    go_wp2
    refine wp_rangeA (Bs := b5 + 1 + 1) (gf := 45) (lb := #[.pointer (some ⟨b5 + 1, 0, none⟩), .pointer (some ⟨b5 + 1 + 1, 0, none⟩)]) rfl (enters_of Try.func45 (by kernel_rfl) rfl)
      (below_seq (b5 + 1 + 1) _ (b5 + 1) (b5 + 1 + 1) w ms a n cap nx x HL.out HOK.out hn hx H.out (by omega) (by omega)) (fun k hk => by omega) (by omega)
      (fun o o' => ?hR) (fun _ => rfl)
      (fun pre W => Unders w b5 w5.heap.size pre W)
      (fun c pre W => False)
      ?hI ?hIx ?h0 (fun t pre p a' W => Unders w b5 w5.heap.size pre W ∧ ∃ B, a' = { tmps := (t.setIfInBounds 14 (mval p)).setIfInBounds 6 (.pointer (some ⟨B, 0, none⟩)), defers := [] } ∧ w5.heap.size ≤ B ∧ W.heap[B]? = some (.cells #[.int .u64 ((p.1 : Nat) : Int), .int .u64 ((p.2 : Nat) : Int)] 51 (0, 0))) ?hAx ?assign ?body ?done ?stop
    case hR =>
      have g1 := (Below.refl w5.heap.size w5).alloc (Nat.le_refl _) o
      have g2 : Below w5.heap.size w5 ((w5.alloc o).alloc o') := g1.alloc (Nat.le_of_lt (by simp)) o'
      refine ⟨fun k hk => (hB5.trans (g2.mono (by omega))).block k hk, keep_laid L4 g2, keep_laid hl5 g2⟩
    case hI => exact fun s A B row hs hg hr => hs.abide hg hr (by omega) (by omega) (by omega)
    case hIx => exact fun c s A B row hs hg hr => hs
    case h0 => exact ⟨_, L3, World.ownsRow_nil _ _ _ _, hB5, Nat.le_refl _⟩
    case hAx =>
      rintro t pre p a' A B row ⟨hU, b, e, hb, hc⟩ hg hr
      refine ⟨hU.abide (Bs := b5 + 1 + 1) hg (fun r e => .inr (hr r e)) (by omega) (by omega) (by omega), b, e, hb, cells_abide (Bs := b5) (B0 := w5.heap.size) hc hg (fun r e => .inr (hr r e)) (by omega)⟩
    case assign =>
      rintro l pre ⟨p1, p2⟩ W K hI hlen hK
      obtain ⟨wb, hwb, hbb, hsb, hlb⟩ := laid W #[.int .u64 ((p1 : Nat) : Int), .int .u64 ((p2 : Nat) : Int)] 51
      have HLB := hid hlb
      clear hlb hsb
      have hU : Unders w b5 w5.heap.size pre wb := by
        obtain ⟨v, k5, ho, hbl, hsz⟩ := hI
        exact ⟨v, keep_laid k5 hbb, own_grow ho hbb, step hbl hbb, Nat.le_trans hsz hbb.size⟩
      have HU := hid hU
      have HI := hid hI.choose_spec.2.2.2
      clear hU hI
      gi_wp2
      refine hK _ _ hbb ⟨HU.out, W.heap.size, rfl, HI.out, HLB.out⟩
    case body =>
      rintro l pre ⟨p1, p2⟩ a' W ⟨⟨v, k5, ho, hbl, hsz⟩, B, rfl, hB, hc⟩ hlen
      have hsW := hbl.size
      have hc5 := cell_laid (i := 0) (v := v) k5 rfl
      have hcB := cell_laid (i := 1) hc rfl
      obtain ⟨W3, hW3, hb7, hs7, hl7⟩ := laid W #[.int .u64 ((p2 : Nat) : Int)] 23
      have K5 := hid (keep_laid k5 hb7)
      have MO := hid (own_grow ho hb7)
      have HL7 := hid hl7
      have hW3s : w5.heap.size ≤ W3.heap.size := by omega
      have HBL := hid (step hbl hb7)
      have hlen' : pre.length ≤ 1000000 := by omega
      clear ho k5 hc hl7 hs7
      gi_wp2_with (gi_at_builtin; refine wpIn_append1 elemWords rfl (.tmp 15) (.tmp 18) rfl w5.heap.size v pre.length (wcells (pre.map (·.2))) rfl MO.out W.heap.size [.int .u64 ((p2 : Nat) : Int)] rfl rfl ?c1 ?c2 ?c3 ?c4 ?c5)
      case c1 =>
        intro j u hj
        exact cell_laid HL7.out (by simpa using hj)
      case c2 => first | (intro u hu; simp at hu; subst hu; rfl) | rfl | exact hlen'
      try (case c3 => exact hlen')
      case c4 => omega
      case c5 =>
        intro v' W4 hown' hb8 hg8
        have n5 := (hb8.block b5 (by omega)).trans K5.out
        have hc10 := cell_laid (i := 0) (v := v) n5 rfl
        have hf10 := free_laid (i := 0) n5
        have N5 := hid n5
        obtain ⟨a', cap', rfl, -⟩ := Leads.of_own hown'
        have HO' := hid hown'
        clear n5 hown'
        gi_wp2
        have hK4 : KeepsOthers W3 W4 := KeepsOthers.of_grownBy hg8 fun j o hj ho => by
          rcases MO.out.2 with ⟨e, _⟩ | ⟨g, cap, cur, e, _, hh, _⟩
          · rw [e] at hj; cases hj
          · rw [e] at hj; cases hj; rw [hh] at ho; cases ho; rfl
        refine ⟨((keepsOthers_of_below hb7).trans hK4).trans (KeepsOthers.setCell _ _ _), ?_, .slice a' (pre.length + 1) cap', set_laid N5.out _, ?_, ?_, ?_⟩
        · intro k hk
          exact (Below.heap_setCell W4 ⟨b5, 0, none⟩ _ _ (by show k ≠ b5; omega)).trans ((hb8.block _ (by omega)).trans (hb7.block _ (by omega)))
        · have := HO'.out
          unfold wcells at *
          rw [List.length_append, List.map_append, List.map_append, hs5]
          exact ownsRow_setCell_below (a := ⟨b5, 0, none⟩) this (by show b5 < _; omega) _
        · exact (HBL.out.trans (hb8.mono (by omega))).setCell (by show w.heap.size ≤ b5; omega) _
        · exact Nat.le_trans hW3s (Nat.le_trans hb8.size (by simp [World.setCell]))
    case done =>
      rintro D xs W hD rfl ⟨v, k5, ho, hbl, hsz⟩ hK
      have hc5 := cell_laid (i := 0) (v := v) k5 rfl
      have KK := hid hK
      have HO := hid ho
      clear hK ho
      go_wp2
      refine leaves_mark KK.out (results_tmp (t := 4) rfl _ _ _) ⟨v, rfl, ?_, below_mark hbl (by omega) KK.out⟩
      rw [List.length_map]
      exact own_mark (own_base HO.out (by omega)) KK.out _
    case stop =>
      rintro D c pre W hD hS hF
      exact hF.elim
  · have HC := hid hC
    rw [if_neg h0]
    obtain ⟨E, hE⟩ : ∃ E, chk2E ms nx x = E := ⟨_, rfl⟩
    rw [hE] at HC h0
    have q : (E == 0) = false := by simpa using h0
    clear hC hl hl1 hs1 hok h h0 hE
    refine calls_of_wp_marks Try.func21 rfl ?_
    simp only [Try.ntmps21, List.size_toArray, List.length_cons, List.length_nil, Nat.reduceAdd, Nat.reduceSub, Array.replicate_succ, Array.replicate_zero, List.push_toArray, List.append_toArray, List.nil_append, List.cons_append]
    go_wp2_with fail
    refine HC.out.mono ?_
    rintro e w2 ⟨rfl, hb2⟩
    go_wp2
    exact leaves_none (results_tmp (t := 4) rfl _ _ _) ⟨.slice none 0 0, rfl, World.ownsRow_nil _ _ _ _, step hb1 hb2⟩
end Go.Proofs.Ytbfhppafffhlkaa
