/- Scripts: Runs. -/
import Derived.Test.YtpehnahmdfoobaaDoorScript3
import Derived.Lib.SliceRun
namespace Go.Proofs.YtpehnahmdfoobaaDoor
open Go.RowKit Go.Shelf
open Go.Proofs
set_option linter.unusedVariables false
attribute [local go_sem] Oper.semAt_some

def rcells (l : List (Int × Nat)) : List Value := l.flatMap fun p => [.int .i64 p.1, .int .i64 ((p.2 : Nat) : Int)]
theorem rcells_len (l : List (Int × Nat)) : (rcells l).length = l.length * 2 := by
  induction l with
  | nil => rfl
  | cons p r ih =>
    unfold rcells at *
    rw [List.flatMap_cons, List.length_append, ih, List.length_cons]
    simp only [List.length_cons, List.length_nil]
    omega
theorem elemPairs : Elem Tryd.prog 24 26 2 16 := Elem.mk' (z := .agg #[.int .i64 0, .int .i64 0]) Tryd.underlying24 (by kernel_rfl) rfl (by decide) (by decide)

theorem runs_any (a : Option Addr) (n cap : Nat) (w : World) :
    Calls Tryd.prog 25 #[.slice a n cap] w (fun e w' => e = .returned (.func (.func 40) #[] #[.pointer (some ⟨w.heap.size, 0, none⟩)]) ∧ w' = w.alloc (.cells #[.slice a n cap] 22)) := by
  go_enter Tryd.func25, Tryd.ntmps25
  go_wp2
  go_ret
  exact ⟨rfl, rfl⟩

/-- What the loop over the runs has made. -/
def RunsI (w : World) (b5 base : Nat) (pre : List (Int × Nat)) (W : World) : Prop :=
  ∃ v, W.heap[b5]? = some (.cells #[v] 24 (0, 0)) ∧ W.ownsRow base 26 2 v pre.length (rcells pre) ∧ Below w.heap.size w W ∧ base ≤ W.heap.size
theorem RunsI.abide {w A B : World} {row : Option Nat} {b5 base Bs : Nat} {pre : List (Int × Nat)} (h : RunsI w b5 base pre A) (hg : A.grownBy B row)
    (hr : ∀ r, row = some r → r = Bs ∨ (base ≤ r ∧ ∃ o, A.heap[r]? = some o ∧ o.isCells = false)) (h5 : b5 ≠ Bs) (hb : Bs < base) (hw : w.heap.size ≤ Bs) : RunsI w b5 base pre B := by
  obtain ⟨v, k5, ho, hbl, hsz⟩ := h
  exact ⟨v, cells_abide k5 hg hr h5, own_abide ho hg hr hb, below_abide hbl hg hr hw (by omega), Nat.le_trans hsz hg.size⟩
/-- A call gives a row of pairs. -/
def PairsP (ps : List (Int × Nat)) (w : World) (e : Ending) (w' : World) : Prop :=
  ∃ v, e = .returned v ∧ w'.ownsRow w.heap.size 26 2 v ps.length (rcells ps) ∧ Below w.heap.size w w'

set_option maxRecDepth 100000 in
set_option maxHeartbeats 2000000 in
theorem Runs_any (l : List Int) (a : Option Addr) (n cap : Nat) (w : World) (hl : l.length = n) (hn : n ≤ 5000) (h : Leads w a n cap (icells l)) :
    Calls Tryd.prog 9 #[.slice a n cap] w (PairsP (runsL l) w) := by
  obtain ⟨w1, hw1, hb1, hs1, hl1⟩ := laid w #[.slice none 0 0] 24
  have HR := hid fun W => runs_any a n cap W
  have H := hid h
  have HL := hid hl
  have hnc := h.len.1
  clear h hl
  refine calls_of_wp_marks Tryd.func9 rfl ?_
  simp only [Tryd.ntmps9, List.size_toArray, List.length_cons, List.length_nil, Nat.reduceAdd, Nat.reduceSub, Array.replicate_succ, Array.replicate_zero, List.push_toArray, List.append_toArray, List.nil_append, List.cons_append]
  obtain ⟨w2, hw2, hb2, hs2, hl2⟩ := laid w1 #[.slice a n cap] 22
  go_wp2_with fail
  refine (HR.out _).mono ?_
  rintro e w6 ⟨rfl, hw6⟩
  rw [hw2] at hw6
  rw [hw6]
  clear hw6 w6
  have L1 := keep_laid hl1 hb2
  have hB2 := step hb1 hb2
  obtain ⟨b5, eb5⟩ : ∃ b, w.heap.size = b := ⟨_, rfl⟩
  rw [eb5] at hs1 L1
  rw [hs1] at hs2 hl2
  rw [hs1]
  have hwb5 : w.heap.size ≤ b5 := by omega
  have HWB : Hid (b5 = w.heap.size) := hid eb5.symm
  clear hl1 hs1 hw1 hw2
  go_wp2
  refine wp_range (Bs := b5 + 1) (gf := 40) (lb := #[.pointer (some ⟨b5 + 1, 0, none⟩)]) rfl (enters_of Tryd.func40 (by kernel_rfl) rfl)
    (runs_seq (b5 + 1) _ w l a n cap HL.out hn H.out (by omega)) (fun k hk => by omega) (by omega)
    (fun o o' => ?hR) (fun _ => rfl)
    (fun pre W => RunsI w b5 w2.heap.size pre W)
    (fun c pre W => False)
    ?hI ?hIx ?h0 (fun t p => (t.setIfInBounds 8 (.int .i64 p.1)).setIfInBounds 9 (.int .i64 ((p.2 : Nat) : Int)) |>.setIfInBounds 4 (.int .i64 p.1) |>.setIfInBounds 5 (.int .i64 ((p.2 : Nat) : Int))) ?assign ?body ?done ?stop
  case hR =>
    have g1 := (Below.refl w2.heap.size w2).alloc (Nat.le_refl _) o
    have g2 : Below w2.heap.size w2 ((w2.alloc o).alloc o') := g1.alloc (Nat.le_of_lt (by simp)) o'
    refine ⟨fun k hk => (hB2.trans (g2.mono (by omega))).block k hk, keep_laid hl2 g2⟩
  case hI => exact fun s A B row hs hg hr => hs.abide hg hr (by omega) (by omega) (by omega)
  case hIx => exact fun c s A B row hs hg hr => hs
  case h0 => exact ⟨_, L1, World.ownsRow_nil _ _ _ _, hB2, Nat.le_refl _⟩
  case assign =>
    rintro lb ⟨p1, p2⟩ W K hK
    gi_wp2
    exact hK
  case body =>
    rintro lb pre ⟨p1, p2⟩ W ⟨v, k5, ho, hbl, hsz⟩ hlen
    have hsW := hbl.size
    have hc5 := cell_laid (i := 0) (v := v) k5 rfl
    obtain ⟨W3, hW3, hb7, hs7, hl7⟩ := laid W #[.int .i64 p1, .int .i64 ((p2 : Nat) : Int)] 26
    have K5 := hid (keep_laid k5 hb7)
    have MO := hid (own_grow ho hb7)
    have HL7 := hid hl7
    have hW3s : w2.heap.size ≤ W3.heap.size := by omega
    have HBL := hid (step hbl hb7)
    have hlen' : pre.length ≤ 1000000 := by omega
    clear ho k5 hl7 hs7
    gi_wp2_with (gi_at_builtin; refine wpIn_append1 elemPairs rfl (.tmp 10) (.tmp 14) rfl w2.heap.size v pre.length (rcells pre) rfl MO.out W.heap.size [.int .i64 p1, .int .i64 ((p2 : Nat) : Int)] rfl rfl ?c1 ?c2 ?c3 ?c4 ?c5)
    case c1 =>
      intro j u hj
      exact cell_laid HL7.out (by simpa using hj)
    case c2 => first | (intro u hu; simp at hu; rcases hu with rfl | rfl <;> rfl) | simp [Value.oneCell'] | exact hlen'
    try (case c3 => exact hlen')
    case c4 => omega
    case c5 =>
      intro v' W4 hown' hb8 hg8
      have n5 := (hb8.block b5 (by omega)).trans K5.out
      have hc10 := cell_laid (i := 0) (v := v) n5 rfl
      have hf10 := free_laid (i := 0) n5
      have N5 := hid n5
      obtain ⟨a', cap', rfl, -⟩ := Leads.of_own hown'
      have HO' := hid hown'
      clear n5 hown'
      gi_wp2
      have hK4 : KeepsOthers W3 W4 := KeepsOthers.of_grownBy hg8 fun j o hj ho => by
        rcases MO.out.2 with ⟨e, _⟩ | ⟨g, cap, cur, e, _, hh, _⟩
        · rw [e] at hj; cases hj
        · rw [e] at hj; cases hj; rw [hh] at ho; cases ho; rfl
      refine ⟨((keepsOthers_of_below hb7).trans hK4).trans (KeepsOthers.setCell _ _ _), ?_, .slice a' (pre.length + 1) cap', set_laid N5.out _, ?_, ?_, ?_⟩
      · intro k hk
        exact (Below.heap_setCell W4 ⟨b5, 0, none⟩ _ _ (by show k ≠ b5; omega)).trans ((hb8.block _ (by omega)).trans (hb7.block _ (by omega)))
      · have := HO'.out
        unfold rcells at *
        rw [List.length_append, List.flatMap_append, hs2]
        exact ownsRow_setCell_below (a := ⟨b5, 0, none⟩) this (by show b5 < _; omega) _
      · exact (HBL.out.trans (hb8.mono (by omega))).setCell (by show w.heap.size ≤ b5; omega) _
      · exact Nat.le_trans hW3s (Nat.le_trans hb8.size (by simp [World.setCell]))
  case done =>
    rintro D xs W hD rfl ⟨v, k5, ho, hbl, hsz⟩ hK
    have hc5 := cell_laid (i := 0) (v := v) k5 rfl
    have KK := hid hK
    have HO := hid ho
    clear hK ho
    go_wp2
    refine leaves_mark KK.out (results_tmp (t := 2) rfl _ _ _) ⟨v, rfl, ?_, below_mark hbl (by omega) KK.out⟩
    exact own_mark (own_base HO.out (by omega)) KK.out _
  case stop =>
    rintro D c pre W hD hS hF
    exact hF.elim
end Go.Proofs.YtpehnahmdfoobaaDoor
