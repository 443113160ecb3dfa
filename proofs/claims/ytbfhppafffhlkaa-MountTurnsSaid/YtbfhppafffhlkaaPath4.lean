/- A path that is read. -/
import Derived.Test.YtbfhppafffhlkaaPath3
namespace Go.Proofs.Ytbfhppafffhlkaa
open Go.RowKit Go.Shelf
open Go.Proofs
set_option linter.unusedVariables false
attribute [local go_sem] Oper.semAt_some

theorem elemTexts : Elem Try.prog 75 9 1 16 := Elem.mk' (z := .string ⟨#[]⟩) Try.underlying75 (by kernel_rfl) rfl (by decide) (by decide)
/-- The parts of a path; none: it is none. -/
def psOf (s : List UInt8) : List (List UInt8) := if s = [47] then [] else Pth.segs s
def rd (x : Nat) : Option (List (List UInt8)) := if Pl.textN (backL x) = x ∧ backL x ≠ [] ∧ okL (psOf (backL x)) = true ∧ numL (psOf (backL x)) = x then some (psOf (backL x)) else none

def noPath : Value := .tuple #[.agg #[.slice none 0 0, .int .u64 0], .bool false]
/-- What read gives. -/
def ReadP (x : Nat) (w : World) (e : Ending) (w' : World) : Prop := Below w.heap.size w w' ∧
  match rd x with
  | none => e = .returned noPath
  | some ps => ∃ v xs, e = .returned (.tuple #[.agg #[v, .int .u64 (x : Nat)], .bool true]) ∧ dl xs = ps ∧ w'.ownsRow w.heap.size 9 1 v xs.length (tcells xs)
theorem readP_none {x : Nat} {w w' : World} {e : Ending} (h : rd x = none) (hb : Below w.heap.size w w') (he : e = .returned noPath) : ReadP x w e w' := by unfold ReadP; rw [h]; exact ⟨hb, he⟩

theorem read_result {W : World} {b : Nat} {v0 v1 : Value} {tmps : Array Value} {q : Bool} (h : W.heap[b]? = some (.cells #[v0, v1] 77 (0, 0))) (hp : tmps[2]?.getD undef = .pointer (some ⟨b, 0, none⟩)) (hq : tmps[3]?.getD undef = .bool q) :
    (results Try.f39 tmps).run Try.prog W = .ok (.tuple #[.agg #[v0, v1], .bool q]) W := by
  have h0 := cell_laid (i := 0) (v := v0) h rfl
  have h1 := cell_laid (i := 1) (v := v1) h rfl
  simp [results, Try.results39, go_sem, hp, hq, h0, h1]

set_option maxRecDepth 100000 in
set_option maxHeartbeats 1000000 in
theorem read_early (x : Nat) (w : World) (hx : x < 18446744073709551616) (h : Pl.textN (backL x) ≠ x ∨ backL x = []) :
    Calls Try.prog 39 #[.int .u64 (x : Nat)] w (ReadP x w) := by
  have hno : rd x = none := by unfold rd; rw [if_neg]; rintro ⟨h1, h2, _⟩; rcases h with h | h; exact h h1; exact h2 h
  have HNO := hid hno
  have hB := fun W : World => Back_any x W hx
  by_cases ht : Pl.textN (backL x) = x
  · have hnil : backL x = [] := by rcases h with h | h; exact absurd ht h; exact h
    have e : backV x = .tuple #[.string ⟨#[]⟩, .int .i64 0] := by unfold backV; rw [if_pos ht, hnil]
    rw [e] at hB
    have HB := hid hB
    clear hno hB e hnil ht h
    obtain ⟨wa, hwa, hba, hsa, hla⟩ := laid w #[.slice none 0 0, .int .u64 0] 77
    have HA := hid hla
    clear hla hsa
    refine calls_of_wp_marks Try.func39 rfl ?_
    simp only [Try.ntmps39, List.size_toArray, List.length_cons, List.length_nil, Nat.reduceAdd, Nat.reduceSub, Array.replicate_succ, Array.replicate_zero, List.push_toArray, List.append_toArray, List.nil_append, List.cons_append]
    go_wp2
    go_step3
    go_wp2_with fail
    refine (HB.out _).mono ?_
    rintro e w1 ⟨rfl, hb1⟩
    have hl1 := keep_laid HA.out hb1
    have hc0 := cell_laid (i := 0) (v := .slice none 0 0) hl1 rfl
    have hc1 := cell_laid (i := 1) (v := .int .u64 0) hl1 rfl
    have hf0 := free_laid (i := 0) hl1
    have hf1 := free_laid (i := 1) hl1
    have hlt := lt_laid hl1
    have HL := hid hl1
    clear hl1
    go_wp2
    have hb4 := (Below.refl w.heap.size w1)
    refine leaves_none (v := noPath) (read_result (keep_laid (set_laid (set_laid HL.out _) _) (((Below.refl _ _).alloc (Nat.le_refl _) _).alloc (by simp) _)) rfl rfl) (readP_none HNO.out ?_ rfl)
    exact ((((step hba hb1).setCell (p := ⟨w.heap.size, 0, none⟩) (Nat.le_refl _) _).setCell (p := ⟨w.heap.size, 1, none⟩) (Nat.le_refl _) _).alloc (by simp; omega) _).alloc (by simp; omega) _
  · have e : backV x = .tuple #[.string ⟨#[]⟩, .int .i64 2] := by unfold backV; rw [if_neg ht]
    rw [e] at hB
    have HB := hid hB
    clear hno hB e ht h
    obtain ⟨wa, hwa, hba, hsa, hla⟩ := laid w #[.slice none 0 0, .int .u64 0] 77
    have HA := hid hla
    clear hla hsa
    refine calls_of_wp_marks Try.func39 rfl ?_
    simp only [Try.ntmps39, List.size_toArray, List.length_cons, List.length_nil, Nat.reduceAdd, Nat.reduceSub, Array.replicate_succ, Array.replicate_zero, List.push_toArray, List.append_toArray, List.nil_append, List.cons_append]
    go_wp2
    go_step3
    go_wp2_with fail
    refine (HB.out _).mono ?_
    rintro e w1 ⟨rfl, hb1⟩
    have hl1 := keep_laid HA.out hb1
    have hc0 := cell_laid (i := 0) (v := .slice none 0 0) hl1 rfl
    have hc1 := cell_laid (i := 1) (v := .int .u64 0) hl1 rfl
    have hf0 := free_laid (i := 0) hl1
    have hf1 := free_laid (i := 1) hl1
    have hlt := lt_laid hl1
    have HL := hid hl1
    clear hl1
    go_wp2
    have hb4 := (Below.refl w.heap.size w1)
    refine leaves_none (v := noPath) (read_result (keep_laid (set_laid (set_laid HL.out _) _) (((Below.refl _ _).alloc (Nat.le_refl _) _).alloc (by simp) _)) rfl rfl) (readP_none HNO.out ?_ rfl)
    exact ((((step hba hb1).setCell (p := ⟨w.heap.size, 0, none⟩) (Nat.le_refl _) _).setCell (p := ⟨w.heap.size, 1, none⟩) (Nat.le_refl _) _).alloc (by simp; omega) _).alloc (by simp; omega) _

theorem each_any (s : ByteArray) (w : World) : Calls Try.prog 49 #[.string s] w fun e w' => e = .returned (.func (.func 56) #[] #[.pointer (some ⟨w.heap.size, 0, none⟩)]) ∧ w' = w.alloc (.cells #[.string s] 9) := by
  go_enter Try.func49, Try.ntmps49
  go_wp2
  go_ret
  exact ⟨rfl, rfl⟩

/-- What the loop over the parts keeps: the text, the one word, the parts so far. -/
def Reads (w : World) (b2 b4 b6 b7 base : Nat) (S : ByteArray) (x : Nat) (pre : List ByteArray) (ok : Bool) (W : World) : Prop :=
  ∃ v, W.heap[b2]? = some (.cells #[.slice none 0 0, .int .u64 0] 77 (0, 0)) ∧ W.heap[b4]? = some (.cells #[.string S] 9 (0, 0)) ∧ W.heap[b7]? = some (.cells #[.bool ok] 4 (0, 0)) ∧
    W.heap[b6]? = some (.cells #[v, .int .u64 (x : Nat)] 77 (0, 0)) ∧ W.ownsRow base 9 1 v pre.length (tcells pre) ∧ Below w.heap.size w W ∧ base ≤ W.heap.size

theorem Reads.abide {w A B : World} {row : Option Nat} {b2 b4 b6 b7 base Bs x : Nat} {S : ByteArray} {pre : List ByteArray} {ok : Bool} (h : Reads w b2 b4 b6 b7 base S x pre ok A) (hg : A.grownBy B row)
    (hr : ∀ r, row = some r → r = Bs ∨ (base ≤ r ∧ ∃ o, A.heap[r]? = some o ∧ o.isCells = false)) (h2 : b2 ≠ Bs) (h4 : b4 ≠ Bs) (h6 : b6 ≠ Bs) (h7 : b7 ≠ Bs) (hb : Bs < base) (hw : w.heap.size ≤ Bs) : Reads w b2 b4 b6 b7 base S x pre ok B := by
  obtain ⟨v, k2, k4, k7, k6, ho, hbl, hsz⟩ := h
  exact ⟨v, cells_abide k2 hg hr h2, cells_abide k4 hg hr h4, cells_abide k7 hg hr h7, cells_abide k6 hg hr h6, own_abide ho hg hr hb, below_abide hbl hg hr hw (by omega), Nat.le_trans hsz hg.size⟩

set_option maxRecDepth 100000 in
set_option maxHeartbeats 2000000 in
theorem read_loop (x : Nat) (w : World) (hx : x < 18446744073709551616) (h1 : Pl.textN (backL x) = x) (h2 : backL x ≠ []) (h47 : backL x ≠ [47]) :
    Calls Try.prog 39 #[.int .u64 (x : Nat)] w (ReadP x w) := by
  have hps : psOf (backL x) = Pth.segs (backL x) := by unfold psOf; rw [if_neg h47]
  have hl8 : (backL x).length ≤ 8 := backGo_len 8 x
  obtain ⟨S, hS⟩ : ∃ S : ByteArray, S = ⟨(backL x).toArray⟩ := ⟨_, rfl⟩
  have hSd : S.data.toList = backL x := by rw [hS]
  have hSz : S.size ≤ 8 := by rw [Lib.size_eq, hSd]; exact hl8
  have e : backV x = .tuple #[.string S, .int .i64 0] := by unfold backV; rw [if_pos h1, hS]
  have hB := fun W : World => Back_any x W hx
  rw [e] at hB
  have HB := hid hB
  have hne : ¬ S.toList = [] := by rw [Lib.toList_data, hSd]; exact h2
  have hne' : S.toList.isEmpty = false := by rw [Lib.toList_data, hSd]; simpa using h2
  have hne47 : ¬ S.toList = [47] := by rw [Lib.toList_data, hSd]; exact h47
  have hne47' : (S.toList == [47]) = false := by rw [Lib.toList_data, hSd]; simpa using h47
  have HPS := hid hps
  have HSD := hid hSd
  clear hB e hS hps hSd h47 h2
  obtain ⟨wa, hwa, hba, hsa, hla⟩ := laid w #[.slice none 0 0, .int .u64 0] 77
  have HA := hid hla
  clear hla hsa
  refine calls_of_wp_marks Try.func39 rfl ?_
  simp only [Try.ntmps39, List.size_toArray, List.length_cons, List.length_nil, Nat.reduceAdd, Nat.reduceSub, Array.replicate_succ, Array.replicate_zero, List.push_toArray, List.append_toArray, List.nil_append, List.cons_append]
  go_wp2
  go_step3
  go_wp2_with fail
  refine (HB.out _).mono ?_
  rintro e w1 ⟨rfl, hb1⟩
  obtain ⟨w2, hw2, hb2, hs2, hl2⟩ := laid w1 #[.string S] 9
  obtain ⟨w3, hw3, hb3, hs3, hl3⟩ := laid w2 #[.slice none 0 0, .int .u64 (x : Nat)] 77
  obtain ⟨w4, hw4, hb4, hs4, hl4⟩ := laid w3 #[.bool true] 4
  obtain ⟨w5, hw5, hb5, hs5, hl5⟩ := laid w4 #[.string S] 9
  have hc2 := cell_laid (i := 0) (v := .string S) (keep_laid hl2 hb3) rfl
  have hc2' := cell_laid (i := 0) (v := .string S) (keep_laid (keep_laid hl2 hb3) hb4) rfl
  go_wp2_with (go_at_call 49; refine (each_any S _).mono ?_; rintro e w' ⟨rfl, rfl⟩)
  go_step3
  go_wp2_with (go_at_call 49; refine (each_any S _).mono ?_; rintro e w' ⟨rfl, rfl⟩)
  obtain ⟨b4, eb4⟩ : ∃ b, w1.heap.size = b := ⟨_, rfl⟩
  have L2 := keep_laid (keep_laid (keep_laid (keep_laid (keep_laid HA.out hb1) hb2) hb3) hb4) hb5
  have L4 := keep_laid (keep_laid (keep_laid hl2 hb3) hb4) hb5
  have L6 := keep_laid (keep_laid hl3 hb4) hb5
  have L7 := keep_laid hl4 hb5
  have hlt2 := lt_laid (keep_laid HA.out hb1)
  have hB5 := step (step (step (step (step hba hb1) hb2) hb3) hb4) hb5
  rw [hs2, eb4] at hs3 L6
  rw [hs3] at hs4 L7
  rw [hs4] at hs5 hl5
  rw [eb4] at L4 hlt2 ⊢
  clear hc2 hc2' hw2 hw3 hw4 hw5 hl2 hl3 hl4 hs2 hs3 hs4 hwa
  refine wp_range (Bs := b4 + 1 + 1 + 1) (gf := 56) (lb := #[.pointer (some ⟨b4 + 1 + 1 + 1, 0, none⟩)]) rfl (enters_of Try.func56 (by kernel_rfl) rfl)
    (each_seq (b4 + 1 + 1 + 1) _ S (by omega)) (fun k hk => by subst hk; omega) (by omega)
    (fun o o' => ?hR) (fun _ => rfl)
    (fun pre W => allParts pre = true ∧ Reads w w.heap.size b4 (b4 + 1) (b4 + 1 + 1) w5.heap.size S x pre true W)
    (fun c pre W => c = .exit 0 ∧ ∃ pre0 x0, pre = pre0 ++ [x0] ∧ partB x0.data.toList = false ∧ Reads w w.heap.size b4 (b4 + 1) (b4 + 1 + 1) w5.heap.size S x pre0 false W)
    ?hI ?hIx ?h0 (fun t y => (t.setIfInBounds 27 (.string y)).setIfInBounds 8 (.string y)) ?assign ?body ?done ?stop
  case hR => exact keep_laid (keep_laid hl5 ((Below.refl _ _).alloc (Nat.le_refl _) _)) ((Below.refl _ _).alloc (Nat.le_refl _) _)
  case hI => exact fun s A B row hs hg hr => ⟨hs.1, hs.2.abide hg hr (by omega) (by omega) (by omega) (by omega) (by omega) (by omega)⟩
  case hIx => exact fun c s A B row hs hg hr => by obtain ⟨e, p0, x0, e1, e2, h⟩ := hs; exact ⟨e, p0, x0, e1, e2, h.abide hg hr (by omega) (by omega) (by omega) (by omega) (by omega) (by omega)⟩
  case h0 => exact ⟨rfl, _, L2, L4, L7, L6, World.ownsRow_nil _ _ _ _, hB5, Nat.le_refl _⟩
  case assign =>
    intro l y W K hK
    gi_wp2
    exact hK
  case body =>
    rintro l pre y W ⟨hall, v, k2, k4, k7, k6, ho, hbl, hbs⟩ hlen
    have hsW := hbl.size
    have hP := part_any y W
    have hc4 := cell_laid (i := 0) (v := .string S) k4 rfl
    have HO := hid ho
    have K2 := hid k2
    have K4 := hid k4
    have K6 := hid k6
    have K7 := hid k7
    have HALL := hid hall
    clear ho k2 k4 k6 k7 hall
    cases hp : partB y.data.toList with
    | false =>
      rw [hp] at hP
      have HP := hid hP
      have HPY := hid hp
      clear hP hp
      gi_wp2_with fail
      refine ⟨trivial, ?_⟩
      refine (CallsIn.inRound l (callsIn_wide.2 HP.out)).mono ?_
      rintro e W1 ⟨rfl, hb6⟩
      have k7' := keep_laid K7.out hb6
      have hc7 := cell_laid (i := 0) (v := .bool true) k7' rfl
      have hf7 := free_laid (i := 0) k7'
      have K7' := hid k7'
      have hset := set_laid (i := 0) k7' (.bool false)
      have hc7' := cell_laid (i := 0) (v := .bool false) hset rfl
      clear k7' hset
      gi_wp2
      refine ⟨(keepsOthers_of_below hb6).trans (KeepsOthers.setCell _ _ _), rfl, pre, y, rfl, HPY.out, v, ?_, ?_, ?_, ?_, ?_, ?_, ?_⟩
      · exact other_laid (keep_laid K2.out hb6) (by omega) _
      · exact other_laid (keep_laid K4.out hb6) (by omega) _
      · exact set_laid K7'.out _
      · exact other_laid (keep_laid K6.out hb6) (by omega) _
      · exact ownsRow_setCell_below (own_grow HO.out hb6) (by show b4 + 1 + 1 < _; omega) _
      · exact (step hbl hb6).setCell (by show w.heap.size ≤ b4 + 1 + 1; omega) _
      · exact Nat.le_trans hbs (Nat.le_trans hb6.size (by simp [World.setCell]))
    | true =>
      rw [hp] at hP
      have HP := hid hP
      have HPY := hid hp
      clear hP hp
      gi_wp2_with fail
      refine ⟨trivial, ?_⟩
      refine (CallsIn.inRound l (callsIn_wide.2 HP.out)).mono ?_
      rintro e W1 ⟨rfl, hb6⟩
      have k7' := keep_laid K7.out hb6
      have hc7 := cell_laid (i := 0) (v := .bool true) k7' rfl
      have hf7 := free_laid (i := 0) k7'
      have hW1 := hb6.size
      obtain ⟨W2, hW2⟩ : ∃ W2, W1.setCell ⟨b4 + 1 + 1, 0, none⟩ (.bool true) = W2 := ⟨_, rfl⟩
      have m7 : W2.heap[b4 + 1 + 1]? = some (.cells #[.bool true] 4 (0, 0)) := by rw [← hW2]; exact set_laid k7' _
      have m2 : W2.heap[w.heap.size]? = some (.cells #[.slice none 0 0, .int .u64 0] 77 (0, 0)) := by rw [← hW2]; exact other_laid (keep_laid K2.out hb6) (by omega) _
      have m4 : W2.heap[b4]? = some (.cells #[.string S] 9 (0, 0)) := by rw [← hW2]; exact other_laid (keep_laid K4.out hb6) (by omega) _
      have m6 : W2.heap[b4 + 1]? = some (.cells #[v, .int .u64 (x : Nat)] 77 (0, 0)) := by rw [← hW2]; exact other_laid (keep_laid K6.out hb6) (by omega) _
      have m8 : W2.heap[b4 + 1 + 1 + 1]? = W.heap[b4 + 1 + 1 + 1]? := by rw [← hW2]; exact (Below.heap_setCell W1 ⟨b4 + 1 + 1, 0, none⟩ _ _ (by show b4 + 1 + 1 + 1 ≠ b4 + 1 + 1; omega)).trans (hb6.block _ (by omega))
      have mo : W2.ownsRow w5.heap.size 9 1 v pre.length (tcells pre) := by rw [← hW2]; exact ownsRow_setCell_below (own_grow HO.out hb6) (by show b4 + 1 + 1 < _; omega) _
      have mb : Below w.heap.size w W2 := by rw [← hW2]; exact (step hbl hb6).setCell (by show w.heap.size ≤ b4 + 1 + 1; omega) _
      have mk : KeepsOthers W W2 := by rw [← hW2]; exact (keepsOthers_of_below hb6).trans (KeepsOthers.setCell _ _ _)
      have ms : W2.heap.size = W1.heap.size := by rw [← hW2]; simp [World.setCell]
      obtain ⟨W3, hW3, hb7, hs7, hl7⟩ := laid W2 #[.string y] 9
      have hc9 := cell_laid (i := 0) (v := .bool true) m7 rfl
      have hc6 := cell_laid (i := 0) (v := v) m6 rfl
      have M2 := hid (keep_laid m2 hb7)
      have M4 := hid (keep_laid m4 hb7)
      have M6 := hid (keep_laid m6 hb7)
      have M7 := hid (keep_laid m7 hb7)
      have M8 := hid m8
      have MO := hid (own_grow mo hb7)
      have MK := hid mk
      have HL7 := hid hl7
      have hW3s : w5.heap.size ≤ W3.heap.size := by omega
      have ms' : W1.heap.size ≤ W2.heap.size := by omega
      have K7' := hid k7'
      clear k7' m2 m4 m6 m7 m8 mo mk hl7 ms
      gi_wp2_with (gi_at_builtin; refine wpIn_append1 elemTexts rfl (.tmp 35) (.tmp 37) rfl w5.heap.size v pre.length (tcells pre) rfl MO.out W2.heap.size [.string y] rfl rfl ?c1 ?c2 ?c3 ?c4 ?c5)
      case c1 =>
        intro j u hj
        exact cell_laid HL7.out (by simpa using hj)
      case c2 => intro u hu; simp at hu; subst hu; rfl
      case c3 => omega
      case c4 => exact hW3s
      case c5 =>
        intro v' W4 hown' hb8 hg8
        have n6 := (hb8.block (b4 + 1) (by omega)).trans M6.out
        have hc10 := cell_laid (i := 0) (v := v) n6 rfl
        have hf10 := free_laid (i := 0) n6
        have N6 := hid n6
        obtain ⟨a', cap', rfl, -⟩ := Leads.of_own hown'
        have HO' := hid hown'
        clear n6 hown'
        gi_wp2
        have hK4 : KeepsOthers W3 W4 := KeepsOthers.of_grownBy hg8 fun j o hj ho => by
          rcases MO.out.2 with ⟨e, _⟩ | ⟨g, cap, cur, e, _, hh, _⟩
          · rw [e] at hj; cases hj
          · rw [e] at hj; cases hj; rw [hh] at ho; cases ho; rfl
        refine ⟨((MK.out.trans (keepsOthers_of_below hb7)).trans hK4).trans (KeepsOthers.setCell _ _ _), ?_, ?_, ?_⟩
        · intro k hk
          subst hk
          exact (Below.heap_setCell W4 ⟨b4 + 1, 0, none⟩ _ _ (by show b4 + 1 + 1 + 1 ≠ b4 + 1; omega)).trans ((hb8.block _ (by omega)).trans ((hb7.block _ (by omega)).trans M8.out))
        · have := HALL.out
          unfold allParts at *
          rw [List.all_append, this]; simp [HPY.out]
        · refine ⟨.slice a' (pre.length + 1) cap', ?_, ?_, ?_, ?_, ?_, ?_, ?_⟩
          · exact other_laid ((hb8.block _ (by omega)).trans M2.out) (by omega) _
          · exact other_laid ((hb8.block _ (by omega)).trans M4.out) (by omega) _
          · exact other_laid ((hb8.block _ (by omega)).trans M7.out) (by omega) _
          · exact set_laid N6.out _
          · have := HO'.out
            unfold tcells at *
            rw [List.length_append, List.map_append]
            rw [hs5]
            exact ownsRow_setCell_below (a := ⟨b4 + 1, 0, none⟩) this (by show b4 + 1 < _; omega) _
          · exact ((step mb hb7).trans (hb8.mono (by omega))).setCell (by show w.heap.size ≤ b4 + 1; omega) _
          · exact Nat.le_trans hW3s (Nat.le_trans hb8.size (by simp [World.setCell]))
  case done =>
    rintro D xs W hD hS ⟨hall, v, k2, k4, k7, k6, ho, hbl, hbs⟩ hK
    have hS' : dl xs = psOf (backL x) := by rw [HPS.out, ← HSD.out]; exact hS
    have htot : Pth.tot (dl xs) ≤ 8 := by
      have := Pth.segs_tot (backL x)
      rw [hS', HPS.out]; omega
    have hjl := Pth.join_tot (dl xs)
    have hxl := Pth.len_tot (dl xs)
    have hdl : (dl xs).length = xs.length := by unfold dl; rw [List.length_map]
    obtain ⟨n, hn⟩ : ∃ n, xs.length = n := ⟨_, rfl⟩
    rw [hn] at ho hdl
    obtain ⟨a', cap', rfl, hld⟩ := Leads.of_own ho
    have hW := word_any xs a' n cap' W hn hld (by omega) (by omega)
    have hc6 := cell_laid (i := 0) (v := .slice a' n cap') k6 rfl
    have hDW := lt_laid hK
    have HO := hid ho
    have K2 := hid k2
    have K6 := hid k6
    have K7 := hid k7
    have KK := hid hK
    have HN := hid hn
    have HSX := hid hS'
    clear ho k2 k4 k6 k7 hK hld hn hS hdl hxl hjl htot
    unfold wordV at hW
    have hbs2 := hbl.size
    have hcase : (okL (dl xs) = true ∧ numL (dl xs) = x) ∨ rd x = none := by
      by_cases h : okL (dl xs) = true ∧ numL (dl xs) = x
      · exact .inl h
      · right; unfold rd; rw [if_neg]; rintro ⟨_, _, h3, h4⟩; exact h (by rw [HSX.out]; exact ⟨h3, h4⟩)
    cases hok : okL (dl xs) with
    | false =>
      have HR : Hid (rd x = none) := hid (by rcases hcase with ⟨h, _⟩ | h; rw [h] at hok; cases hok; exact h)
      rw [hok] at hW
      have HW := hid hW
      clear hW hcase hok
      go_wp2_with fail
      refine HW.out.mono ?_
      rintro e W1 ⟨rfl, hb6⟩
      have k2' := keep_laid K2.out hb6
      have k7' := keep_laid K7.out hb6
      have hc7 := cell_laid (i := 0) (v := .bool true) k7' rfl
      have hc0 := cell_laid (i := 0) (v := .slice none 0 0) k2' rfl
      have hc1 := cell_laid (i := 1) (v := .int .u64 0) k2' rfl
      have hf0 := free_laid (i := 0) k2'
      have hf1 := free_laid (i := 1) k2'
      have K2' := hid k2'
      clear k2' k7'
      go_wp2
      have hD2 : w.heap.size ≠ D := by omega
      have hK2 := other_laid (i := 1) (other_laid (i := 0) (keep_laid KK.out hb6) hD2.symm (.slice none 0 0)) hD2.symm (.int .u64 0)
      refine leaves_mark (v := noPath) hK2 (read_result (mark_other (set_laid (set_laid K2'.out _) _) hK2 _) rfl rfl) (readP_none HR.out (below_mark ?_ (by omega) hK2) rfl)
      exact ((step hbl hb6).setCell (p := ⟨w.heap.size, 0, none⟩) (Nat.le_refl _) _).setCell (p := ⟨w.heap.size, 1, none⟩) (Nat.le_refl _) _
    | true =>
      rw [hok] at hW
      obtain ⟨N, hN⟩ : ∃ N, numL (dl xs) = N := ⟨_, rfl⟩
      rw [hN] at hW hcase
      have HW := hid hW
      by_cases hNx : N = x
      · have hnn : backL x ≠ [] := by
          intro h
          rw [Lib.toList_data, HSD.out] at hne
          exact hne h
        have ho3 : okL (psOf (backL x)) = true := HSX.out ▸ hok
        have ho4 : numL (psOf (backL x)) = x := HSX.out ▸ (hN.trans hNx)
        have HR : Hid (rd x = some (dl xs)) := hid (by unfold rd; rw [if_pos ⟨h1, hnn, ho3, ho4⟩, HSX.out])
        clear hnn ho3 ho4
        have hNx' : (((N : Nat) : Int) != (x : Nat)) = false := by rw [hNx]; simp
        clear hW hcase hok hN hNx
        go_wp2_with fail
        refine HW.out.mono ?_
        rintro e W1 ⟨rfl, hb6⟩
        have k2' := keep_laid K2.out hb6
        have k6' := keep_laid K6.out hb6
        have k7' := keep_laid K7.out hb6
        have hc7 := cell_laid (i := 0) (v := .bool true) k7' rfl
        have hc0 := cell_laid (i := 0) (v := .slice none 0 0) k2' rfl
        have hc1 := cell_laid (i := 1) (v := .int .u64 0) k2' rfl
        have hf0 := free_laid (i := 0) k2'
        have hf1 := free_laid (i := 1) k2'
        have hc60 := cell_laid (i := 0) (v := .slice a' n cap') k6' rfl
        have hc61 := cell_laid (i := 1) (v := .int .u64 (x : Nat)) k6' rfl
        have K2' := hid k2'
        clear k2' k7' k6'
        go_wp2
        have hD2 : w.heap.size ≠ D := by omega
        have hK2 := other_laid (i := 1) (other_laid (i := 0) (keep_laid KK.out hb6) hD2.symm (.slice a' n cap')) hD2.symm (.int .u64 (x : Nat))
        refine leaves_mark (v := .tuple #[.agg #[.slice a' n cap', .int .u64 (x : Nat)], .bool true]) hK2 (read_result (mark_other (set_laid (set_laid K2'.out _) _) hK2 _) rfl rfl) ?_
        refine ⟨below_mark ?_ (by omega) hK2, ?_⟩
        · exact ((step hbl hb6).setCell (p := ⟨w.heap.size, 0, none⟩) (Nat.le_refl _) _).setCell (p := ⟨w.heap.size, 1, none⟩) (Nat.le_refl _) _
        · rw [HR.out]
          refine ⟨_, xs, rfl, rfl, ?_⟩
          rw [HN.out]
          have h1 := ownsRow_setCell_below (a := ⟨w.heap.size, 1, none⟩) (ownsRow_setCell_below (a := ⟨w.heap.size, 0, none⟩) (own_grow HO.out hb6) (by show w.heap.size < _; omega) (.slice a' n cap')) (by show w.heap.size < _; omega) (.int .u64 (x : Nat))
          exact own_mark (own_base h1 (by omega)) hK2 _
      · have HR : Hid (rd x = none) := hid (by rcases hcase with ⟨_, h⟩ | h; exact absurd h hNx; exact h)
        have hNx' : (((N : Nat) : Int) != (x : Nat)) = true := by simp; omega
        clear hW hcase hok hN hNx
        go_wp2_with fail
        refine HW.out.mono ?_
        rintro e W1 ⟨rfl, hb6⟩
        have k2' := keep_laid K2.out hb6
        have k7' := keep_laid K7.out hb6
        have hc7 := cell_laid (i := 0) (v := .bool true) k7' rfl
        have hc0 := cell_laid (i := 0) (v := .slice none 0 0) k2' rfl
        have hc1 := cell_laid (i := 1) (v := .int .u64 0) k2' rfl
        have hf0 := free_laid (i := 0) k2'
        have hf1 := free_laid (i := 1) k2'
        have K2' := hid k2'
        clear k2' k7'
        go_wp2
        have hD2 : w.heap.size ≠ D := by omega
        have hK2 := other_laid (i := 1) (other_laid (i := 0) (keep_laid KK.out hb6) hD2.symm (.slice none 0 0)) hD2.symm (.int .u64 0)
        refine leaves_mark (v := noPath) hK2 (read_result (mark_other (set_laid (set_laid K2'.out _) _) hK2 _) rfl rfl) (readP_none HR.out (below_mark ?_ (by omega) hK2) rfl)
        exact ((step hbl hb6).setCell (p := ⟨w.heap.size, 0, none⟩) (Nat.le_refl _) _).setCell (p := ⟨w.heap.size, 1, none⟩) (Nat.le_refl _) _
  case stop =>
    rintro D c pre W hD ⟨r, hSp⟩ ⟨rfl, pre0, x0, rfl, hno, v, k2, k4, k7, k6, ho, hbl, hbs⟩ hK
    have HR : Hid (rd x = none) := hid (by
      unfold rd
      rw [if_neg]
      rintro ⟨_, _, h3, _⟩
      unfold okL at h3
      rw [HPS.out, ← HSD.out, hSp] at h3
      simp [hno] at h3)
    have htot : Pth.tot (dl pre0) ≤ 8 := by
      have := Pth.segs_tot S.data.toList
      rw [hSp, List.map_append, Pth.tot_append, Pth.tot_append, HSD.out] at this
      unfold dl; omega
    have hjl := Pth.join_tot (dl pre0)
    have hxl := Pth.len_tot (dl pre0)
    have hdl : (dl pre0).length = pre0.length := by unfold dl; rw [List.length_map]
    obtain ⟨n, hn⟩ : ∃ n, pre0.length = n := ⟨_, rfl⟩
    rw [hn] at ho hdl
    obtain ⟨a', cap', rfl, hld⟩ := Leads.of_own ho
    have hW := word_any pre0 a' n cap' W hn hld (by omega) (by omega)
    unfold wordV at hW
    obtain ⟨N, hN⟩ : ∃ N, numL (dl pre0) = N := ⟨_, rfl⟩
    obtain ⟨q, hq⟩ : ∃ N, okL (dl pre0) = N := ⟨_, rfl⟩
    rw [hN, hq] at hW
    have HW := hid hW
    have hc6 := cell_laid (i := 0) (v := .slice a' n cap') k6 rfl
    have hbs2 := hbl.size
    have K2 := hid k2
    have K7 := hid k7
    have KK := hid hK
    clear ho k2 k4 k6 k7 hK hld hn hSp hdl hxl hjl htot hW hN hq hno
    go_wp2_with fail
    refine HW.out.mono ?_
    rintro e W1 ⟨rfl, hb6⟩
    have k2' := keep_laid K2.out hb6
    have k7' := keep_laid K7.out hb6
    have hc7 := cell_laid (i := 0) (v := .bool false) k7' rfl
    have hc0 := cell_laid (i := 0) (v := .slice none 0 0) k2' rfl
    have hc1 := cell_laid (i := 1) (v := .int .u64 0) k2' rfl
    have hf0 := free_laid (i := 0) k2'
    have hf1 := free_laid (i := 1) k2'
    have K2' := hid k2'
    clear k2' k7'
    go_wp2
    have hD2 : w.heap.size ≠ D := by omega
    have hK2 := other_laid (i := 1) (other_laid (i := 0) (keep_laid KK.out hb6) hD2.symm (.slice none 0 0)) hD2.symm (.int .u64 0)
    refine leaves_mark (v := noPath) hK2 (read_result (mark_other (set_laid (set_laid K2'.out _) _) hK2 _) rfl rfl) (readP_none HR.out (below_mark ?_ (by omega) hK2) rfl)
    exact ((step hbl hb6).setCell (p := ⟨w.heap.size, 0, none⟩) (Nat.le_refl _) _).setCell (p := ⟨w.heap.size, 1, none⟩) (Nat.le_refl _) _
end Go.Proofs.Ytbfhppafffhlkaa
