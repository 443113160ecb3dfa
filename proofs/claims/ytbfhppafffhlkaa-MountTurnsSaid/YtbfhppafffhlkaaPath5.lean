/- A path that is read: the root; all. -/
import Derived.Test.YtbfhppafffhlkaaPath4
namespace Go.Proofs.Ytbfhppafffhlkaa
open Go.RowKit Go.Shelf
open Go.Proofs
set_option linter.unusedVariables false
attribute [local go_sem] Oper.semAt_some

set_option maxRecDepth 100000 in
set_option maxHeartbeats 2000000 in
theorem read_root (x : Nat) (w : World) (hx : x < 18446744073709551616) (h1 : Pl.textN (backL x) = x) (h47 : backL x = [47]) :
    Calls Try.prog 39 #[.int .u64 (x : Nat)] w (ReadP x w) := by
  have hl8 : (backL x).length ≤ 8 := backGo_len 8 x
  obtain ⟨S, hS⟩ : ∃ S : ByteArray, S = ⟨(backL x).toArray⟩ := ⟨_, rfl⟩
  have hSd : S.data.toList = backL x := by rw [hS]
  have hSz : S.size ≤ 8 := by rw [Lib.size_eq, hSd]; exact hl8
  have e : backV x = .tuple #[.string S, .int .i64 0] := by unfold backV; rw [if_pos h1, hS]
  have hB := fun W : World => Back_any x W hx
  rw [e] at hB
  have HB := hid hB
  have hne : ¬ S.toList = [] := by rw [Lib.toList_data, hSd, h47]; decide
  have hne' : S.toList.isEmpty = false := by rw [Lib.toList_data, hSd, h47]; rfl
  have hne47 : S.toList = [47] := by rw [Lib.toList_data, hSd, h47]
  have hne47' : (S.toList == [47]) = true := by rw [hne47]; rfl
  have hx47 : x = 47 := by rw [← h1, h47]; rfl
  have HR : Hid (rd x = some []) := hid (by unfold rd; rw [if_pos ⟨h1, by rw [h47]; decide, by rw [h47]; kernel_rfl, by rw [h47, hx47]; kernel_rfl⟩, h47]; rfl)
  have HSD := hid hSd
  have HX47 := hid hx47
  have H47 := hid hne47
  clear hB e hS hSd h47 hne47 hx47 h1
  obtain ⟨wa, hwa, hba, hsa, hla⟩ := laid w #[.slice none 0 0, .int .u64 0] 77
  have HA := hid hla
  clear hla hsa
  refine calls_of_wp_marks Try.func39 rfl ?_
  simp only [Try.ntmps39, List.size_toArray, List.length_cons, List.length_nil, Nat.reduceAdd, Nat.reduceSub, Array.replicate_succ, Array.replicate_zero, List.push_toArray, List.append_toArray, List.nil_append, List.cons_append]
  go_wp2
  go_step3
  go_wp2_with fail
  refine (HB.out _).mono ?_
  rintro e w1 ⟨rfl, hb1⟩
  obtain ⟨w2, hw2, hb2, hs2, hl2⟩ := laid w1 #[.string S] 9
  obtain ⟨w3, hw3, hb3, hs3, hl3⟩ := laid w2 #[.slice none 0 0, .int .u64 (x : Nat)] 77
  obtain ⟨w4, hw4, hb4, hs4, hl4⟩ := laid w3 #[.bool true] 4
  obtain ⟨w5, hw5, hb5, hs5, hl5⟩ := laid w4 #[.string S] 9
  have hc2 := cell_laid (i := 0) (v := .string S) (keep_laid hl2 hb3) rfl
  have hc2' := cell_laid (i := 0) (v := .string S) (keep_laid (keep_laid hl2 hb3) hb4) rfl
  go_wp2_with (go_at_call 49; refine (each_any S _).mono ?_; rintro e w' ⟨rfl, rfl⟩)
  go_step3
  go_wp2_with (go_at_call 49; refine (each_any S _).mono ?_; rintro e w' ⟨rfl, rfl⟩)
  obtain ⟨b4, eb4⟩ : ∃ b, w1.heap.size = b := ⟨_, rfl⟩
  have L2 := keep_laid (keep_laid (keep_laid (keep_laid (keep_laid HA.out hb1) hb2) hb3) hb4) hb5
  have L4 := keep_laid (keep_laid (keep_laid hl2 hb3) hb4) hb5
  have L6 := keep_laid (keep_laid hl3 hb4) hb5
  have L7 := keep_laid hl4 hb5
  have hlt2 := lt_laid (keep_laid HA.out hb1)
  have hB5 := step (step (step (step (step hba hb1) hb2) hb3) hb4) hb5
  rw [hs2, eb4] at hs3 L6
  rw [hs3] at hs4 L7
  rw [hs4] at hs5 hl5
  rw [eb4] at L4 hlt2 ⊢
  clear hc2 hc2' hw2 hw3 hw4 hw5 hl2 hl3 hl4 hs2 hs3 hs4 hwa
  refine wp_range (Bs := b4 + 1 + 1 + 1) (gf := 56) (lb := #[.pointer (some ⟨b4 + 1 + 1 + 1, 0, none⟩)]) rfl (enters_of Try.func56 (by kernel_rfl) rfl)
    (each_seq (b4 + 1 + 1 + 1) _ S (by omega)) (fun k hk => by subst hk; omega) (by omega)
    (fun o o' => ?hR) (fun _ => rfl)
    (fun pre W => pre = [] ∧ Reads w w.heap.size b4 (b4 + 1) (b4 + 1 + 1) w5.heap.size S x [] true W)
    (fun c pre W => c = .exit 0 ∧ Reads w w.heap.size b4 (b4 + 1) (b4 + 1 + 1) w5.heap.size S x [] true W)
    ?hI ?hIx ?h0 (fun t y => (t.setIfInBounds 27 (.string y)).setIfInBounds 8 (.string y)) ?assign ?body ?done ?stop
  case hR => exact keep_laid (keep_laid hl5 ((Below.refl _ _).alloc (Nat.le_refl _) _)) ((Below.refl _ _).alloc (Nat.le_refl _) _)
  case hI => exact fun s A B row hs hg hr => ⟨hs.1, hs.2.abide hg hr (by omega) (by omega) (by omega) (by omega) (by omega) (by omega)⟩
  case hIx => exact fun c s A B row hs hg hr => ⟨hs.1, hs.2.abide hg hr (by omega) (by omega) (by omega) (by omega) (by omega) (by omega)⟩
  case h0 => exact ⟨rfl, _, L2, L4, L7, L6, World.ownsRow_nil _ _ _ _, hB5, Nat.le_refl _⟩
  case assign =>
    intro l y W K hK
    gi_wp2
    exact hK
  case body =>
    rintro l pre y W ⟨rfl, hRd⟩ hlen
    have hRd' := hRd
    obtain ⟨v, k2, k4, k7, k6, ho, hbl, hbs⟩ := hRd'
    have hc4 := cell_laid (i := 0) (v := .string S) k4 rfl
    have HRD := hid hRd
    clear hRd k2 k4 k6 k7 ho
    gi_wp2
    exact ⟨KeepsOthers.refl _, rfl, HRD.out⟩
  case done =>
    rintro D xs W hD hS ⟨rfl, _⟩ hK
    have hs : Pth.segs S.data.toList = [[]] := by rw [← Lib.toList_data, H47.out]; rfl
    rw [hs] at hS
    cases hS
  case stop =>
    rintro D c pre W hD _ ⟨rfl, v, k2, k4, k7, k6, ho, hbl, hbs⟩ hK
    obtain ⟨a', cap', rfl, hld⟩ := Leads.of_own ho
    have hW := word_any [] a' 0 cap' W rfl hld (by omega) (by decide)
    rw [show wordV (dl []) = .tuple #[.int .u64 ((47 : Nat) : Int), .bool true] by kernel_rfl] at hW
    have HW := hid hW
    have hc6 := cell_laid (i := 0) (v := .slice a' 0 cap') k6 rfl
    have hbs2 := hbl.size
    have K2 := hid k2
    have K6 := hid k6
    have K7 := hid k7
    have KK := hid hK
    have HO := hid ho
    have hNx' : (((47 : Nat) : Int) != (x : Nat)) = false := by rw [HX47.out]; rfl
    clear ho k2 k4 k6 k7 hK hld hW
    go_wp2_with fail
    refine HW.out.mono ?_
    rintro e W1 ⟨rfl, hb6⟩
    have k2' := keep_laid K2.out hb6
    have k6' := keep_laid K6.out hb6
    have k7' := keep_laid K7.out hb6
    have hc7 := cell_laid (i := 0) (v := .bool true) k7' rfl
    have hc0 := cell_laid (i := 0) (v := .slice none 0 0) k2' rfl
    have hc1 := cell_laid (i := 1) (v := .int .u64 0) k2' rfl
    have hf0 := free_laid (i := 0) k2'
    have hf1 := free_laid (i := 1) k2'
    have hc60 := cell_laid (i := 0) (v := .slice a' 0 cap') k6' rfl
    have hc61 := cell_laid (i := 1) (v := .int .u64 (x : Nat)) k6' rfl
    have K2' := hid k2'
    clear k2' k7' k6'
    go_wp2
    have hD2 : w.heap.size ≠ D := by omega
    have hK2 := other_laid (i := 1) (other_laid (i := 0) (keep_laid KK.out hb6) hD2.symm (.slice a' 0 cap')) hD2.symm (.int .u64 (x : Nat))
    refine leaves_mark (v := .tuple #[.agg #[.slice a' 0 cap', .int .u64 (x : Nat)], .bool true]) hK2 (read_result (mark_other (set_laid (set_laid K2'.out _) _) hK2 _) rfl rfl) ?_
    refine ⟨below_mark ?_ (by omega) hK2, ?_⟩
    · exact ((step hbl hb6).setCell (p := ⟨w.heap.size, 0, none⟩) (Nat.le_refl _) _).setCell (p := ⟨w.heap.size, 1, none⟩) (Nat.le_refl _) _
    · rw [HR.out]
      refine ⟨_, [], rfl, rfl, ?_⟩
      have h1 := ownsRow_setCell_below (a := ⟨w.heap.size, 1, none⟩) (ownsRow_setCell_below (a := ⟨w.heap.size, 0, none⟩) (own_grow HO.out hb6) (by show w.heap.size < _; omega) (.slice a' 0 cap')) (by show w.heap.size < _; omega) (.int .u64 (x : Nat))
      exact own_mark (own_base h1 (by omega)) hK2 _

theorem read_any (x : Nat) (w : World) (hx : x < 18446744073709551616) : Calls Try.prog 39 #[.int .u64 (x : Nat)] w (ReadP x w) := by
  by_cases h1 : Pl.textN (backL x) = x
  · by_cases h2 : backL x = []
    · exact read_early x w hx (.inr h2)
    · by_cases h47 : backL x = [47]
      · exact read_root x w hx h1 h47
      · exact read_loop x w hx h1 h2 h47
  · exact read_early x w hx (.inl h1)
end Go.Proofs.Ytbfhppafffhlkaa
