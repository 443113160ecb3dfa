/- slices.Equal, whole: are two rows the same? -/
import Derived.Test.YtpehnahmdfoobaaDoorScript10
import Derived.Deep.DeepCutAuto
import Derived.Deep.CutBlock
namespace Go.Proofs.YtpehnahmdfoobaaDoor
open Go.RowKit
open Go.Proofs
set_option linter.unusedVariables false

theorem eq_take {α : Type} (xs ys : List α) (k : Nat) (x y : α) (h : xs.take k = ys.take k) (hx : xs[k]? = some x) (hy : ys[k]? = some y) (e : x = y) : xs.take (k + 1) = ys.take (k + 1) := by
  obtain ⟨h1, rfl⟩ := List.getElem?_eq_some_iff.1 hx
  obtain ⟨h2, rfl⟩ := List.getElem?_eq_some_iff.1 hy
  rw [List.take_succ_eq_append_getElem h1, List.take_succ_eq_append_getElem h2, h, e]
theorem ne_at {α : Type} (xs ys : List α) (k : Nat) (x y : α) (hx : xs[k]? = some x) (hy : ys[k]? = some y) (e : x ≠ y) : xs ≠ ys := by
  rintro rfl
  rw [hx] at hy
  cases hy
  exact e rfl

set_option maxHeartbeats 1000000 in
theorem EqI_any (xs ys : List Int) (a a' : Option Addr) (n n' cap cap' : Nat) (w : World) (hx : xs.length = n) (hy : ys.length = n') (h : Leads w a n cap (icells xs)) (h' : Leads w a' n' cap' (icells ys)) :
    Calls Tryd.prog 11 #[.slice a n cap, .slice a' n' cap'] w (Ret (.bool (decide (xs = ys))) w) := by
  have hn := h.len.1
  have hn' := h'.len.1
  by_cases hnn : n = n'
  · subst hnn
    have H := hid h
    have H' := hid h'
    have HX := hid hx
    have HY := hid hy
    clear h h' hx hy
    go_enter Tryd.func11, Tryd.ntmps11
    go_wp2
    go_loopg [5, 13] n (fun g _ i wr => ∃ k : Nat, g + k = n ∧ i = .int .i64 (k : Nat) ∧ Hid ((xs).take k = (ys).take k) ∧ Below w.heap.size w wr)
    case atStart => exact ⟨0, rfl, rfl, rfl, Below.refl _ _⟩
    case round =>
      obtain ⟨k, hk, rfl, hs, hb⟩ := hrel
      have HK := hid hk
      clear hk
      by_cases hlt : k < n
      · obtain ⟨x, hxk⟩ : ∃ x, xs[k]? = some x := ⟨_, List.getElem?_eq_getElem (by rw [HX.out]; exact hlt)⟩
        obtain ⟨y, hyk⟩ : ∃ x, ys[k]? = some x := ⟨_, List.getElem?_eq_getElem (by rw [HY.out]; exact hlt)⟩
        obtain ⟨b, off, rfl, -, hc⟩ := H.out.at hlt (by unfold icells; rw [List.getElem?_map, hxk]; rfl)
        obtain ⟨b', off', rfl, -, hc'⟩ := H'.out.at hlt (by unfold icells; rw [List.getElem?_map, hyk]; rfl)
        have hxd := hxk
        have hyd := hyk
        go_upto_region 6 with (fail)
        have f1 : ∀ z : Ext wr, z.v.cell? ⟨b, off + k, none⟩ = some (.int .i64 x) := fun z => hc z.v (step hb z.b)
        have f2 : ∀ z : Ext wr, z.v.cell? ⟨b', off' + k, none⟩ = some (.int .i64 y) := fun z => hc' z.v (step hb z.b)
        by_cases he : x = y
        · have HT := hid (eq_take _ _ k _ _ hs.out hxd hyd he)
          subst he
          clear hc hc' hxk hyk hxd hyd hs
          refine wp_region_ext (by kernel_rfl) (by kernel_rfl) ?_
          repeat (go_big_quiet_step (fail))
          refine wpQuiet_nil ?_
          rintro _ ⟨⟨w2, hb2⟩, rfl⟩
          go_wp2
          go_roundg (gk - 1)
          case measure => have := HK.out; omega
          case rel => exact ⟨k + 1, by have := HK.out; omega, by go_num, HT, step hb hb2⟩
        · have HE := hid (ne_at _ _ k _ _ hxd hyd he)
          have hq : (x != y) = true := by simpa using he
          clear hc hc' hxk hyk hxd hyd hs he
          refine wp_region_ext (by kernel_rfl) (by kernel_rfl) ?_
          repeat (go_big_quiet_step (fail))
          refine wpQuiet_nil ?_
          rintro _ ⟨⟨w2, hb2⟩, rfl⟩
          go_wp2
          go_ret
          exact ⟨retb (decide_eq_false HE.out).symm, step hb hb2⟩
      · have e := HK.out
        obtain rfl : k = n := by omega
        have HE : Hid (xs = ys) := hid (by
          have := hs.out
          rwa [List.take_of_length_le (by rw [HX.out]; exact Nat.le_refl _), List.take_of_length_le (by rw [HY.out]; exact Nat.le_refl _)] at this)
        clear hs e HK
        go_wp2
        go_ret
        exact ⟨retb (decide_eq_true HE.out).symm, hb⟩
  · have HE : Hid (¬ xs = ys) := hid (by
      intro e
      have := congrArg List.length e
      omega)
    have hne : (((n : Nat) : Int) != ((n' : Nat) : Int)) = true := by simp; omega
    clear h h' hx hy hnn
    go_enter Tryd.func11, Tryd.ntmps11
    go_wp2
    go_ret
    exact ⟨retb (decide_eq_false HE.out).symm, Below.refl _ _⟩

set_option maxHeartbeats 1000000 in
theorem EqW_any (xs ys : List Nat) (a a' : Option Addr) (n n' cap cap' : Nat) (w : World) (hx : xs.length = n) (hy : ys.length = n') (h : Leads w a n cap (wcells xs)) (h' : Leads w a' n' cap' (wcells ys)) :
    Calls Tryd.prog 16 #[.slice a n cap, .slice a' n' cap'] w (Ret (.bool (decide (xs = ys))) w) := by
  have hn := h.len.1
  have hn' := h'.len.1
  by_cases hnn : n = n'
  · subst hnn
    have H := hid h
    have H' := hid h'
    have HX := hid hx
    have HY := hid hy
    clear h h' hx hy
    go_enter Tryd.func16, Tryd.ntmps16
    go_wp2
    go_loopg [5, 13] n (fun g _ i wr => ∃ k : Nat, g + k = n ∧ i = .int .i64 (k : Nat) ∧ Hid ((xs).take k = (ys).take k) ∧ Below w.heap.size w wr)
    case atStart => exact ⟨0, rfl, rfl, rfl, Below.refl _ _⟩
    case round =>
      obtain ⟨k, hk, rfl, hs, hb⟩ := hrel
      have HK := hid hk
      clear hk
      by_cases hlt : k < n
      · obtain ⟨x, hxk⟩ : ∃ x, xs[k]? = some x := ⟨_, List.getElem?_eq_getElem (by rw [HX.out]; exact hlt)⟩
        obtain ⟨y, hyk⟩ : ∃ x, ys[k]? = some x := ⟨_, List.getElem?_eq_getElem (by rw [HY.out]; exact hlt)⟩
        obtain ⟨b, off, rfl, -, hc⟩ := H.out.at hlt (by unfold wcells; rw [List.getElem?_map, hxk]; rfl)
        obtain ⟨b', off', rfl, -, hc'⟩ := H'.out.at hlt (by unfold wcells; rw [List.getElem?_map, hyk]; rfl)
        have hxd := hxk
        have hyd := hyk
        go_upto_region 6 with (fail)
        have f1 : ∀ z : Ext wr, z.v.cell? ⟨b, off + k, none⟩ = some (.int .u64 ((x : Nat) : Int)) := fun z => hc z.v (step hb z.b)
        have f2 : ∀ z : Ext wr, z.v.cell? ⟨b', off' + k, none⟩ = some (.int .u64 ((y : Nat) : Int)) := fun z => hc' z.v (step hb z.b)
        by_cases he : x = y
        · have HT := hid (eq_take _ _ k _ _ hs.out hxd hyd he)
          subst he
          clear hc hc' hxk hyk hxd hyd hs
          refine wp_region_ext (by kernel_rfl) (by kernel_rfl) ?_
          repeat (go_big_quiet_step (fail))
          refine wpQuiet_nil ?_
          rintro _ ⟨⟨w2, hb2⟩, rfl⟩
          go_wp2
          go_roundg (gk - 1)
          case measure => have := HK.out; omega
          case rel => exact ⟨k + 1, by have := HK.out; omega, by go_num, HT, step hb hb2⟩
        · have HE := hid (ne_at _ _ k _ _ hxd hyd he)
          have hq : (((x : Nat) : Int) != ((y : Nat) : Int)) = true := by simp; omega
          clear hc hc' hxk hyk hxd hyd hs he
          refine wp_region_ext (by kernel_rfl) (by kernel_rfl) ?_
          repeat (go_big_quiet_step (fail))
          refine wpQuiet_nil ?_
          rintro _ ⟨⟨w2, hb2⟩, rfl⟩
          go_wp2
          go_ret
          exact ⟨retb (decide_eq_false HE.out).symm, step hb hb2⟩
      · have e := HK.out
        obtain rfl : k = n := by omega
        have HE : Hid (xs = ys) := hid (by
          have := hs.out
          rwa [List.take_of_length_le (by rw [HX.out]; exact Nat.le_refl _), List.take_of_length_le (by rw [HY.out]; exact Nat.le_refl _)] at this)
        clear hs e HK
        go_wp2
        go_ret
        exact ⟨retb (decide_eq_true HE.out).symm, hb⟩
  · have HE : Hid (¬ xs = ys) := hid (by
      intro e
      have := congrArg List.length e
      omega)
    have hne : (((n : Nat) : Int) != ((n' : Nat) : Int)) = true := by simp; omega
    clear h h' hx hy hnn
    go_enter Tryd.func16, Tryd.ntmps16
    go_wp2
    go_ret
    exact ⟨retb (decide_eq_false HE.out).symm, Below.refl _ _⟩

end Go.Proofs.YtpehnahmdfoobaaDoor
