/- slices.Equal, whole: are two rows the same? -/
import Derived.Test.YtmnbkhmphhgdiaaDoorPrEq
import Derived.Deep.DeepCutAuto
import Derived.Deep.CutBlock
namespace Go.Proofs.YtmnbkhmphhgdiaaDoor
open Go.RowKit
open Go.Proofs
set_option linter.unusedVariables false

set_option maxHeartbeats 1000000 in
theorem EqU_any (xs ys : List Nat) (a a' : Option Addr) (n n' cap cap' : Nat) (w : World) (hx : xs.length = n) (hy : ys.length = n') (h : Leads w a n cap (wcells xs)) (h' : Leads w a' n' cap' (wcells ys)) :
    Calls Tryd.prog 26 #[.slice a n cap, .slice a' n' cap'] w (Ret (.bool (decide (xs = ys))) w) := by
  have hn := h.len.1
  have hn' := h'.len.1
  by_cases hnn : n = n'
  · subst hnn
    have H := hid h
    have H' := hid h'
    have HX := hid hx
    have HY := hid hy
    clear h h' hx hy
    go_enter Tryd.func26, Tryd.ntmps26
    go_wp2
    go_loopg [5, 13] n (fun g _ i wr => ∃ k : Nat, g + k = n ∧ i = .int .i64 (k : Nat) ∧ Hid ((xs).take k = (ys).take k) ∧ Below w.heap.size w wr)
    case atStart => exact ⟨0, rfl, rfl, rfl, Below.refl _ _⟩
    case round =>
      obtain ⟨k, hk, rfl, hs, hb⟩ := hrel
      have HK := hid hk
      clear hk
      by_cases hlt : k < n
      · obtain ⟨x, hxk⟩ : ∃ x, xs[k]? = some x := ⟨_, List.getElem?_eq_getElem (by rw [HX.out]; exact hlt)⟩
        obtain ⟨y, hyk⟩ : ∃ x, ys[k]? = some x := ⟨_, List.getElem?_eq_getElem (by rw [HY.out]; exact hlt)⟩
        obtain ⟨b, off, rfl, -, hc⟩ := H.out.at hlt (wcell_at hxk)
        obtain ⟨b', off', rfl, -, hc'⟩ := H'.out.at hlt (wcell_at hyk)
        have hxd := hxk
        have hyd := hyk
        go_upto_region 6 with (fail)
        have f1 : ∀ z : Ext wr, z.v.cell? ⟨b, off + k, none⟩ = some (.int .u64 ((x : Nat) : Int)) := fun z => hc z.v (step hb z.b)
        have f2 : ∀ z : Ext wr, z.v.cell? ⟨b', off' + k, none⟩ = some (.int .u64 ((y : Nat) : Int)) := fun z => hc' z.v (step hb z.b)
        by_cases he : x = y
        · have HT := hid (eq_take _ _ k _ _ hs.out hxd hyd he)
          subst he
          clear hc hc' hxk hyk hxd hyd hs
          refine wp_region_ext (by kernel_rfl) (by kernel_rfl) ?_
          repeat (go_big_quiet_step (fail))
          refine wpQuiet_nil ?_
          rintro _ ⟨⟨w2, hb2⟩, rfl⟩
          go_wp2
          go_roundg (gk - 1)
          case measure => have := HK.out; omega
          case rel => exact ⟨k + 1, by have := HK.out; omega, by go_num, HT, step hb hb2⟩
        · have HE := hid (ne_at _ _ k _ _ hxd hyd he)
          have hq : (((x : Nat) : Int) != ((y : Nat) : Int)) = true := by simp; omega
          clear hc hc' hxk hyk hxd hyd hs he
          refine wp_region_ext (by kernel_rfl) (by kernel_rfl) ?_
          repeat (go_big_quiet_step (fail))
          refine wpQuiet_nil ?_
          rintro _ ⟨⟨w2, hb2⟩, rfl⟩
          go_wp2
          go_ret
          exact ⟨retb (decide_eq_false HE.out).symm, step hb hb2⟩
      · have e := HK.out
        obtain rfl : k = n := by omega
        have HE : Hid (xs = ys) := hid (by
          have := hs.out
          rwa [List.take_of_length_le (by rw [HX.out]; exact Nat.le_refl _), List.take_of_length_le (by rw [HY.out]; exact Nat.le_refl _)] at this)
        clear hs e HK
        go_wp2
        go_ret
        exact ⟨retb (decide_eq_true HE.out).symm, hb⟩
  · have HE : Hid (¬ xs = ys) := hid (by
      intro e
      have := congrArg List.length e
      omega)
    have hne : (((n : Nat) : Int) != ((n' : Nat) : Int)) = true := by simp; omega
    clear h h' hx hy hnn
    go_enter Tryd.func26, Tryd.ntmps26
    go_wp2
    go_ret
    exact ⟨retb (decide_eq_false HE.out).symm, Below.refl _ _⟩

end Go.Proofs.YtmnbkhmphhgdiaaDoor
