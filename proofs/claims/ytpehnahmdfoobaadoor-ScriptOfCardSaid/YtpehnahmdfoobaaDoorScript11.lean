/- Scripts: slices.Equal at calls, at pairs, at ints and words. -/
import Derived.Test.YtpehnahmdfoobaaDoorScriptEq
namespace Go.Proofs.YtpehnahmdfoobaaDoor
open Go.RowKit
open Go.Proofs
set_option linter.unusedVariables false

theorem wflat_at {xs : List (List Nat)} {k j : Nat} {x : List Nat} {v : Nat} (h5 : ∀ q ∈ xs, q.length = 5) (hx : xs[k]? = some x) (hj : x[j]? = some v) : (wcells xs.flatten)[k * 5 + j]? = some (.int .u64 ((v : Nat) : Int)) := by
  refine wcell_at ?_
  induction xs generalizing k with
  | nil => cases hx
  | cons q r ih =>
    have hq := h5 q (List.mem_cons_self ..)
    rw [List.flatten_cons]
    rcases k with _ | k
    · cases hx
      rw [Nat.zero_mul, Nat.zero_add, List.getElem?_append_left (List.getElem?_eq_some_iff.1 hj).1]
      exact hj
    · rw [List.getElem?_append_right (by omega), hq, show (k + 1) * 5 + j - 5 = k * 5 + j by omega]
      exact ih (fun q hq => h5 q (List.mem_cons_of_mem _ hq)) (by simpa using hx)
theorem five_ex {q : List Nat} (h : q.length = 5) : ∃ a b c d e, q = [a, b, c, d, e] := by
  match q, h with
  | [a, b, c, d, e], _ => exact ⟨a, b, c, d, e, rfl⟩
theorem rflat_at {xs : List (Int × Nat)} {k : Nat} {x : Int × Nat} (hx : xs[k]? = some x) : (rcells xs)[k * 2]? = some (.int .i64 x.1) ∧ (rcells xs)[k * 2 + 1]? = some (.int .i64 ((x.2 : Nat) : Int)) := by
  induction xs generalizing k with
  | nil => cases hx
  | cons q r ih =>
    rcases k with _ | k
    · cases hx
      exact ⟨rfl, rfl⟩
    · have := ih (k := k) (by simpa using hx)
      rw [show (k + 1) * 2 = k * 2 + 2 by omega]
      exact this

set_option maxRecDepth 100000 in
set_option maxHeartbeats 2000000 in
theorem EqC_any (xs ys : List (List Nat)) (a a' : Option Addr) (n n' cap cap' : Nat) (w : World) (hx : xs.length = n) (hy : ys.length = n') (hx5 : ∀ q ∈ xs, q.length = 5) (hy5 : ∀ q ∈ ys, q.length = 5) (hxb : ∀ q ∈ xs, ∀ v ∈ q, v < 18446744073709551616) (hyb : ∀ q ∈ ys, ∀ v ∈ q, v < 18446744073709551616) (h : Leads w a n cap (wcells xs.flatten)) (h' : Leads w a' n' cap' (wcells ys.flatten)) :
    Calls Tryd.prog 47 #[.slice a n cap, .slice a' n' cap'] w (Ret (.bool (decide (xs = ys))) w) := by
  have hn := h.len.1
  have hn' := h'.len.1
  by_cases hnn : n = n'
  · subst hnn
    have H := hid h
    have H' := hid h'
    have HX := hid hx
    have HY := hid hy
    have HX5 := hid hx5
    have HY5 := hid hy5
    have HXB := hid hxb
    have HYB := hid hyb
    clear h h' hx hy hx5 hy5 hxb hyb
    go_enter Tryd.func47, Tryd.ntmps47
    go_wp2
    go_loopg [5, 13] n (fun g _ i wr => ∃ k : Nat, g + k = n ∧ i = .int .i64 (k : Nat) ∧ Hid (xs.take k = ys.take k) ∧ Below w.heap.size w wr)
    case atStart => exact ⟨0, rfl, rfl, rfl, Below.refl _ _⟩
    case round =>
      obtain ⟨k, hk, rfl, hs, hb⟩ := hrel
      have HK := hid hk
      clear hk
      by_cases hlt : k < n
      · obtain ⟨x, hxk⟩ : ∃ x, xs[k]? = some x := ⟨_, List.getElem?_eq_getElem (by rw [HX.out]; exact hlt)⟩
        obtain ⟨y, hyk⟩ : ∃ x, ys[k]? = some x := ⟨_, List.getElem?_eq_getElem (by rw [HY.out]; exact hlt)⟩
        obtain ⟨x0, x1, x2, x3, x4, rfl⟩ := five_ex (HX5.out x (List.mem_of_getElem? hxk))
        obtain ⟨y0, y1, y2, y3, y4, rfl⟩ := five_ex (HY5.out y (List.mem_of_getElem? hyk))
        have hwx : ∃ b off, a = some ⟨b, off, none⟩ ∧ ∀ (V : World), Below w.heap.size w V → ∀ j v, [x0, x1, x2, x3, x4][j]? = some v → V.cell? ⟨b, off + k * 5 + j, none⟩ = some (.int .u64 ((v : Nat) : Int)) := by
          obtain ⟨_, _, ⟨h0, _⟩ | ⟨b, off, ea, hlt, hc⟩⟩ := H.out
          · omega
          · exact ⟨b, off, ea, fun V hV j v hj => (hV.cell (p := ⟨b, off + k * 5 + j, none⟩) hlt).trans (by rw [Nat.add_assoc]; exact hc _ _ (wflat_at HX5.out hxk hj))⟩
        have hwy : ∃ b off, a' = some ⟨b, off, none⟩ ∧ ∀ (V : World), Below w.heap.size w V → ∀ j v, [y0, y1, y2, y3, y4][j]? = some v → V.cell? ⟨b, off + k * 5 + j, none⟩ = some (.int .u64 ((v : Nat) : Int)) := by
          obtain ⟨_, _, ⟨h0, _⟩ | ⟨b, off, ea, hlt, hc⟩⟩ := H'.out
          · omega
          · exact ⟨b, off, ea, fun V hV j v hj => (hV.cell (p := ⟨b, off + k * 5 + j, none⟩) hlt).trans (by rw [Nat.add_assoc]; exact hc _ _ (wflat_at HY5.out hyk hj))⟩
        obtain ⟨b, off, rfl, hcx⟩ := hwx
        obtain ⟨b', off', rfl, hcy⟩ := hwy
        have f0 : ∀ z : Ext wr, z.v.cell? ⟨b, off + k * 5, none⟩ = some (.int .u64 ((x0 : Nat) : Int)) := fun z => hcx z.v (step hb z.b) 0 x0 rfl
        have f1 : ∀ z : Ext wr, z.v.cell? ⟨b, off + k * 5 + 1, none⟩ = some (.int .u64 ((x1 : Nat) : Int)) := fun z => hcx z.v (step hb z.b) 1 x1 rfl
        have f2 : ∀ z : Ext wr, z.v.cell? ⟨b, off + k * 5 + 2, none⟩ = some (.int .u64 ((x2 : Nat) : Int)) := fun z => hcx z.v (step hb z.b) 2 x2 rfl
        have f3 : ∀ z : Ext wr, z.v.cell? ⟨b, off + k * 5 + 3, none⟩ = some (.int .u64 ((x3 : Nat) : Int)) := fun z => hcx z.v (step hb z.b) 3 x3 rfl
        have f4 : ∀ z : Ext wr, z.v.cell? ⟨b, off + k * 5 + 4, none⟩ = some (.int .u64 ((x4 : Nat) : Int)) := fun z => hcx z.v (step hb z.b) 4 x4 rfl
        have g0 : ∀ z : Ext wr, z.v.cell? ⟨b', off' + k * 5, none⟩ = some (.int .u64 ((y0 : Nat) : Int)) := fun z => hcy z.v (step hb z.b) 0 y0 rfl
        have g1 : ∀ z : Ext wr, z.v.cell? ⟨b', off' + k * 5 + 1, none⟩ = some (.int .u64 ((y1 : Nat) : Int)) := fun z => hcy z.v (step hb z.b) 1 y1 rfl
        have g2 : ∀ z : Ext wr, z.v.cell? ⟨b', off' + k * 5 + 2, none⟩ = some (.int .u64 ((y2 : Nat) : Int)) := fun z => hcy z.v (step hb z.b) 2 y2 rfl
        have g3 : ∀ z : Ext wr, z.v.cell? ⟨b', off' + k * 5 + 3, none⟩ = some (.int .u64 ((y3 : Nat) : Int)) := fun z => hcy z.v (step hb z.b) 3 y3 rfl
        have g4 : ∀ z : Ext wr, z.v.cell? ⟨b', off' + k * 5 + 4, none⟩ = some (.int .u64 ((y4 : Nat) : Int)) := fun z => hcy z.v (step hb z.b) 4 y4 rfl
        have heq : ∀ V : World, (Op.equalIn 10000 53 (.agg #[.int .u64 ((x0 : Nat) : Int), .int .u64 ((x1 : Nat) : Int), .int .u64 ((x2 : Nat) : Int), .int .u64 ((x3 : Nat) : Int), .int .u64 ((x4 : Nat) : Int)]) (.agg #[.int .u64 ((y0 : Nat) : Int), .int .u64 ((y1 : Nat) : Int), .int .u64 ((y2 : Nat) : Int), .int .u64 ((y3 : Nat) : Int), .int .u64 ((y4 : Nat) : Int)])).run Tryd.prog V = .ok (decide ([x0, x1, x2, x3, x4] = [y0, y1, y2, y3, y4])) V := fun V => call_eq _ _ rfl rfl (HXB.out _ (List.mem_of_getElem? hxk)) (HYB.out _ (List.mem_of_getElem? hyk)) V
        obtain ⟨E, hE⟩ : ∃ E, decide ([x0, x1, x2, x3, x4] = [y0, y1, y2, y3, y4]) = E := ⟨_, rfl⟩
        rw [hE] at heq
        go_upto_region 6 with (fail)
        by_cases he : [x0, x1, x2, x3, x4] = [y0, y1, y2, y3, y4]
        · have HT := hid (eq_take _ _ k _ _ hs.out hxk hyk he)
          have hEt : E = true := by rw [← hE]; exact decide_eq_true he
          subst hEt
          clear hcx hcy hxk hyk hs hE he
          refine wp_region_ext (by kernel_rfl) (by kernel_rfl) ?_
          repeat (go_big_quiet_step (fail))
          refine wpQuiet_nil ?_
          rintro _ ⟨⟨w2, hb2⟩, rfl⟩
          go_wp2
          go_roundg (gk - 1)
          case measure => have := HK.out; omega
          case rel => exact ⟨k + 1, by have := HK.out; omega, by go_num, HT, step hb hb2⟩
        · have HE := hid (ne_at _ _ k _ _ hxk hyk he)
          have hEf : E = false := by rw [← hE]; exact decide_eq_false he
          subst hEf
          clear hcx hcy hxk hyk hs hE he
          refine wp_region_ext (by kernel_rfl) (by kernel_rfl) ?_
          repeat (go_big_quiet_step (fail))
          refine wpQuiet_nil ?_
          rintro _ ⟨⟨w2, hb2⟩, rfl⟩
          go_wp2
          go_ret
          exact ⟨retb (decide_eq_false HE.out).symm, step hb hb2⟩
      · have e := HK.out
        obtain rfl : k = n := by omega
        have HE : Hid (xs = ys) := hid (by
          have := hs.out
          rwa [List.take_of_length_le (by rw [HX.out]; exact Nat.le_refl _), List.take_of_length_le (by rw [HY.out]; exact Nat.le_refl _)] at this)
        clear hs e HK
        go_wp2
        go_ret
        exact ⟨retb (decide_eq_true HE.out).symm, hb⟩
  · have HE : Hid (¬ xs = ys) := hid (by
      intro e
      have := congrArg List.length e
      omega)
    have hne : (((n : Nat) : Int) != ((n' : Nat) : Int)) = true := by simp; omega
    clear h h' hx hy hnn
    go_enter Tryd.func47, Tryd.ntmps47
    go_wp2
    go_ret
    exact ⟨retb (decide_eq_false HE.out).symm, Below.refl _ _⟩

set_option maxRecDepth 100000 in
set_option maxHeartbeats 2000000 in
theorem EqP_any (xs ys : List (Int × Nat)) (a a' : Option Addr) (n n' cap cap' : Nat) (w : World) (hx : xs.length = n) (hy : ys.length = n') (hxb : ∀ q ∈ xs, (-9223372036854775808 ≤ q.1 ∧ q.1 ≤ 9223372036854775807) ∧ q.2 ≤ 1000000) (hyb : ∀ q ∈ ys, (-9223372036854775808 ≤ q.1 ∧ q.1 ≤ 9223372036854775807) ∧ q.2 ≤ 1000000) (h : Leads w a n cap (rcells xs)) (h' : Leads w a' n' cap' (rcells ys)) :
    Calls Tryd.prog 23 #[.slice a n cap, .slice a' n' cap'] w (Ret (.bool (decide (xs = ys))) w) := by
  have hn := h.len.1
  have hn' := h'.len.1
  by_cases hnn : n = n'
  · subst hnn
    have H := hid h
    have H' := hid h'
    have HX := hid hx
    have HY := hid hy
    have HXB := hid hxb
    have HYB := hid hyb
    clear h h' hx hy hxb hyb
    go_enter Tryd.func23, Tryd.ntmps23
    go_wp2
    go_loopg [5, 13] n (fun g _ i wr => ∃ k : Nat, g + k = n ∧ i = .int .i64 (k : Nat) ∧ Hid (xs.take k = ys.take k) ∧ Below w.heap.size w wr)
    case atStart => exact ⟨0, rfl, rfl, rfl, Below.refl _ _⟩
    case round =>
      obtain ⟨k, hk, rfl, hs, hb⟩ := hrel
      have HK := hid hk
      clear hk
      by_cases hlt : k < n
      · obtain ⟨x, hxk⟩ : ∃ x, xs[k]? = some x := ⟨_, List.getElem?_eq_getElem (by rw [HX.out]; exact hlt)⟩
        obtain ⟨y, hyk⟩ : ∃ x, ys[k]? = some x := ⟨_, List.getElem?_eq_getElem (by rw [HY.out]; exact hlt)⟩
        obtain ⟨x0, x1⟩ := x
        obtain ⟨y0, y1⟩ := y
        have hwx : ∃ b off, a = some ⟨b, off, none⟩ ∧ ∀ (V : World), Below w.heap.size w V → V.cell? ⟨b, off + k * 2, none⟩ = some (.int .i64 x0) ∧ V.cell? ⟨b, off + k * 2 + 1, none⟩ = some (.int .i64 ((x1 : Nat) : Int)) := by
          obtain ⟨_, _, ⟨h0, _⟩ | ⟨b, off, ea, hlt, hc⟩⟩ := H.out
          · omega
          · exact ⟨b, off, ea, fun V hV => ⟨(hV.cell (p := ⟨b, off + k * 2, none⟩) hlt).trans (hc _ _ (rflat_at hxk).1), (hV.cell (p := ⟨b, off + k * 2 + 1, none⟩) hlt).trans (by rw [Nat.add_assoc]; exact hc _ _ (rflat_at hxk).2)⟩⟩
        have hwy : ∃ b off, a' = some ⟨b, off, none⟩ ∧ ∀ (V : World), Below w.heap.size w V → V.cell? ⟨b, off + k * 2, none⟩ = some (.int .i64 y0) ∧ V.cell? ⟨b, off + k * 2 + 1, none⟩ = some (.int .i64 ((y1 : Nat) : Int)) := by
          obtain ⟨_, _, ⟨h0, _⟩ | ⟨b, off, ea, hlt, hc⟩⟩ := H'.out
          · omega
          · exact ⟨b, off, ea, fun V hV => ⟨(hV.cell (p := ⟨b, off + k * 2, none⟩) hlt).trans (hc _ _ (rflat_at hyk).1), (hV.cell (p := ⟨b, off + k * 2 + 1, none⟩) hlt).trans (by rw [Nat.add_assoc]; exact hc _ _ (rflat_at hyk).2)⟩⟩
        obtain ⟨b, off, rfl, hcx⟩ := hwx
        obtain ⟨b', off', rfl, hcy⟩ := hwy
        have f0 : ∀ z : Ext wr, z.v.cell? ⟨b, off + k * 2, none⟩ = some (.int .i64 x0) := fun z => (hcx z.v (step hb z.b)).1
        have f1 : ∀ z : Ext wr, z.v.cell? ⟨b, off + k * 2 + 1, none⟩ = some (.int .i64 ((x1 : Nat) : Int)) := fun z => (hcx z.v (step hb z.b)).2
        have g0 : ∀ z : Ext wr, z.v.cell? ⟨b', off' + k * 2, none⟩ = some (.int .i64 y0) := fun z => (hcy z.v (step hb z.b)).1
        have g1 : ∀ z : Ext wr, z.v.cell? ⟨b', off' + k * 2 + 1, none⟩ = some (.int .i64 ((y1 : Nat) : Int)) := fun z => (hcy z.v (step hb z.b)).2
        have hbx := HXB.out _ (List.mem_of_getElem? hxk)
        have hby := HYB.out _ (List.mem_of_getElem? hyk)
        have heq : ∀ V : World, (Op.equalIn 10000 26 (.agg #[.int .i64 x0, .int .i64 ((x1 : Nat) : Int)]) (.agg #[.int .i64 y0, .int .i64 ((y1 : Nat) : Int)])).run Tryd.prog V = .ok (decide ((x0, x1) = (y0, y1))) V := fun V => by
          rw [pair_eq x0 _ y0 _ hbx.1 (by have := hbx.2; dsimp only at this; omega) hby.1 (by have := hby.2; dsimp only at this; omega) V]
          congr 2
          simp
          intro _
          omega
        clear hbx hby
        obtain ⟨E, hE⟩ : ∃ E, decide ((x0, x1) = (y0, y1)) = E := ⟨_, rfl⟩
        rw [hE] at heq
        go_upto_region 6 with (fail)
        by_cases he : (x0, x1) = (y0, y1)
        · have HT := hid (eq_take _ _ k _ _ hs.out hxk hyk he)
          have hEt : E = true := by rw [← hE]; exact decide_eq_true he
          subst hEt
          clear hcx hcy hxk hyk hs hE he
          refine wp_region_ext (by kernel_rfl) (by kernel_rfl) ?_
          repeat (go_big_quiet_step (fail))
          refine wpQuiet_nil ?_
          rintro _ ⟨⟨w2, hb2⟩, rfl⟩
          go_wp2
          go_roundg (gk - 1)
          case measure => have := HK.out; omega
          case rel => exact ⟨k + 1, by have := HK.out; omega, by go_num, HT, step hb hb2⟩
        · have HE := hid (ne_at _ _ k _ _ hxk hyk he)
          have hEf : E = false := by rw [← hE]; exact decide_eq_false he
          subst hEf
          clear hcx hcy hxk hyk hs hE he
          refine wp_region_ext (by kernel_rfl) (by kernel_rfl) ?_
          repeat (go_big_quiet_step (fail))
          refine wpQuiet_nil ?_
          rintro _ ⟨⟨w2, hb2⟩, rfl⟩
          go_wp2
          go_ret
          exact ⟨retb (decide_eq_false HE.out).symm, step hb hb2⟩
      · have e := HK.out
        obtain rfl : k = n := by omega
        have HE : Hid (xs = ys) := hid (by
          have := hs.out
          rwa [List.take_of_length_le (by rw [HX.out]; exact Nat.le_refl _), List.take_of_length_le (by rw [HY.out]; exact Nat.le_refl _)] at this)
        clear hs e HK
        go_wp2
        go_ret
        exact ⟨retb (decide_eq_true HE.out).symm, hb⟩
  · have HE : Hid (¬ xs = ys) := hid (by
      intro e
      have := congrArg List.length e
      omega)
    have hne : (((n : Nat) : Int) != ((n' : Nat) : Int)) = true := by simp; omega
    clear h h' hx hy hnn
    go_enter Tryd.func23, Tryd.ntmps23
    go_wp2
    go_ret
    exact ⟨retb (decide_eq_false HE.out).symm, Below.refl _ _⟩

end Go.Proofs.YtpehnahmdfoobaaDoor
