/- Processes (printed by gen_preq.py): equalities. -/
import Derived.Test.YtmnbkhmphhgdiaaDoorPr1
import Derived.Laws.StructEq
import Derived.DeepKeys
namespace Go.Proofs.YtmnbkhmphhgdiaaDoor
open Go.RowKit
open Go.Proofs
set_option linter.unusedVariables false
attribute [local go_sem] Oper.semAt_some

theorem wf_u64 {x : Nat} (h : x < 18446744073709551616) : (Lit.int .u64 ((x : Nat) : Int)).wf = true := by
  simp [Lit.wf, IntKind.min, IntKind.max, IntKind.signed, IntKind.bits]
  omega
theorem wf_i64 {x : Int} (h : -9223372036854775808 ≤ x ∧ x ≤ 9223372036854775807) : (Lit.int .i64 x).wf = true := by
  simp [Lit.wf, IntKind.min, IntKind.max, IntKind.signed, IntKind.bits]
  omega
theorem key_u64 (d : Nat) {x : Nat} (h : x < 18446744073709551616) : Tryd.prog.keyLits (d + 1) 29 [.int .u64 ((x : Nat) : Int)] = some [.int .u64 ((x : Nat) : Int)] := by
  simp [Program.keyLits, Tryd.underlying29, wf_u64 h]
theorem key_bool (d : Nat) (b : Bool) : Tryd.prog.keyLits (d + 1) 4 [.bool b] = some [.bool b] := by
  simp [Program.keyLits, Tryd.underlying4]
theorem key_pr {x0 x1 x3 : Nat} {x2 : Bool} (h : x0 < 18446744073709551616 ∧ x1 < 18446744073709551616 ∧ x3 < 18446744073709551616) : Tryd.prog.keyLits 2 45 [.int .u64 ((x0 : Nat) : Int), .int .u64 ((x1 : Nat) : Int), .bool x2, .int .u64 ((x3 : Nat) : Int)] = some [.int .u64 ((x0 : Nat) : Int), .int .u64 ((x1 : Nat) : Int), .bool x2, .int .u64 ((x3 : Nat) : Int)] := by
  have hc0 : Tryd.prog.cellsOf 29 = 1 := by kernel_rfl
  have hc2 : Tryd.prog.cellsOf 4 = 1 := by kernel_rfl
  have hc1 : Tryd.prog.cellsOf 45 = 4 := by kernel_rfl
  unfold Program.keyLits
  simp only [Tryd.underlying45]
  simp [hc0, hc1, hc2, key_bool 0, key_u64 0 h.1, key_u64 0 h.2.1, key_u64 0 h.2.2]
set_option maxRecDepth 100000 in
theorem pr_eq (x0 x1 x3 y0 y1 y3 : Nat) (x2 y2 : Bool) (hx : x0 < 18446744073709551616 ∧ x1 < 18446744073709551616 ∧ x3 < 18446744073709551616) (hy : y0 < 18446744073709551616 ∧ y1 < 18446744073709551616 ∧ y3 < 18446744073709551616) (w : World) :
    (Op.equalIn 10000 45 (.agg #[.int .u64 ((x0 : Nat) : Int), .int .u64 ((x1 : Nat) : Int), .bool x2, .int .u64 ((x3 : Nat) : Int)]) (.agg #[.int .u64 ((y0 : Nat) : Int), .int .u64 ((y1 : Nat) : Int), .bool y2, .int .u64 ((y3 : Nat) : Int)])).run Tryd.prog w = .ok (decide ((x0, x1, x2, x3) = (y0, y1, y2, y3))) w := by
  have h1 := key_pr (x2 := x2) hx
  have h2 := key_pr (x2 := y2) hy
  obtain ⟨r, hr, hiff⟩ := run_equalIn_deep (P := Tryd.prog) 9998 2 45 (by kernel_rfl) w 2 2 (.agg #[.int .u64 ((x0 : Nat) : Int), .int .u64 ((x1 : Nat) : Int), .bool x2, .int .u64 ((x3 : Nat) : Int)]) (.agg #[.int .u64 ((y0 : Nat) : Int), .int .u64 ((y1 : Nat) : Int), .bool y2, .int .u64 ((y3 : Nat) : Int)]) _ _ (by simp [Value.formed, Tryd.underlying45]; exact (by kernel_rfl : 4 = Tryd.prog.cellsOf 45)) (by simp [Value.formed, Tryd.underlying45]; exact (by kernel_rfl : 4 = Tryd.prog.cellsOf 45)) h1 h2
  rw [hr]
  congr 1
  rw [Bool.eq_iff_iff, hiff]
  simp
  constructor
  · rintro ⟨a, b, c, d⟩; exact ⟨by omega, by omega, c, by omega⟩
  · rintro ⟨a, b, c, d⟩; exact ⟨by omega, by omega, c, by omega⟩
theorem key_gens {G : Nat → Int} (h : GOk G) : Tryd.prog.keyLits 2 22 [.int .i64 (G 0), .int .i64 (G 1), .int .i64 (G 2), .int .i64 (G 3), .int .i64 (G 4), .int .i64 (G 5), .int .i64 (G 6), .int .i64 (G 7), .int .i64 (G 8), .int .i64 (G 9), .int .i64 (G 10), .int .i64 (G 11), .int .i64 (G 12), .int .i64 (G 13), .int .i64 (G 14), .int .i64 (G 15)] = some [.int .i64 (G 0), .int .i64 (G 1), .int .i64 (G 2), .int .i64 (G 3), .int .i64 (G 4), .int .i64 (G 5), .int .i64 (G 6), .int .i64 (G 7), .int .i64 (G 8), .int .i64 (G 9), .int .i64 (G 10), .int .i64 (G 11), .int .i64 (G 12), .int .i64 (G 13), .int .i64 (G 14), .int .i64 (G 15)] := by
  have hc1 : Tryd.prog.cellsOf 3 = 1 := by kernel_rfl
  have hc4 : Tryd.prog.cellsOf 22 = 16 := by kernel_rfl
  simp [Program.keyLits, Tryd.underlying22, Tryd.underlying3, hc1, hc4, List.range_succ, wf_i64 (h 0), wf_i64 (h 1), wf_i64 (h 2), wf_i64 (h 3), wf_i64 (h 4), wf_i64 (h 5), wf_i64 (h 6), wf_i64 (h 7), wf_i64 (h 8), wf_i64 (h 9), wf_i64 (h 10), wf_i64 (h 11), wf_i64 (h 12), wf_i64 (h 13), wf_i64 (h 14), wf_i64 (h 15)]
def gEq (G H : Nat → Int) : Bool := (List.range 16).all fun i => decide (G i = H i)
theorem gEq_iff (G H : Nat → Int) : gEq G H = true ↔ ∀ i, i < 16 → G i = H i := by simp [gEq]
theorem gens_eq (G H : Nat → Int) (hG : GOk G) (hH : GOk H) (w : World) : (Op.equalIn 10000 22 (.agg #[.int .i64 (G 0), .int .i64 (G 1), .int .i64 (G 2), .int .i64 (G 3), .int .i64 (G 4), .int .i64 (G 5), .int .i64 (G 6), .int .i64 (G 7), .int .i64 (G 8), .int .i64 (G 9), .int .i64 (G 10), .int .i64 (G 11), .int .i64 (G 12), .int .i64 (G 13), .int .i64 (G 14), .int .i64 (G 15)]) (.agg #[.int .i64 (H 0), .int .i64 (H 1), .int .i64 (H 2), .int .i64 (H 3), .int .i64 (H 4), .int .i64 (H 5), .int .i64 (H 6), .int .i64 (H 7), .int .i64 (H 8), .int .i64 (H 9), .int .i64 (H 10), .int .i64 (H 11), .int .i64 (H 12), .int .i64 (H 13), .int .i64 (H 14), .int .i64 (H 15)])).run Tryd.prog w = .ok (gEq G H) w := by
  obtain ⟨r, hr, hiff⟩ := run_equalIn_deep (P := Tryd.prog) 9998 2 22 (by kernel_rfl) w 2 2 (.agg #[.int .i64 (G 0), .int .i64 (G 1), .int .i64 (G 2), .int .i64 (G 3), .int .i64 (G 4), .int .i64 (G 5), .int .i64 (G 6), .int .i64 (G 7), .int .i64 (G 8), .int .i64 (G 9), .int .i64 (G 10), .int .i64 (G 11), .int .i64 (G 12), .int .i64 (G 13), .int .i64 (G 14), .int .i64 (G 15)]) (.agg #[.int .i64 (H 0), .int .i64 (H 1), .int .i64 (H 2), .int .i64 (H 3), .int .i64 (H 4), .int .i64 (H 5), .int .i64 (H 6), .int .i64 (H 7), .int .i64 (H 8), .int .i64 (H 9), .int .i64 (H 10), .int .i64 (H 11), .int .i64 (H 12), .int .i64 (H 13), .int .i64 (H 14), .int .i64 (H 15)]) _ _ (by simp [Value.formed, Tryd.underlying22]; exact (by kernel_rfl : 16 = Tryd.prog.cellsOf 22)) (by simp [Value.formed, Tryd.underlying22]; exact (by kernel_rfl : 16 = Tryd.prog.cellsOf 22)) (key_gens hG) (key_gens hH)
  rw [hr]
  congr 1
  rw [Bool.eq_iff_iff, hiff]
  simp [gEq, List.range_succ]
theorem eq_take {α : Type} (xs ys : List α) (k : Nat) (x y : α) (h : xs.take k = ys.take k) (hx : xs[k]? = some x) (hy : ys[k]? = some y) (e : x = y) : xs.take (k + 1) = ys.take (k + 1) := by
  rw [take_snoc hx, take_snoc hy, h, e]
theorem ne_at {α : Type} (xs ys : List α) (k : Nat) (x y : α) (hx : xs[k]? = some x) (hy : ys[k]? = some y) (e : x ≠ y) : xs ≠ ys := by
  rintro rfl
  rw [hx] at hy
  exact e (Option.some.inj hy)
set_option maxRecDepth 100000 in
set_option maxHeartbeats 2000000 in
theorem EqPr_any (xs ys : List Pr) (a a' : Option Addr) (n n' cap cap' : Nat) (w : World) (hx : xs.length = n) (hy : ys.length = n') (hxb : PrsOk xs) (hyb : PrsOk ys) (h : Leads w a n cap (prcells xs)) (h' : Leads w a' n' cap' (prcells ys)) :
    Calls Tryd.prog 21 #[.slice a n cap, .slice a' n' cap'] w (Ret (.bool (decide (xs = ys))) w) := by
  have hn := h.len.1
  have hn' := h'.len.1
  by_cases hnn : n = n'
  · subst hnn
    have H := hid h
    have H' := hid h'
    have HX := hid hx
    have HY := hid hy
    have HXB := hid hxb
    have HYB := hid hyb
    clear h h' hx hy hxb hyb
    go_enter Tryd.func21, Tryd.ntmps21
    go_wp2
    go_loopg [13] n (fun g  i wr => ∃ k : Nat, g + k = n ∧ i = .int .i64 (k : Nat) ∧ Hid (xs.take k = ys.take k) ∧ Hid (Below w.heap.size w wr))
    case atStart => exact ⟨0, rfl, rfl, hid rfl, hid (Below.refl _ _)⟩
    case round =>
      obtain ⟨k, hk, rfl, hs, hb⟩ := hrel
      have HK := hid hk
      clear hk
      by_cases hlt : k < n
      · obtain ⟨⟨x0, x1, x2, x3⟩, hxk⟩ : ∃ x, xs[k]? = some x := ⟨_, List.getElem?_eq_getElem (by rw [HX.out]; exact hlt)⟩
        obtain ⟨⟨y0, y1, y2, y3⟩, hyk⟩ : ∃ x, ys[k]? = some x := ⟨_, List.getElem?_eq_getElem (by rw [HY.out]; exact hlt)⟩
        obtain ⟨b, off, rfl, -, hcx⟩ := H.out.pr hlt hxk
        obtain ⟨b', off', rfl, -, hcy⟩ := H'.out.pr hlt hyk
        have heq := pr_eq x0 x1 x3 y0 y1 y3 x2 y2 (HXB.out _ (List.mem_of_getElem? hxk)) (HYB.out _ (List.mem_of_getElem? hyk))
        obtain ⟨E, hE⟩ : ∃ E, decide ((x0, x1, x2, x3) = (y0, y1, y2, y3)) = E := ⟨_, rfl⟩
        rw [hE] at heq
        have HB1 := hid hb.out
        have f0 : ∀ z : Ext wr, z.v.cell? ⟨b, off + k * 4, none⟩ = some (.int .u64 ((x0 : Nat) : Int)) := fun z => (hcx z.v (step hb.out z.b)).1
        have f1 : ∀ z : Ext wr, z.v.cell? ⟨b, off + k * 4 + 1, none⟩ = some (.int .u64 ((x1 : Nat) : Int)) := fun z => (hcx z.v (step hb.out z.b)).2.1
        have f2 : ∀ z : Ext wr, z.v.cell? ⟨b, off + k * 4 + 2, none⟩ = some (.bool x2) := fun z => (hcx z.v (step hb.out z.b)).2.2.1
        have f3 : ∀ z : Ext wr, z.v.cell? ⟨b, off + k * 4 + 3, none⟩ = some (.int .u64 ((x3 : Nat) : Int)) := fun z => (hcx z.v (step hb.out z.b)).2.2.2
        have g0 : ∀ z : Ext wr, z.v.cell? ⟨b', off' + k * 4, none⟩ = some (.int .u64 ((y0 : Nat) : Int)) := fun z => (hcy z.v (step HB1.out z.b)).1
        have g1 : ∀ z : Ext wr, z.v.cell? ⟨b', off' + k * 4 + 1, none⟩ = some (.int .u64 ((y1 : Nat) : Int)) := fun z => (hcy z.v (step HB1.out z.b)).2.1
        have g2 : ∀ z : Ext wr, z.v.cell? ⟨b', off' + k * 4 + 2, none⟩ = some (.bool y2) := fun z => (hcy z.v (step HB1.out z.b)).2.2.1
        have g3 : ∀ z : Ext wr, z.v.cell? ⟨b', off' + k * 4 + 3, none⟩ = some (.int .u64 ((y3 : Nat) : Int)) := fun z => (hcy z.v (step HB1.out z.b)).2.2.2
        go_upto_region 6 with (fail)
        by_cases he : (x0, x1, x2, x3) = (y0, y1, y2, y3)
        · have HT := hid (eq_take _ _ k _ _ hs.out hxk hyk he)
          have hEt : E = true := by rw [← hE]; exact decide_eq_true he
          subst hEt
          clear hcx hcy hxk hyk hs hE he
          refine wp_region_ext (by kernel_rfl) (by kernel_rfl) ?_
          repeat (go_big_quiet_step (fail))
          refine wpQuiet_nil ?_
          rintro v8 ⟨x8, e8⟩
          have HB2 := hid (step HB1.out x8.b)
          rw [← e8] at HB2
          clear e8 x8
          go_wp2
          go_roundg (gk - 1)
          case measure => have := HK.out; omega
          case rel => exact ⟨k + 1, by have := HK.out; omega, by go_num, HT, HB2⟩
        · have HT := hid (ne_at _ _ k _ _ hxk hyk he)
          have hEt : E = false := by rw [← hE]; exact decide_eq_false he
          subst hEt
          clear hcx hcy hxk hyk hs hE he
          refine wp_region_ext (by kernel_rfl) (by kernel_rfl) ?_
          repeat (go_big_quiet_step (fail))
          refine wpQuiet_nil ?_
          rintro v8 ⟨x8, e8⟩
          have HB2 := hid (step HB1.out x8.b)
          rw [← e8] at HB2
          clear e8 x8
          go_wp2
          go_ret
          exact ⟨retb (decide_eq_false HT.out).symm, HB2.out⟩
      · have e := HK.out
        obtain rfl : k = n := by omega
        have HE : Hid (xs = ys) := hid (by
          have := hs.out
          rwa [List.take_of_length_le (by rw [HX.out]; exact Nat.le_refl _), List.take_of_length_le (by rw [HY.out]; exact Nat.le_refl _)] at this)
        clear hs e HK
        go_wp2
        go_ret
        exact ⟨retb (decide_eq_true HE.out).symm, hb.out⟩
  · have hne : xs ≠ ys := fun e => hnn (by rw [← hx, ← hy, e])
    have HE := hid hne
    have q : (((n : Nat) : Int) != ((n' : Nat) : Int)) = true := by simp; omega
    clear h h' hx hy hxb hyb hne hnn
    go_enter Tryd.func21, Tryd.ntmps21
    go_wp2
    go_ret
    exact ⟨retb (decide_eq_false HE.out).symm, Below.refl _ _⟩
end Go.Proofs.YtmnbkhmphhgdiaaDoor
