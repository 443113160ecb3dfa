/- Several texts in one. -/
import Derived.Test.YtahicokokfcieaaDoorTgAv
import Derived.Test.YtahicokokfcieaaDoorTgAi
import Derived.Laws.StructEq
import Derived.DeepKeys
import Derived.Test.YtahicokokfcieaaDoorTgAd
import Derived.Lib.SliceRun
import Derived.Deep.LoopGhost
namespace Go.Proofs.YtahicokokfcieaaDoor
open Go.RowKit
open Go.Proofs
set_option linter.unusedVariables false
attribute [local go_sem] Oper.semAt_some
theorem wf_u64 {x : Nat} (h : x < 18446744073709551616) : (Lit.int .u64 ((x : Nat) : Int)).wf = true := by
  simp [Lit.wf, IntKind.min, IntKind.max, IntKind.signed, IntKind.bits]
  omega
theorem wf_i64 {x : Int} (h : -9223372036854775808 ≤ x ∧ x ≤ 9223372036854775807) : (Lit.int .i64 x).wf = true := by
  simp [Lit.wf, IntKind.min, IntKind.max, IntKind.signed, IntKind.bits]
  omega
theorem key_u64 (d : Nat) {x : Nat} (h : x < 18446744073709551616) : Tryd.prog.keyLits (d + 1) 25 [.int .u64 ((x : Nat) : Int)] = some [.int .u64 ((x : Nat) : Int)] := by
  simp [Program.keyLits, Tryd.underlying25, wf_u64 h]
theorem key_i64 (d : Nat) {x : Int} (h : -9223372036854775808 ≤ x ∧ x ≤ 9223372036854775807) : Tryd.prog.keyLits (d + 1) 3 [.int .i64 x] = some [.int .i64 x] := by
  simp [Program.keyLits, Tryd.underlying3, wf_i64 h]
theorem key_bool (d : Nat) (b : Bool) : Tryd.prog.keyLits (d + 1) 4 [.bool b] = some [.bool b] := by
  simp [Program.keyLits, Tryd.underlying4]
theorem key_rw {x0 x1 x2 x3 : Nat} (h : x0 < 1000 ∧ x1 < 18446744073709551616 ∧ x2 < 18446744073709551616 ∧ x3 < 18446744073709551616) : Tryd.prog.keyLits 2 53 [.int .i64 ((x0 : Nat) : Int), .int .u64 ((x1 : Nat) : Int), .int .u64 ((x2 : Nat) : Int), .int .u64 ((x3 : Nat) : Int)] = some [.int .i64 ((x0 : Nat) : Int), .int .u64 ((x1 : Nat) : Int), .int .u64 ((x2 : Nat) : Int), .int .u64 ((x3 : Nat) : Int)] := by
  have hc0 : Tryd.prog.cellsOf 25 = 1 := by kernel_rfl
  have hc1 : Tryd.prog.cellsOf 3 = 1 := by kernel_rfl
  have hc2 : Tryd.prog.cellsOf 53 = 4 := by kernel_rfl
  unfold Program.keyLits
  simp only [Tryd.underlying53]
  simp [hc0, hc1, hc2, key_i64 0 (show -9223372036854775808 ≤ ((x0 : Nat) : Int) ∧ ((x0 : Nat) : Int) ≤ 9223372036854775807 by omega), key_u64 0 h.2.1, key_u64 0 h.2.2.1, key_u64 0 h.2.2.2]
set_option maxRecDepth 100000 in
theorem rw_eq (x0 x1 x2 x3 y0 y1 y2 y3 : Nat) (hx : x0 < 1000 ∧ x1 < 18446744073709551616 ∧ x2 < 18446744073709551616 ∧ x3 < 18446744073709551616) (hy : y0 < 1000 ∧ y1 < 18446744073709551616 ∧ y2 < 18446744073709551616 ∧ y3 < 18446744073709551616) (w : World) :
    (Op.equalIn 10000 53 (.agg #[.int .i64 ((x0 : Nat) : Int), .int .u64 ((x1 : Nat) : Int), .int .u64 ((x2 : Nat) : Int), .int .u64 ((x3 : Nat) : Int)]) (.agg #[.int .i64 ((y0 : Nat) : Int), .int .u64 ((y1 : Nat) : Int), .int .u64 ((y2 : Nat) : Int), .int .u64 ((y3 : Nat) : Int)])).run Tryd.prog w = .ok (decide ((x0, x1, x2, x3) = (y0, y1, y2, y3))) w := by
  have h1 := key_rw hx
  have h2 := key_rw hy
  obtain ⟨r, hr, hiff⟩ := run_equalIn_deep (P := Tryd.prog) 9998 2 53 (by kernel_rfl) w 2 2 (.agg #[.int .i64 ((x0 : Nat) : Int), .int .u64 ((x1 : Nat) : Int), .int .u64 ((x2 : Nat) : Int), .int .u64 ((x3 : Nat) : Int)]) (.agg #[.int .i64 ((y0 : Nat) : Int), .int .u64 ((y1 : Nat) : Int), .int .u64 ((y2 : Nat) : Int), .int .u64 ((y3 : Nat) : Int)]) _ _ (by simp [Value.formed, Tryd.underlying53]; exact (by kernel_rfl : 4 = Tryd.prog.cellsOf 53)) (by simp [Value.formed, Tryd.underlying53]; exact (by kernel_rfl : 4 = Tryd.prog.cellsOf 53)) h1 h2
  rw [hr]
  congr 1
  rw [Bool.eq_iff_iff, hiff]
  simp
  omega
theorem key_sk {s : Sk} (h : s.Ok) : Tryd.prog.keyLits 2 44 [.int .i64 s.ph, .int .u64 ((s.hash : Nat) : Int), .int .u64 ((s.key : Nat) : Int), .int .u64 ((s.link : Nat) : Int), .int .u64 ((s.node : Nat) : Int), .int .u64 ((s.val : Nat) : Int), .bool s.found] = some [.int .i64 s.ph, .int .u64 ((s.hash : Nat) : Int), .int .u64 ((s.key : Nat) : Int), .int .u64 ((s.link : Nat) : Int), .int .u64 ((s.node : Nat) : Int), .int .u64 ((s.val : Nat) : Int), .bool s.found] := by
  have hc0 : Tryd.prog.cellsOf 25 = 1 := by kernel_rfl
  have hc1 : Tryd.prog.cellsOf 3 = 1 := by kernel_rfl
  have hc2 : Tryd.prog.cellsOf 4 = 1 := by kernel_rfl
  have hc3 : Tryd.prog.cellsOf 44 = 7 := by kernel_rfl
  unfold Program.keyLits
  simp only [Tryd.underlying44]
  simp [hc0, hc1, hc2, hc3, key_i64 0 h.ph, key_bool 0, key_u64 0 h.hash, key_u64 0 h.key, key_u64 0 h.link, key_u64 0 h.node, key_u64 0 h.val]
theorem Sk.ext_iff' (s t : Sk) : s = t ↔ s.ph = t.ph ∧ s.hash = t.hash ∧ s.key = t.key ∧ s.link = t.link ∧ s.node = t.node ∧ s.val = t.val ∧ s.found = t.found := by
  cases s; cases t; simp
instance : DecidableEq Sk := fun s t => decidable_of_iff _ (Sk.ext_iff' s t).symm
set_option maxRecDepth 100000 in
theorem sk_eq (s t : Sk) (hs : s.Ok) (ht : t.Ok) (w : World) :
    (Op.equalIn 10000 44 (.agg #[.int .i64 s.ph, .int .u64 ((s.hash : Nat) : Int), .int .u64 ((s.key : Nat) : Int), .int .u64 ((s.link : Nat) : Int), .int .u64 ((s.node : Nat) : Int), .int .u64 ((s.val : Nat) : Int), .bool s.found]) (.agg #[.int .i64 t.ph, .int .u64 ((t.hash : Nat) : Int), .int .u64 ((t.key : Nat) : Int), .int .u64 ((t.link : Nat) : Int), .int .u64 ((t.node : Nat) : Int), .int .u64 ((t.val : Nat) : Int), .bool t.found])).run Tryd.prog w = .ok (decide (s = t)) w := by
  have h1 := key_sk hs
  have h2 := key_sk ht
  obtain ⟨r, hr, hiff⟩ := run_equalIn_deep (P := Tryd.prog) 9998 2 44 (by kernel_rfl) w 2 2 (.agg #[.int .i64 s.ph, .int .u64 ((s.hash : Nat) : Int), .int .u64 ((s.key : Nat) : Int), .int .u64 ((s.link : Nat) : Int), .int .u64 ((s.node : Nat) : Int), .int .u64 ((s.val : Nat) : Int), .bool s.found]) (.agg #[.int .i64 t.ph, .int .u64 ((t.hash : Nat) : Int), .int .u64 ((t.key : Nat) : Int), .int .u64 ((t.link : Nat) : Int), .int .u64 ((t.node : Nat) : Int), .int .u64 ((t.val : Nat) : Int), .bool t.found]) _ _ (by simp [Value.formed, Tryd.underlying44]; exact (by kernel_rfl : 7 = Tryd.prog.cellsOf 44)) (by simp [Value.formed, Tryd.underlying44]; exact (by kernel_rfl : 7 = Tryd.prog.cellsOf 44)) h1 h2
  rw [hr]
  congr 1
  rw [Bool.eq_iff_iff, hiff, decide_eq_true_iff, Sk.ext_iff']
  simp
  intro _
  constructor
  · rintro ⟨a, b, c, d, e, f⟩; exact ⟨by omega, by omega, by omega, by omega, by omega, f⟩
  · rintro ⟨a, b, c, d, e, f⟩; exact ⟨by omega, by omega, by omega, by omega, by omega, f⟩
theorem key_lk {l : Lk} (h : l.Ok) : Tryd.prog.keyLits 3 46 [.int .i64 l.ph, .int .u64 ((l.root : Nat) : Int), .int .u64 ((l.key : Nat) : Int), .int .u64 ((l.array : Nat) : Int), .int .i64 l.many, .int .i64 l.s.ph, .int .u64 ((l.s.hash : Nat) : Int), .int .u64 ((l.s.key : Nat) : Int), .int .u64 ((l.s.link : Nat) : Int), .int .u64 ((l.s.node : Nat) : Int), .int .u64 ((l.s.val : Nat) : Int), .bool l.s.found] = some [.int .i64 l.ph, .int .u64 ((l.root : Nat) : Int), .int .u64 ((l.key : Nat) : Int), .int .u64 ((l.array : Nat) : Int), .int .i64 l.many, .int .i64 l.s.ph, .int .u64 ((l.s.hash : Nat) : Int), .int .u64 ((l.s.key : Nat) : Int), .int .u64 ((l.s.link : Nat) : Int), .int .u64 ((l.s.node : Nat) : Int), .int .u64 ((l.s.val : Nat) : Int), .bool l.s.found] := by
  have hc0 : Tryd.prog.cellsOf 25 = 1 := by kernel_rfl
  have hc1 : Tryd.prog.cellsOf 3 = 1 := by kernel_rfl
  have hc2 : Tryd.prog.cellsOf 44 = 7 := by kernel_rfl
  have hc3 : Tryd.prog.cellsOf 46 = 12 := by kernel_rfl
  have ht := key_sk h.s
  unfold Program.keyLits
  simp only [Tryd.underlying46]
  simp [hc0, hc1, hc2, hc3, key_i64 1 h.ph, key_i64 1 h.many, key_u64 1 h.root, key_u64 1 h.key, key_u64 1 h.array, ht]
theorem Lk.ext_iff' (s t : Lk) : s = t ↔ s.ph = t.ph ∧ s.root = t.root ∧ s.key = t.key ∧ s.array = t.array ∧ s.many = t.many ∧ s.s = t.s := by
  cases s; cases t; simp
instance : DecidableEq Lk := fun s t => decidable_of_iff _ (Lk.ext_iff' s t).symm
set_option maxRecDepth 100000 in
theorem lk_eq (s t : Lk) (hs : s.Ok) (ht : t.Ok) (w : World) :
    (Op.equalIn 10000 46 (.agg #[.int .i64 s.ph, .int .u64 ((s.root : Nat) : Int), .int .u64 ((s.key : Nat) : Int), .int .u64 ((s.array : Nat) : Int), .int .i64 s.many, .int .i64 s.s.ph, .int .u64 ((s.s.hash : Nat) : Int), .int .u64 ((s.s.key : Nat) : Int), .int .u64 ((s.s.link : Nat) : Int), .int .u64 ((s.s.node : Nat) : Int), .int .u64 ((s.s.val : Nat) : Int), .bool s.s.found]) (.agg #[.int .i64 t.ph, .int .u64 ((t.root : Nat) : Int), .int .u64 ((t.key : Nat) : Int), .int .u64 ((t.array : Nat) : Int), .int .i64 t.many, .int .i64 t.s.ph, .int .u64 ((t.s.hash : Nat) : Int), .int .u64 ((t.s.key : Nat) : Int), .int .u64 ((t.s.link : Nat) : Int), .int .u64 ((t.s.node : Nat) : Int), .int .u64 ((t.s.val : Nat) : Int), .bool t.s.found])).run Tryd.prog w = .ok (decide (s = t)) w := by
  have h1 := key_lk hs
  have h2 := key_lk ht
  obtain ⟨r, hr, hiff⟩ := run_equalIn_deep (P := Tryd.prog) 9997 3 46 (by kernel_rfl) w 3 3 (.agg #[.int .i64 s.ph, .int .u64 ((s.root : Nat) : Int), .int .u64 ((s.key : Nat) : Int), .int .u64 ((s.array : Nat) : Int), .int .i64 s.many, .int .i64 s.s.ph, .int .u64 ((s.s.hash : Nat) : Int), .int .u64 ((s.s.key : Nat) : Int), .int .u64 ((s.s.link : Nat) : Int), .int .u64 ((s.s.node : Nat) : Int), .int .u64 ((s.s.val : Nat) : Int), .bool s.s.found]) (.agg #[.int .i64 t.ph, .int .u64 ((t.root : Nat) : Int), .int .u64 ((t.key : Nat) : Int), .int .u64 ((t.array : Nat) : Int), .int .i64 t.many, .int .i64 t.s.ph, .int .u64 ((t.s.hash : Nat) : Int), .int .u64 ((t.s.key : Nat) : Int), .int .u64 ((t.s.link : Nat) : Int), .int .u64 ((t.s.node : Nat) : Int), .int .u64 ((t.s.val : Nat) : Int), .bool t.s.found]) _ _ (by simp [Value.formed, Tryd.underlying46]; exact (by kernel_rfl : 12 = Tryd.prog.cellsOf 46)) (by simp [Value.formed, Tryd.underlying46]; exact (by kernel_rfl : 12 = Tryd.prog.cellsOf 46)) h1 h2
  rw [hr]
  congr 1
  rw [Bool.eq_iff_iff, hiff, decide_eq_true_iff, Lk.ext_iff', Sk.ext_iff']
  simp
  intro hph
  constructor <;> (intro h; (repeat' apply And.intro) <;> first | omega | simp only [h])
/-- A node of a row. -/
theorem Leads.rw {w : World} {a : Option Addr} {n cap k : Nat} {xs : List Rw} {x : Rw} (h : Leads w a n cap (rwcells xs)) (hk : k < n) (hx : xs[k]? = some x) : ∃ b off, a = some ⟨b, off, none⟩ ∧ b < w.heap.size ∧ ∀ w', Below w.heap.size w w' → w'.cell? ⟨b, off + k * 4, none⟩ = some (.int .i64 ((x.1 : Nat) : Int)) ∧ w'.cell? ⟨b, off + k * 4 + 1, none⟩ = some (.int .u64 ((x.2.1 : Nat) : Int)) ∧ w'.cell? ⟨b, off + k * 4 + 2, none⟩ = some (.int .u64 ((x.2.2.1 : Nat) : Int)) ∧ w'.cell? ⟨b, off + k * 4 + 3, none⟩ = some (.int .u64 ((x.2.2.2 : Nat) : Int)) := by
  obtain ⟨_, _, ⟨q, _⟩ | ⟨b, off, rfl, hb, hc⟩⟩ := h
  · omega
  · have hat : ∀ i, i < 4 → (rwcells xs)[k * 4 + i]? = (rw4 x)[i]? := fun i hi => flat_at rw4 4 (fun _ => rfl) xs k i _ hx hi
    refine ⟨b, off, rfl, hb, fun w' hw => ⟨?_, ?_, ?_, ?_⟩⟩
    · exact (hw.cell (p := ⟨b, off + k * 4, none⟩) hb).trans (hc (k * 4 + 0) _ (hat 0 (by decide)))
    · exact (hw.cell (p := ⟨b, off + k * 4 + 1, none⟩) hb).trans (hc (k * 4 + 1) _ (hat 1 (by decide)))
    · exact (hw.cell (p := ⟨b, off + k * 4 + 2, none⟩) hb).trans (hc (k * 4 + 2) _ (hat 2 (by decide)))
    · exact (hw.cell (p := ⟨b, off + k * 4 + 3, none⟩) hb).trans (hc (k * 4 + 3) _ (hat 3 (by decide)))
def RwsOk (xs : List Rw) : Prop := ∀ t ∈ xs, t.1 < 1000 ∧ t.2.1 < 18446744073709551616 ∧ t.2.2.1 < 18446744073709551616 ∧ t.2.2.2 < 18446744073709551616
set_option maxRecDepth 100000 in
set_option maxHeartbeats 2000000 in
theorem EqRw_any (xs ys : List Rw) (a a' : Option Addr) (n n' cap cap' : Nat) (w : World) (hx : xs.length = n) (hy : ys.length = n') (hxb : RwsOk xs) (hyb : RwsOk ys) (h : Leads w a n cap (rwcells xs)) (h' : Leads w a' n' cap' (rwcells ys)) :
    Calls Tryd.prog 21 #[.slice a n cap, .slice a' n' cap'] w (Ret (.bool (decide (xs = ys))) w) := by
  have hn := h.len.1
  have hn' := h'.len.1
  by_cases hnn : n = n'
  · subst hnn
    have H := hid h
    have H' := hid h'
    have HX := hid hx
    have HY := hid hy
    have HXB := hid hxb
    have HYB := hid hyb
    clear h h' hx hy hxb hyb
    go_enter Tryd.func21, Tryd.ntmps21
    go_wp2
    go_loopg [13] n (fun g  i wr => ∃ k : Nat, g + k = n ∧ i = .int .i64 (k : Nat) ∧ Hid (xs.take k = ys.take k) ∧ Hid (Below w.heap.size w wr))
    case atStart => exact ⟨0, rfl, rfl, hid rfl, hid (Below.refl _ _)⟩
    case round =>
      obtain ⟨k, hk, rfl, hs, hb⟩ := hrel
      have HK := hid hk
      clear hk
      by_cases hlt : k < n
      · obtain ⟨⟨x0, x1, x2, x3⟩, hxk⟩ : ∃ x, xs[k]? = some x := ⟨_, List.getElem?_eq_getElem (by rw [HX.out]; exact hlt)⟩
        obtain ⟨⟨y0, y1, y2, y3⟩, hyk⟩ : ∃ x, ys[k]? = some x := ⟨_, List.getElem?_eq_getElem (by rw [HY.out]; exact hlt)⟩
        obtain ⟨b, off, rfl, -, hcx⟩ := H.out.rw hlt hxk
        obtain ⟨b', off', rfl, -, hcy⟩ := H'.out.rw hlt hyk
        have heq := rw_eq x0 x1 x2 x3 y0 y1 y2 y3 (HXB.out _ (List.mem_of_getElem? hxk)) (HYB.out _ (List.mem_of_getElem? hyk))
        obtain ⟨E, hE⟩ : ∃ E, decide ((x0, x1, x2, x3) = (y0, y1, y2, y3)) = E := ⟨_, rfl⟩
        rw [hE] at heq
        have HB1 := hid hb.out
        have f0 : ∀ z : Ext wr, z.v.cell? ⟨b, off + k * 4, none⟩ = some (.int .i64 ((x0 : Nat) : Int)) := fun z => (hcx z.v (step hb.out z.b)).1
        have f1 : ∀ z : Ext wr, z.v.cell? ⟨b, off + k * 4 + 1, none⟩ = some (.int .u64 ((x1 : Nat) : Int)) := fun z => (hcx z.v (step hb.out z.b)).2.1
        have f2 : ∀ z : Ext wr, z.v.cell? ⟨b, off + k * 4 + 2, none⟩ = some (.int .u64 ((x2 : Nat) : Int)) := fun z => (hcx z.v (step hb.out z.b)).2.2.1
        have f3 : ∀ z : Ext wr, z.v.cell? ⟨b, off + k * 4 + 3, none⟩ = some (.int .u64 ((x3 : Nat) : Int)) := fun z => (hcx z.v (step hb.out z.b)).2.2.2
        have g0 : ∀ z : Ext wr, z.v.cell? ⟨b', off' + k * 4, none⟩ = some (.int .i64 ((y0 : Nat) : Int)) := fun z => (hcy z.v (step HB1.out z.b)).1
        have g1 : ∀ z : Ext wr, z.v.cell? ⟨b', off' + k * 4 + 1, none⟩ = some (.int .u64 ((y1 : Nat) : Int)) := fun z => (hcy z.v (step HB1.out z.b)).2.1
        have g2 : ∀ z : Ext wr, z.v.cell? ⟨b', off' + k * 4 + 2, none⟩ = some (.int .u64 ((y2 : Nat) : Int)) := fun z => (hcy z.v (step HB1.out z.b)).2.2.1
        have g3 : ∀ z : Ext wr, z.v.cell? ⟨b', off' + k * 4 + 3, none⟩ = some (.int .u64 ((y3 : Nat) : Int)) := fun z => (hcy z.v (step HB1.out z.b)).2.2.2
        go_upto_region 6 with (fail)
        by_cases he : (x0, x1, x2, x3) = (y0, y1, y2, y3)
        · have HT := hid (eq_take _ _ k _ _ hs.out hxk hyk he)
          have hEt : E = true := by rw [← hE]; exact decide_eq_true he
          subst hEt
          clear hcx hcy hxk hyk hs hE he
          refine wp_region_ext (by kernel_rfl) (by kernel_rfl) ?_
          repeat (go_big_quiet_step (fail))
          refine wpQuiet_nil ?_
          rintro v8 ⟨x8, e8⟩
          have HB2 := hid (step HB1.out x8.b)
          rw [← e8] at HB2
          clear e8 x8
          go_wp2
          go_roundg (gk - 1)
          case measure => have := HK.out; omega
          case rel => exact ⟨k + 1, by have := HK.out; omega, by go_num, HT, HB2⟩
        · have HT := hid (ne_at _ _ k _ _ hxk hyk he)
          have hEt : E = false := by rw [← hE]; exact decide_eq_false he
          subst hEt
          clear hcx hcy hxk hyk hs hE he
          refine wp_region_ext (by kernel_rfl) (by kernel_rfl) ?_
          repeat (go_big_quiet_step (fail))
          refine wpQuiet_nil ?_
          rintro v8 ⟨x8, e8⟩
          have HB2 := hid (step HB1.out x8.b)
          rw [← e8] at HB2
          clear e8 x8
          go_wp2
          go_ret
          exact ⟨retb (decide_eq_false HT.out).symm, HB2.out⟩
      · have e := HK.out
        obtain rfl : k = n := by omega
        have HE : Hid (xs = ys) := hid (by
          have := hs.out
          rwa [List.take_of_length_le (by rw [HX.out]; exact Nat.le_refl _), List.take_of_length_le (by rw [HY.out]; exact Nat.le_refl _)] at this)
        clear hs e HK
        go_wp2
        go_ret
        exact ⟨retb (decide_eq_true HE.out).symm, hb.out⟩
  · have hne : xs ≠ ys := fun e => hnn (by rw [← hx, ← hy, e])
    have HE := hid hne
    have q : (((n : Nat) : Int) != ((n' : Nat) : Int)) = true := by simp; omega
    clear h h' hx hy hxb hyb hne hnn
    go_enter Tryd.func21, Tryd.ntmps21
    go_wp2
    go_ret
    exact ⟨retb (decide_eq_false HE.out).symm, Below.refl _ _⟩
end Go.Proofs.YtahicokokfcieaaDoor
namespace Go.Proofs.YtahicokokfcieaaDoor
open Go.RowKit
open Go.Proofs
set_option linter.unusedVariables false

theorem take_min96 {α : Type} (l : List α) : l.take (min l.length 96) = l.take 96 := by
  rcases Nat.le_total l.length 96 with h | h
  · rw [Nat.min_eq_left h, List.take_of_length_le (Nat.le_refl _), List.take_of_length_le h]
  · rw [Nat.min_eq_right h]
def take96 (M : Mem) : Mem := ⟨M.W.take 96, M.L.take 96, M.F⟩
theorem lawown_result {W : World} {b : Nat} {v0 v1 v2 : Value} {tmps : Array Value} (h : W.heap[b]? = some (.cells #[v0, v1, v2] 38 (0, 0))) (hp : tmps[2]?.getD undef = .pointer (some ⟨b, 0, none⟩)) :
    (results Tryd.f12 tmps).run Tryd.prog W = .ok (.agg #[v0, v1, v2]) W := by
  have h0 := cell_laid (i := 0) (v := v0) h rfl
  have h1 := cell_laid (i := 1) (v := v1) h rfl
  have h2 := cell_laid (i := 2) (v := v2) h rfl
  simp [results, Tryd.results12, go_sem, hp, h0, h1, h2]
set_option maxRecDepth 100000 in
set_option maxHeartbeats 4000000 in
theorem lawown_any (M : Mem) (wa la : Option Addr) (wc lc : Nat) (V : World) (h : MemL V wa wc la lc M) :
    Calls Tryd.prog 12 #[memV wa wc la lc M] V (GivesM (take96 M) V) := by
  obtain ⟨V1, hV1, hb1, hs1, hl1⟩ := laid V #[.slice wa M.W.length wc, .slice la M.L.length lc, .bool M.F] 38
  obtain ⟨V2, hV2, hb2, hs2, hl2⟩ := laid V1 #[.slice none 0 0, .slice none 0 0, .bool false] 38
  obtain ⟨X, hX⟩ : ∃ X, V.heap.size = X := ⟨_, rfl⟩
  obtain ⟨Z, hZ⟩ : ∃ Z, V1.heap.size = Z := ⟨_, rfl⟩
  rw [hX] at hl1
  rw [hZ] at hl2
  have HX := hid (keep_laid hl1 hb2)
  have HZ := hid hl2
  have HB2 := hid (step hb1 hb2)
  have HZV : Hid (V.heap.size ≤ Z) := hid (by rw [← hZ]; exact hb1.size)
  have hwl := h.w.len
  have hll := h.l.len
  have hwc1 := h.w.1
  have hlc1 := h.l.1
  obtain ⟨F, hF⟩ : ∃ F, M.F = F := ⟨_, rfl⟩
  obtain ⟨n, hn⟩ : ∃ n, M.W.length = n := ⟨_, rfl⟩
  obtain ⟨m, hm⟩ : ∃ m, M.L.length = m := ⟨_, rfl⟩
  obtain ⟨k, hk⟩ : ∃ k, min n 96 = k := ⟨_, rfl⟩
  obtain ⟨j, hj⟩ : ∃ j, min m 96 = j := ⟨_, rfl⟩
  have hkI : min (((n : Nat) : Int)) 96 = ((k : Nat) : Int) := by omega
  have hjI : min (((m : Nat) : Int)) 96 = ((j : Nat) : Int) := by omega
  have hkn : k ≤ n := by omega
  have hjm : j ≤ m := by omega
  have hk64 : k ≤ 96 := by omega
  have hj64 : j ≤ 96 := by omega
  have hW := h.w
  have hLv := h.l
  rw [hn] at hW hV1 HX hwl hwc1
  rw [hm] at hLv hV1 HX hll hlc1
  rw [hF] at hV1 HX
  have hkc : k ≤ wc := Nat.le_trans hkn hwc1
  have hjc : j ≤ lc := Nat.le_trans hjm hlc1
  have e1 : (wcells M.W).take k = wcells (M.W.take 96) := by rw [← hk, ← hn]; unfold wcells; rw [← List.map_take, take_min96]
  have e2 : (bcells M.L).take j = bcells (M.L.take 96) := by rw [← hj, ← hm]; unfold bcells; rw [← List.map_take, take_min96]
  have l1 : (M.W.take 96).length = k := by rw [List.length_take, hn]; omega
  have l2 : (M.L.take 96).length = j := by rw [List.length_take, hm]; omega
  have HCW := hid fun W (hb : Below V.heap.size V W) => CloneW_any wa k wc (wcells (M.W.take 96)) W (by rw [← e1]; exact (hW.vtake (by rw [wcells_len, hn]) hkn).grow hb) (by rw [wcells_len, l1]; omega) (by omega) (wcells_one _)
  have HCB := hid fun W (hb : Below V.heap.size V W) => CloneB_any la j lc (bcells (M.L.take 96)) W (by rw [← e2]; exact (hLv.vtake (by rw [bcells_len, hm]) hjm).grow hb) (by rw [bcells_len, l2]; omega) (by omega) (bcells_one _)
  have HL1 := hid l1
  have HL2 := hid l2
  have HF := hid hF
  have x0 : ∀ z : Ext V2, z.v.cell? ⟨X, 0, none⟩ = some (.slice wa n wc) := fun z => (cells3 (keep_laid HX.out z.b)).1
  have x1 : ∀ z : Ext V2, z.v.cell? ⟨X, 1, none⟩ = some (.slice la m lc) := fun z => (cells3 (keep_laid HX.out z.b)).2.1
  have x2 : ∀ z : Ext V2, z.v.cell? ⟨X, 2, none⟩ = some (.bool F) := fun z => (cells3 (keep_laid HX.out z.b)).2.2
  unfold memV
  rw [hn, hm, hF]
  clear h hW hLv e1 e2 l1 l2 hs1 hs2 hb1 hb2 hl1 hl2 hn hm hk hj hF
  go_enter Tryd.func12, Tryd.ntmps12
  go_upto_region 1 with (fail)
  refine wp_region_mix2 (fun W => ∃ z : Ext V2, W = z.v) 19 (.q 0 (.q 1 (.q 2 (.q 3 (.q 4 (.q 5 (.q 6 (.q 8 (.q 9 (.q 10 (.q 11 (.q 12 (.q 13 (.q 14 (.q 16 (.q 17 (.h 7 (.h 15 (.q 18 (.done)))))))))))))))))))) (by kernel_rfl) (by kernel_rfl) ⟨⟨_, (Below.refl _ _).drew⟩, rfl⟩ ?_
  repeat (refine wpMix2_q rfl rfl ?_; go_big_quiet_step (fail); refine wpQuiet_nil ?_)
  refine wpMix2_h rfl fun R' hR' hO => ?_
  have hbd : Below V2.heap.size V2 V2.drew := (Below.refl _ _).drew
  go_wp2_with fail
  refine (HCW.out _ (step HB2.out hbd)).mono ?_
  rintro e V3 ⟨v3, rfl, ho3, hb3⟩
  obtain ⟨wa', wc', rfl, -⟩ := Leads.of_own ho3
  have hb23 := step hbd hb3
  have HO3 := hid ho3
  clear ho3
  go_wp2
  refine hR' _ _ ⟨⟨V3, hb23⟩, rfl⟩ ?_
  clear hR' hO R'
  refine wpMix2_h rfl fun R' hR' hO => ?_
  go_wp2_with fail
  refine (HCB.out _ (step HB2.out hb23)).mono ?_
  rintro e V4 ⟨v4, rfl, ho4, hb4⟩
  obtain ⟨la', lc', rfl, -⟩ := Leads.of_own ho4
  have hb24 := step hb23 hb4
  have HMO : Hid (MemO V.heap.size wa' wc' la' lc' (take96 M) V4) := hid (by
    refine ⟨?_, ?_⟩
    · show V4.ownsRow V.heap.size 25 1 (.slice wa' (M.W.take 96).length wc') (M.W.take 96).length (wcells (M.W.take 96))
      rw [HL1.out]
      exact row_base (own_grow HO3.out hb4) (step HB2.out hbd).size
    · show V4.ownsRow V.heap.size 4 1 (.slice la' (M.L.take 96).length lc') (M.L.take 96).length (bcells (M.L.take 96))
      rw [HL2.out]
      exact row_base ho4 (step HB2.out hb23).size)
  clear ho4
  go_wp2
  refine hR' _ _ ⟨⟨V4, hb24⟩, rfl⟩ ?_
  clear hR' hO R'
  refine wpMix2_q rfl rfl ?_
  go_big_quiet_step (fail)
  refine wpQuiet_nil ?_
  refine wpMix2_done ?_
  simp only [List.drop_succ_cons, List.drop_zero]
  have HZ4 := hid (keep_laid HZ.out hb24)
  obtain ⟨z0, z1, z2⟩ := cells3 HZ4.out
  have f0 := free_laid (i := 0) HZ4.out
  have f1 := free_laid (i := 1) HZ4.out
  have f2 := free_laid (i := 2) HZ4.out
  obtain ⟨V5, hV5, hz5, hk5, hb5, hm5⟩ := put_mem HZ4.out (.slice wa' k wc') (.slice la' j lc') (.bool F)
  have HM5 := hid (hm5 _ _ _ _ _ _ HMO.out)
  have HB5 := hid (hb5 _ _ HZV.out (step HB2.out hb24))
  have HZ5 := hid hz5
  have HV5 := hid hV5
  clear hV5 hz5 hk5 hb5 hm5 x0 x1 x2
  go_wp2
  rw [← HV5.out]
  refine bodyPost_ret (lawown_result HZ5.out rfl) rfl ?_
  exact ⟨wa', wc', la', lc', by unfold memV take96; dsimp only; rw [HL1.out, HL2.out, HF.out], HM5.out, HB5.out⟩
end Go.Proofs.YtahicokokfcieaaDoor
namespace Go.Proofs.YtahicokokfcieaaDoor
open Go.RowKit
open Go.Proofs
set_option linter.unusedVariables false

def bcell (z : Bool) : Value := .bool z
theorem rep_splice (z : Bool) (n k j : Nat) (hk : k + j ≤ n) : splice (List.replicate k (bcell z) ++ List.replicate (n - k) (bcell false)) k (List.replicate j (bcell z)) = List.replicate (k + j) (bcell z) ++ List.replicate (n - (k + j)) (bcell false) := by
  unfold splice
  rw [List.take_append_of_le_length (by simp), List.take_of_length_le (by simp), List.length_replicate]
  rw [List.drop_append, List.drop_of_length_le (by simp), List.nil_append, List.length_replicate, List.drop_replicate, ← List.append_assoc, List.replicate_append_replicate]
  congr 2
  omega

set_option maxRecDepth 100000 in
set_option maxHeartbeats 1000000 in
theorem RepeatB_any (z : Bool) (n b : Nat) (w : World) (hc : w.cell? ⟨b, 0, none⟩ = some (.bool z)) (hbw : b < w.heap.size) (hn : n ≤ 100000) (hM : ∀ W, Calls Tryd.prog 52 #[.int .u64 1, .int .u64 (n : Nat)] W (fun e W' => e = .returned (.tuple #[.int .u64 0, .int .u64 (n : Nat)]) ∧ W' = W)) :
    Calls Tryd.prog 27 #[.slice (some ⟨b, 0, none⟩) 1 1, .int .i64 (n : Nat)] w (fun e w' => ∃ g, e = .returned (.slice (some ⟨g, 0, none⟩) n n) ∧ w'.ownsRow w.heap.size 4 1 (.slice (some ⟨g, 0, none⟩) n n) n (List.replicate n (bcell z)) ∧ Below w.heap.size w w') := by
  have hmk := make_bools w n hn
  rw [show Value.bool false = bcell false from rfl] at hmk
  obtain ⟨w1, hw1, hb1, hs1, hl1⟩ := laid w (List.replicate n (bcell false)).toArray 4
  rw [hw1] at hmk
  obtain ⟨M, hMs⟩ : ∃ M, w.heap.size = M := ⟨_, rfl⟩
  rw [hMs] at hmk hl1 hs1
  have HM := hid hM
  have HL1 := hid hl1
  have HC := hid hc
  have hbM : b < M := by omega
  clear hM hl1 hs1 hc
  go_enter Tryd.func27, Tryd.ntmps27
  go_wp2_with fail
  refine (HM.out _).mono ?_
  rintro e w2 ⟨rfl, rfl⟩
  obtain ⟨k0, hk0⟩ : ∃ k0, min 1 n = k0 := ⟨_, rfl⟩
  have hk0n : k0 ≤ n := by omega
  have hk01 : k0 = 0 → n = 0 := by omega
  have HK01 := hid hk01
  have HK0 := hid hk0
  have hwM : w2.heap.size ≤ M := by omega
  clear hk01 hk0
  go_wp2_with ((with_reducible show wpList _ _ _ _ _ _); refine wpList_copy_splice rfl (.tmp 31) (.tmp 32) 36 36 rfl 4 Tryd.underlying36 (by kernel_rfl) _ _ n n 1 1 rfl rfl M 0 (List.replicate n (bcell false)) 4 HL1.out (List.replicate k0 (bcell z)) ?c1 ?c2 ?c3 ?c4 w2.heap.size w2 hb1 hwM ?c5)
  case c1 => rw [List.length_replicate]; exact HK0.out.symm
  case c2 =>
    intro _ j v hj
    obtain ⟨hj1, hj2⟩ := List.getElem?_eq_some_iff.1 hj
    rw [List.length_replicate] at hj1
    rw [List.getElem_replicate] at hj2
    subst hj2
    obtain rfl : j = 0 := by have := HK0.out; omega
    exact (hb1.cell (p := ⟨b, 0, none⟩) hbw).trans HC.out
  case c3 => simp; exact hk0n
  case c4 => intro v hv; rw [List.eq_of_mem_replicate hv]; rfl
  case c5 =>
    intro w3 hg3 hb3
    have hsp := rep_splice z n 0 k0 (by omega)
    rw [Nat.zero_add] at hsp
    simp only [List.replicate_zero, List.nil_append, Nat.sub_zero] at hsp
    have HG3 : Hid (w3.heap[M]? = some (.cells (List.replicate k0 (bcell z) ++ List.replicate (n - k0) (bcell false)).toArray 4 (0, 0))) := hid (by rw [← hsp]; exact hg3.out)
    clear hg3 hsp
    go_wp2
    go_loopg [8] (n - k0) (fun g t8 wr => ∃ k : Nat, g + k = n ∧ (k = 0 → n = 0) ∧ t8 = .int .i64 (k : Nat) ∧ Hid (wr.heap[M]? = some (.cells (List.replicate k (bcell z) ++ List.replicate (n - k) (bcell false)).toArray 4 (0, 0))) ∧ Below w2.heap.size w2 wr)
    case atStart => exact ⟨k0, by omega, HK01.out, rfl, HG3, hb3.mono hwM⟩
    case round =>
      obtain ⟨k, hk, hk1, rfl, hG, hb⟩ := hrel
      have HK := hid hk
      have HK1 := hid hk1
      clear hk hk1
      by_cases hlt : k < n
      · have hkp : 0 < k := by have := HK1.out; omega
        obtain ⟨r, hr⟩ : ∃ r, n - k = r := ⟨_, rfl⟩
        have hkn : k + r = n := by omega
        obtain ⟨j, hj⟩ : ∃ j, min k r = j := ⟨_, rfl⟩
        have HR := hid hr
        have HJ := hid hj
        have hjr : k + j ≤ n := by omega
        have hj0 : 0 < j := by omega
        have hle1 : ((k : Nat) : Int) ≤ ((n : Nat) : Int) := by omega
        have HKN := hid hkn
        clear hr hj hkn
        go_upto_region 9 with (fail)
        refine wp_region_mix2 (fun _ => True) 10 (.q 0 (.q 1 (.q 2 (.q 3 (.q 4 (.q 5 (.q 6 (.h 7 (.q 8 (.q 9 (.done))))))))))) (by kernel_rfl) (by kernel_rfl) trivial ?_
        repeat (refine wpMix2_q rfl rfl ?_; go_big_quiet_step (fail); refine wpQuiet_nil ?_)
        refine wpMix2_h rfl fun R' hR' hO => ?_
        have hcur : (wr.drew).heap[M]? = some (.cells (List.replicate k (bcell z) ++ List.replicate (n - k) (bcell false)).toArray 4 (0, 0)) := hG.out
        refine wpList_copy_splice rfl (.tmp 41) (.tmp 44) 36 36 rfl 4 Tryd.underlying36 (by kernel_rfl) _ _ (n - k) (n - k) k n rfl rfl M k (List.replicate k (bcell z) ++ List.replicate (n - k) (bcell false)) 4 hcur (List.replicate j (bcell z)) ?d1 ?d2 ?d3 ?d4 w2.heap.size w2 hb.drew hwM ?d5
        case d1 => rw [List.length_replicate, HR.out]; exact HJ.out.symm
        case d2 =>
          intro _
          refine ⟨rfl, _, rfl, fun i v hi => ?_⟩
          obtain ⟨hi1, hi2⟩ := List.getElem?_eq_some_iff.1 hi
          rw [List.length_replicate] at hi1
          rw [List.getElem_replicate] at hi2
          subst hi2
          have hij : i < k := by have := HJ.out; omega
          have h2 : ((List.replicate k (bcell z) ++ List.replicate (n - k) (bcell false)).toArray)[i]? = some (bcell z) := by simp [List.getElem?_append, hij]
          have h3 := (cell_of_row wr.drew M i _ _ (0, 0) hcur).trans h2
          rcases i with _ | i
          · simpa [Addr.add] using h3
          · simpa [Addr.add] using h3
        case d3 => simp; omega
        case d4 => intro v hv; rw [List.eq_of_mem_replicate hv]; rfl
        case d5 =>
          intro w4 hg4 hb4
          have HG4 : Hid (w4.heap[M]? = some (.cells (List.replicate (k + j) (bcell z) ++ List.replicate (n - (k + j)) (bcell false)).toArray 4 (0, 0))) := hid (by rw [← rep_splice z n k j hjr]; exact hg4.out)
          have hb4' := hb4
          clear hg4
          rw [List.length_replicate]
          go_wp2
          refine hR' _ _ trivial ?_
          repeat (refine wpMix2_q rfl rfl ?_; go_big_quiet_step (fail); refine wpQuiet_nil ?_)
          refine wpMix2_done ?_
          simp only [List.drop_succ_cons, List.drop_nil]
          go_wp2
          go_roundg (gk - j)
          case measure => have := HK.out; omega
          case rel => exact ⟨k + j, by have := HK.out; omega, fun h => by omega, by go_num, HG4, hb4'⟩
      · obtain rfl : k = n := by have := HK.out; omega
        have HG5 : Hid (wr.ownsRow w2.heap.size 4 1 (.slice (some ⟨M, 0, none⟩) k k) k (List.replicate k (bcell z))) := hid (by
          refine ⟨by simp, .inr ⟨M, k, _, rfl, hwM, hG.out, Nat.le_refl _, by unfold maxLen; omega, by simp, ?_⟩⟩
          simp)
        clear HK HK1 hG
        go_wp2
        go_ret
        exact ⟨_, rfl, HG5.out, hb⟩
theorem Mul64_32 (V : World) : Calls Tryd.prog 74 #[.int .u64 1, .int .u64 32] V (fun e W => e = .returned (.tuple #[.int .u64 0, .int .u64 32]) ∧ W = V) := by
  go_enter Tryd.func74, Tryd.ntmps74
  go_wp2
  go_ret2
  exact ⟨rfl, rfl⟩
theorem Mul_32 (V : World) : Calls Tryd.prog 52 #[.int .u64 1, .int .u64 ((32 : Nat) : Int)] V (fun e W => e = .returned (.tuple #[.int .u64 0, .int .u64 ((32 : Nat) : Int)]) ∧ W = V) := by
  have H := hid (Mul64_32 V)
  go_enter Tryd.func52, Tryd.ntmps52
  go_wp2_with fail
  refine H.out.mono ?_
  rintro e W ⟨rfl, rfl⟩
  go_wp2
  go_ret2
  exact ⟨rfl, rfl⟩
end Go.Proofs.YtahicokokfcieaaDoor
namespace Go.Proofs.YtahicokokfcieaaDoor
open Go.RowKit
open Go.Proofs
set_option linter.unusedVariables false
def kt0 : Mem := ⟨[0, 0, 0, 0, 0, 0, 0, 0, 0, 0, 0, 0, 0, 0, 0, 0, 0, 0, 0, 0, 0, 0, 0, 0, 0, 0, 0, 0, 0, 0, 0, 0], List.replicate 32 true, false⟩
def kt1 : Mem := ⟨[8589934596, 0, 0, 0, 0, 0, 0, 0, 0, 0, 0, 0, 0, 0, 0, 0, 0, 0, 0, 0, 0, 0, 0, 0, 0, 0, 0, 0, 0, 0, 0, 0], List.replicate 32 true, false⟩
def kt2 : Mem := ⟨[8589934596, 0, 0, 0, 0, 0, 8, 0, 1, 10, 0, 11400714819323198485, 0, 0, 0, 0, 0, 0, 0, 0, 0, 0, 0, 0, 0, 0, 0, 0, 0, 0, 0, 0], List.replicate 32 true, false⟩
def kt3 : Mem := ⟨[8589934596, 0, 0, 0, 0, 0, 8, 12, 1, 10, 0, 11400714819323198485, 3, 30, 0, 15755400384260043839, 0, 0, 0, 0, 0, 0, 0, 0, 0, 0, 0, 0, 0, 0, 0, 0], List.replicate 32 true, false⟩
def kt4 : Mem := ⟨[8589934596, 0, 0, 0, 0, 0, 0, 12, 1, 10, 0, 11400714819323198485, 3, 30, 0, 15755400384260043839, 0, 0, 0, 0, 0, 0, 0, 0, 0, 0, 0, 0, 0, 0, 0, 0], List.replicate 32 true, false⟩
theorem kt0_len : kt0.W.length = 32 ∧ kt0.L.length = 32 := ⟨rfl, rfl⟩
theorem kt0_ok : okM kt0 = true := by decide +kernel
theorem kt0_w : ∀ x ∈ kt0.W, x < 18446744073709551616 := by decide +kernel
theorem kt1_len : kt1.W.length = 32 ∧ kt1.L.length = 32 := ⟨rfl, rfl⟩
theorem kt1_ok : okM kt1 = true := by decide +kernel
theorem kt1_w : ∀ x ∈ kt1.W, x < 18446744073709551616 := by decide +kernel
theorem kt2_len : kt2.W.length = 32 ∧ kt2.L.length = 32 := ⟨rfl, rfl⟩
theorem kt2_ok : okM kt2 = true := by decide +kernel
theorem kt2_w : ∀ x ∈ kt2.W, x < 18446744073709551616 := by decide +kernel
theorem kt3_len : kt3.W.length = 32 ∧ kt3.L.length = 32 := ⟨rfl, rfl⟩
theorem kt3_ok : okM kt3 = true := by decide +kernel
theorem kt3_w : ∀ x ∈ kt3.W, x < 18446744073709551616 := by decide +kernel
theorem kt4_len : kt4.W.length = 32 ∧ kt4.L.length = 32 := ⟨rfl, rfl⟩
theorem kt4_ok : okM kt4 = true := by decide +kernel
theorem kt4_w : ∀ x ∈ kt4.W, x < 18446744073709551616 := by decide +kernel
theorem klay : layT kt0 0 4 4 = (kt1, 0) := by kernel_rfl
theorem kins1 : insT kt1 0 8 1 10 = (kt2, 7, 0) := by kernel_rfl
theorem kins2 : insT kt2 0 12 3 30 = (kt3, 7, 0) := by kernel_rfl
def kxs : List Rw := [(2, 8, 1, 10), (3, 12, 3, 30)]
def kmet : List Nat := [0, 4, 5, 6, 7, 8, 9, 10, 11, 12, 13, 14, 15]
theorem krows : rowsW kt3 0 = some (kxs, kmet) := by kernel_rfl
theorem kfind1 : findT kt3 0 1 = (10, 5, 0) := by kernel_rfl
theorem kfind2 : findT kt3 0 2 = (0, 0, 4) := by kernel_rfl
theorem kins3 : insT kt3 0 16 1 11 = (zeroM, 0, 5) := by kernel_rfl
theorem krem : remT kt3 0 1 = (kt4, 8, 0) := by kernel_rfl
theorem kxs_ok : RwsOk kxs := by
  intro t ht
  simp only [kxs, List.mem_cons, List.not_mem_nil, or_false] at ht
  rcases ht with rfl | rfl <;> decide
end Go.Proofs.YtahicokokfcieaaDoor
