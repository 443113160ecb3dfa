/- Lists (printed by gen_lseq.py): equalities. -/
import Derived.Test.YtdkkjcflcegeoaaLs16
import Derived.Laws.StructEq
import Derived.DeepKeys
namespace Go.Proofs.Ytdkkjcflcegeoaa
open Go.RowKit
open Go.Proofs
set_option linter.unusedVariables false
attribute [local go_sem] Oper.semAt_some
theorem wf_u64 {x : Nat} (h : x < 18446744073709551616) : (Lit.int .u64 ((x : Nat) : Int)).wf = true := by
  simp [Lit.wf, IntKind.min, IntKind.max, IntKind.signed, IntKind.bits]
  omega
theorem wf_i64 {x : Int} (h : -9223372036854775808 ≤ x ∧ x ≤ 9223372036854775807) : (Lit.int .i64 x).wf = true := by
  simp [Lit.wf, IntKind.min, IntKind.max, IntKind.signed, IntKind.bits]
  omega
theorem key_u64 (d : Nat) {x : Nat} (h : x < 18446744073709551616) : Try.prog.keyLits (d + 1) 26 [.int .u64 ((x : Nat) : Int)] = some [.int .u64 ((x : Nat) : Int)] := by
  simp [Program.keyLits, Try.underlying26, wf_u64 h]
theorem key_i64 (d : Nat) {x : Int} (h : -9223372036854775808 ≤ x ∧ x ≤ 9223372036854775807) : Try.prog.keyLits (d + 1) 3 [.int .i64 x] = some [.int .i64 x] := by
  simp [Program.keyLits, Try.underlying3, wf_i64 h]
theorem key_bool (d : Nat) (b : Bool) : Try.prog.keyLits (d + 1) 4 [.bool b] = some [.bool b] := by
  simp [Program.keyLits, Try.underlying4]
theorem key_nd {x0 x1 x2 x3 : Nat} (h : x0 < 18446744073709551616 ∧ x1 < 18446744073709551616 ∧ x2 < 18446744073709551616 ∧ x3 < 18446744073709551616) : Try.prog.keyLits 2 38 [.int .u64 ((x0 : Nat) : Int), .int .u64 ((x1 : Nat) : Int), .int .u64 ((x2 : Nat) : Int), .int .u64 ((x3 : Nat) : Int)] = some [.int .u64 ((x0 : Nat) : Int), .int .u64 ((x1 : Nat) : Int), .int .u64 ((x2 : Nat) : Int), .int .u64 ((x3 : Nat) : Int)] := by
  have hc0 : Try.prog.cellsOf 26 = 1 := by kernel_rfl
  have hc1 : Try.prog.cellsOf 38 = 4 := by kernel_rfl
  unfold Program.keyLits
  simp only [Try.underlying38]
  simp [hc0, hc1, key_u64 0 h.1, key_u64 0 h.2.1, key_u64 0 h.2.2.1, key_u64 0 h.2.2.2]
set_option maxRecDepth 100000 in
theorem nd_eq (x0 x1 x2 x3 y0 y1 y2 y3 : Nat) (hx : x0 < 18446744073709551616 ∧ x1 < 18446744073709551616 ∧ x2 < 18446744073709551616 ∧ x3 < 18446744073709551616) (hy : y0 < 18446744073709551616 ∧ y1 < 18446744073709551616 ∧ y2 < 18446744073709551616 ∧ y3 < 18446744073709551616) (w : World) :
    (Op.equalIn 10000 38 (.agg #[.int .u64 ((x0 : Nat) : Int), .int .u64 ((x1 : Nat) : Int), .int .u64 ((x2 : Nat) : Int), .int .u64 ((x3 : Nat) : Int)]) (.agg #[.int .u64 ((y0 : Nat) : Int), .int .u64 ((y1 : Nat) : Int), .int .u64 ((y2 : Nat) : Int), .int .u64 ((y3 : Nat) : Int)])).run Try.prog w = .ok (decide ((x0, x1, x2, x3) = (y0, y1, y2, y3))) w := by
  have h1 := key_nd hx
  have h2 := key_nd hy
  obtain ⟨r, hr, hiff⟩ := run_equalIn_deep (P := Try.prog) 9998 2 38 (by kernel_rfl) w 2 2 (.agg #[.int .u64 ((x0 : Nat) : Int), .int .u64 ((x1 : Nat) : Int), .int .u64 ((x2 : Nat) : Int), .int .u64 ((x3 : Nat) : Int)]) (.agg #[.int .u64 ((y0 : Nat) : Int), .int .u64 ((y1 : Nat) : Int), .int .u64 ((y2 : Nat) : Int), .int .u64 ((y3 : Nat) : Int)]) _ _ (by simp [Value.formed, Try.underlying38]; exact (by kernel_rfl : 4 = Try.prog.cellsOf 38)) (by simp [Value.formed, Try.underlying38]; exact (by kernel_rfl : 4 = Try.prog.cellsOf 38)) h1 h2
  rw [hr]
  congr 1
  rw [Bool.eq_iff_iff, hiff]
  simp
  omega
theorem key_sk {s : Sk} (h : s.Ok) : Try.prog.keyLits 2 40 [.int .i64 s.ph, .int .u64 ((s.hash : Nat) : Int), .int .u64 ((s.key : Nat) : Int), .int .u64 ((s.link : Nat) : Int), .int .u64 ((s.node : Nat) : Int), .int .u64 ((s.val : Nat) : Int), .bool s.found] = some [.int .i64 s.ph, .int .u64 ((s.hash : Nat) : Int), .int .u64 ((s.key : Nat) : Int), .int .u64 ((s.link : Nat) : Int), .int .u64 ((s.node : Nat) : Int), .int .u64 ((s.val : Nat) : Int), .bool s.found] := by
  have hc0 : Try.prog.cellsOf 26 = 1 := by kernel_rfl
  have hc1 : Try.prog.cellsOf 3 = 1 := by kernel_rfl
  have hc2 : Try.prog.cellsOf 4 = 1 := by kernel_rfl
  have hc3 : Try.prog.cellsOf 40 = 7 := by kernel_rfl
  unfold Program.keyLits
  simp only [Try.underlying40]
  simp [hc0, hc1, hc2, hc3, key_i64 0 h.ph, key_bool 0, key_u64 0 h.hash, key_u64 0 h.key, key_u64 0 h.link, key_u64 0 h.node, key_u64 0 h.val]
theorem Sk.ext_iff' (s t : Sk) : s = t ↔ s.ph = t.ph ∧ s.hash = t.hash ∧ s.key = t.key ∧ s.link = t.link ∧ s.node = t.node ∧ s.val = t.val ∧ s.found = t.found := by
  cases s; cases t; simp
instance : DecidableEq Sk := fun s t => decidable_of_iff _ (Sk.ext_iff' s t).symm
set_option maxRecDepth 100000 in
theorem sk_eq (s t : Sk) (hs : s.Ok) (ht : t.Ok) (w : World) :
    (Op.equalIn 10000 40 (.agg #[.int .i64 s.ph, .int .u64 ((s.hash : Nat) : Int), .int .u64 ((s.key : Nat) : Int), .int .u64 ((s.link : Nat) : Int), .int .u64 ((s.node : Nat) : Int), .int .u64 ((s.val : Nat) : Int), .bool s.found]) (.agg #[.int .i64 t.ph, .int .u64 ((t.hash : Nat) : Int), .int .u64 ((t.key : Nat) : Int), .int .u64 ((t.link : Nat) : Int), .int .u64 ((t.node : Nat) : Int), .int .u64 ((t.val : Nat) : Int), .bool t.found])).run Try.prog w = .ok (decide (s = t)) w := by
  have h1 := key_sk hs
  have h2 := key_sk ht
  obtain ⟨r, hr, hiff⟩ := run_equalIn_deep (P := Try.prog) 9998 2 40 (by kernel_rfl) w 2 2 (.agg #[.int .i64 s.ph, .int .u64 ((s.hash : Nat) : Int), .int .u64 ((s.key : Nat) : Int), .int .u64 ((s.link : Nat) : Int), .int .u64 ((s.node : Nat) : Int), .int .u64 ((s.val : Nat) : Int), .bool s.found]) (.agg #[.int .i64 t.ph, .int .u64 ((t.hash : Nat) : Int), .int .u64 ((t.key : Nat) : Int), .int .u64 ((t.link : Nat) : Int), .int .u64 ((t.node : Nat) : Int), .int .u64 ((t.val : Nat) : Int), .bool t.found]) _ _ (by simp [Value.formed, Try.underlying40]; exact (by kernel_rfl : 7 = Try.prog.cellsOf 40)) (by simp [Value.formed, Try.underlying40]; exact (by kernel_rfl : 7 = Try.prog.cellsOf 40)) h1 h2
  rw [hr]
  congr 1
  rw [Bool.eq_iff_iff, hiff, decide_eq_true_iff, Sk.ext_iff']
  simp
  intro _
  constructor
  · rintro ⟨a, b, c, d, e, f⟩; exact ⟨by omega, by omega, by omega, by omega, by omega, f⟩
  · rintro ⟨a, b, c, d, e, f⟩; exact ⟨by omega, by omega, by omega, by omega, by omega, f⟩
theorem key_ed {s : Ede} (h : s.Ok) : Try.prog.keyLits 3 53 [.int .i64 s.ph, .bool s.cuts, .int .u64 ((s.link : Nat) : Int), .int .u64 ((s.at_ : Nat) : Int), .int .u64 ((s.key : Nat) : Int), .int .u64 ((s.val : Nat) : Int), .int .u64 ((s.hash : Nat) : Int), .int .u64 ((s.next : Nat) : Int)] = some [.int .i64 s.ph, .bool s.cuts, .int .u64 ((s.link : Nat) : Int), .int .u64 ((s.at_ : Nat) : Int), .int .u64 ((s.key : Nat) : Int), .int .u64 ((s.val : Nat) : Int), .int .u64 ((s.hash : Nat) : Int), .int .u64 ((s.next : Nat) : Int)] := by
  have hc0 : Try.prog.cellsOf 26 = 1 := by kernel_rfl
  have hc1 : Try.prog.cellsOf 3 = 1 := by kernel_rfl
  have hc2 : Try.prog.cellsOf 4 = 1 := by kernel_rfl
  have hc3 : Try.prog.cellsOf 38 = 4 := by kernel_rfl
  have hc4 : Try.prog.cellsOf 53 = 8 := by kernel_rfl
  have ht := key_nd (x0 := s.at_) (x1 := s.key) (x2 := s.val) (x3 := s.hash) ⟨h.at_, h.key, h.val, h.hash⟩
  unfold Program.keyLits
  simp only [Try.underlying53]
  simp [hc0, hc1, hc2, hc3, hc4, key_i64 1 h.ph, key_bool 1, key_u64 1 h.link, key_u64 1 h.next, ht]
theorem Ede.ext_iff' (s t : Ede) : s = t ↔ s.ph = t.ph ∧ s.cuts = t.cuts ∧ s.link = t.link ∧ s.at_ = t.at_ ∧ s.key = t.key ∧ s.val = t.val ∧ s.hash = t.hash ∧ s.next = t.next := by
  cases s; cases t; simp
instance : DecidableEq Ede := fun s t => decidable_of_iff _ (Ede.ext_iff' s t).symm
set_option maxRecDepth 100000 in
theorem ed_eq (s t : Ede) (hs : s.Ok) (ht : t.Ok) (w : World) :
    (Op.equalIn 10000 53 (.agg #[.int .i64 s.ph, .bool s.cuts, .int .u64 ((s.link : Nat) : Int), .int .u64 ((s.at_ : Nat) : Int), .int .u64 ((s.key : Nat) : Int), .int .u64 ((s.val : Nat) : Int), .int .u64 ((s.hash : Nat) : Int), .int .u64 ((s.next : Nat) : Int)]) (.agg #[.int .i64 t.ph, .bool t.cuts, .int .u64 ((t.link : Nat) : Int), .int .u64 ((t.at_ : Nat) : Int), .int .u64 ((t.key : Nat) : Int), .int .u64 ((t.val : Nat) : Int), .int .u64 ((t.hash : Nat) : Int), .int .u64 ((t.next : Nat) : Int)])).run Try.prog w = .ok (decide (s = t)) w := by
  have h1 := key_ed hs
  have h2 := key_ed ht
  obtain ⟨r, hr, hiff⟩ := run_equalIn_deep (P := Try.prog) 9997 3 53 (by kernel_rfl) w 3 3 (.agg #[.int .i64 s.ph, .bool s.cuts, .int .u64 ((s.link : Nat) : Int), .int .u64 ((s.at_ : Nat) : Int), .int .u64 ((s.key : Nat) : Int), .int .u64 ((s.val : Nat) : Int), .int .u64 ((s.hash : Nat) : Int), .int .u64 ((s.next : Nat) : Int)]) (.agg #[.int .i64 t.ph, .bool t.cuts, .int .u64 ((t.link : Nat) : Int), .int .u64 ((t.at_ : Nat) : Int), .int .u64 ((t.key : Nat) : Int), .int .u64 ((t.val : Nat) : Int), .int .u64 ((t.hash : Nat) : Int), .int .u64 ((t.next : Nat) : Int)]) _ _ (by simp [Value.formed, Try.underlying53]; exact (by kernel_rfl : 8 = Try.prog.cellsOf 53)) (by simp [Value.formed, Try.underlying53]; exact (by kernel_rfl : 8 = Try.prog.cellsOf 53)) h1 h2
  rw [hr]
  congr 1
  rw [Bool.eq_iff_iff, hiff, decide_eq_true_iff, Ede.ext_iff']
  simp
  omega
/-- A node of a row. -/
theorem Leads.nd {w : World} {a : Option Addr} {n cap k : Nat} {xs : List Nd} {x : Nd} (h : Leads w a n cap (ndcells xs)) (hk : k < n) (hx : xs[k]? = some x) : ∃ b off, a = some ⟨b, off, none⟩ ∧ b < w.heap.size ∧ ∀ w', Below w.heap.size w w' → w'.cell? ⟨b, off + k * 4, none⟩ = some (.int .u64 ((x.1 : Nat) : Int)) ∧ w'.cell? ⟨b, off + k * 4 + 1, none⟩ = some (.int .u64 ((x.2.1 : Nat) : Int)) ∧ w'.cell? ⟨b, off + k * 4 + 2, none⟩ = some (.int .u64 ((x.2.2.1 : Nat) : Int)) ∧ w'.cell? ⟨b, off + k * 4 + 3, none⟩ = some (.int .u64 ((x.2.2.2 : Nat) : Int)) := by
  obtain ⟨_, _, ⟨q, _⟩ | ⟨b, off, rfl, hb, hc⟩⟩ := h
  · omega
  · have hat : ∀ i, i < 4 → (ndcells xs)[k * 4 + i]? = (nd4 x)[i]? := fun i hi => flat_at nd4 4 (fun _ => rfl) xs k i _ hx hi
    refine ⟨b, off, rfl, hb, fun w' hw => ⟨?_, ?_, ?_, ?_⟩⟩
    · exact (hw.cell (p := ⟨b, off + k * 4, none⟩) hb).trans (hc (k * 4 + 0) _ (hat 0 (by decide)))
    · exact (hw.cell (p := ⟨b, off + k * 4 + 1, none⟩) hb).trans (hc (k * 4 + 1) _ (hat 1 (by decide)))
    · exact (hw.cell (p := ⟨b, off + k * 4 + 2, none⟩) hb).trans (hc (k * 4 + 2) _ (hat 2 (by decide)))
    · exact (hw.cell (p := ⟨b, off + k * 4 + 3, none⟩) hb).trans (hc (k * 4 + 3) _ (hat 3 (by decide)))
def NdsOk (xs : List Nd) : Prop := ∀ t ∈ xs, t.1 < 18446744073709551616 ∧ t.2.1 < 18446744073709551616 ∧ t.2.2.1 < 18446744073709551616 ∧ t.2.2.2 < 18446744073709551616
set_option maxRecDepth 100000 in
set_option maxHeartbeats 2000000 in
theorem EqN_any (xs ys : List Nd) (a a' : Option Addr) (n n' cap cap' : Nat) (w : World) (hx : xs.length = n) (hy : ys.length = n') (hxb : NdsOk xs) (hyb : NdsOk ys) (h : Leads w a n cap (ndcells xs)) (h' : Leads w a' n' cap' (ndcells ys)) :
    Calls Try.prog 28 #[.slice a n cap, .slice a' n' cap'] w (Ret (.bool (decide (xs = ys))) w) := by
  have hn := h.len.1
  have hn' := h'.len.1
  by_cases hnn : n = n'
  · subst hnn
    have H := hid h
    have H' := hid h'
    have HX := hid hx
    have HY := hid hy
    have HXB := hid hxb
    have HYB := hid hyb
    clear h h' hx hy hxb hyb
    go_enter Try.func28, Try.ntmps28
    go_wp2
    go_loopg [13] n (fun g  i wr => ∃ k : Nat, g + k = n ∧ i = .int .i64 (k : Nat) ∧ Hid (xs.take k = ys.take k) ∧ Hid (Below w.heap.size w wr))
    case atStart => exact ⟨0, rfl, rfl, hid rfl, hid (Below.refl _ _)⟩
    case round =>
      obtain ⟨k, hk, rfl, hs, hb⟩ := hrel
      have HK := hid hk
      clear hk
      by_cases hlt : k < n
      · obtain ⟨⟨x0, x1, x2, x3⟩, hxk⟩ : ∃ x, xs[k]? = some x := ⟨_, List.getElem?_eq_getElem (by rw [HX.out]; exact hlt)⟩
        obtain ⟨⟨y0, y1, y2, y3⟩, hyk⟩ : ∃ x, ys[k]? = some x := ⟨_, List.getElem?_eq_getElem (by rw [HY.out]; exact hlt)⟩
        obtain ⟨b, off, rfl, -, hcx⟩ := H.out.nd hlt hxk
        obtain ⟨b', off', rfl, -, hcy⟩ := H'.out.nd hlt hyk
        have heq := nd_eq x0 x1 x2 x3 y0 y1 y2 y3 (HXB.out _ (List.mem_of_getElem? hxk)) (HYB.out _ (List.mem_of_getElem? hyk))
        obtain ⟨E, hE⟩ : ∃ E, decide ((x0, x1, x2, x3) = (y0, y1, y2, y3)) = E := ⟨_, rfl⟩
        rw [hE] at heq
        have HB1 := hid hb.out
        have f0 : ∀ z : Ext wr, z.v.cell? ⟨b, off + k * 4, none⟩ = some (.int .u64 ((x0 : Nat) : Int)) := fun z => (hcx z.v (step hb.out z.b)).1
        have f1 : ∀ z : Ext wr, z.v.cell? ⟨b, off + k * 4 + 1, none⟩ = some (.int .u64 ((x1 : Nat) : Int)) := fun z => (hcx z.v (step hb.out z.b)).2.1
        have f2 : ∀ z : Ext wr, z.v.cell? ⟨b, off + k * 4 + 2, none⟩ = some (.int .u64 ((x2 : Nat) : Int)) := fun z => (hcx z.v (step hb.out z.b)).2.2.1
        have f3 : ∀ z : Ext wr, z.v.cell? ⟨b, off + k * 4 + 3, none⟩ = some (.int .u64 ((x3 : Nat) : Int)) := fun z => (hcx z.v (step hb.out z.b)).2.2.2
        have g0 : ∀ z : Ext wr, z.v.cell? ⟨b', off' + k * 4, none⟩ = some (.int .u64 ((y0 : Nat) : Int)) := fun z => (hcy z.v (step HB1.out z.b)).1
        have g1 : ∀ z : Ext wr, z.v.cell? ⟨b', off' + k * 4 + 1, none⟩ = some (.int .u64 ((y1 : Nat) : Int)) := fun z => (hcy z.v (step HB1.out z.b)).2.1
        have g2 : ∀ z : Ext wr, z.v.cell? ⟨b', off' + k * 4 + 2, none⟩ = some (.int .u64 ((y2 : Nat) : Int)) := fun z => (hcy z.v (step HB1.out z.b)).2.2.1
        have g3 : ∀ z : Ext wr, z.v.cell? ⟨b', off' + k * 4 + 3, none⟩ = some (.int .u64 ((y3 : Nat) : Int)) := fun z => (hcy z.v (step HB1.out z.b)).2.2.2
        go_upto_region 6 with (fail)
        by_cases he : (x0, x1, x2, x3) = (y0, y1, y2, y3)
        · have HT := hid (eq_take _ _ k _ _ hs.out hxk hyk he)
          have hEt : E = true := by rw [← hE]; exact decide_eq_true he
          subst hEt
          clear hcx hcy hxk hyk hs hE he
          refine wp_region_ext (by kernel_rfl) (by kernel_rfl) ?_
          repeat (go_big_quiet_step (fail))
          refine wpQuiet_nil ?_
          rintro v8 ⟨x8, e8⟩
          have HB2 := hid (step HB1.out x8.b)
          rw [← e8] at HB2
          clear e8 x8
          go_wp2
          go_roundg (gk - 1)
          case measure => have := HK.out; omega
          case rel => exact ⟨k + 1, by have := HK.out; omega, by go_num, HT, HB2⟩
        · have HT := hid (ne_at _ _ k _ _ hxk hyk he)
          have hEt : E = false := by rw [← hE]; exact decide_eq_false he
          subst hEt
          clear hcx hcy hxk hyk hs hE he
          refine wp_region_ext (by kernel_rfl) (by kernel_rfl) ?_
          repeat (go_big_quiet_step (fail))
          refine wpQuiet_nil ?_
          rintro v8 ⟨x8, e8⟩
          have HB2 := hid (step HB1.out x8.b)
          rw [← e8] at HB2
          clear e8 x8
          go_wp2
          go_ret
          exact ⟨retb (decide_eq_false HT.out).symm, HB2.out⟩
      · have e := HK.out
        obtain rfl : k = n := by omega
        have HE : Hid (xs = ys) := hid (by
          have := hs.out
          rwa [List.take_of_length_le (by rw [HX.out]; exact Nat.le_refl _), List.take_of_length_le (by rw [HY.out]; exact Nat.le_refl _)] at this)
        clear hs e HK
        go_wp2
        go_ret
        exact ⟨retb (decide_eq_true HE.out).symm, hb.out⟩
  · have hne : xs ≠ ys := fun e => hnn (by rw [← hx, ← hy, e])
    have HE := hid hne
    have q : (((n : Nat) : Int) != ((n' : Nat) : Int)) = true := by simp; omega
    clear h h' hx hy hxb hyb hne hnn
    go_enter Try.func28, Try.ntmps28
    go_wp2
    go_ret
    exact ⟨retb (decide_eq_false HE.out).symm, Below.refl _ _⟩
set_option maxRecDepth 100000 in
set_option maxHeartbeats 2000000 in
theorem rSame_any (xs ys : List Nd) (a a' : Option Addr) (n n' cap cap' : Nat) (w : World) (hx : xs.length = n) (hy : ys.length = n') (hxb : NdsOk xs) (hyb : NdsOk ys) (h : Leads w a n cap (ndcells xs)) (h' : Leads w a' n' cap' (ndcells ys)) :
    Calls Try.prog 13 #[.slice a n cap, .slice a' n' cap'] w (Ret (.bool (decide (xs = ys))) w) := by
  have hn := h.len.1
  have hn' := h'.len.1
  by_cases hnn : n = n'
  · subst hnn
    have H := hid h
    have H' := hid h'
    have HX := hid hx
    have HY := hid hy
    have HXB := hid hxb
    have HYB := hid hyb
    clear h h' hx hy hxb hyb
    go_enter Try.func13, Try.ntmps13
    go_wp2
    go_loopg [14] n (fun g  i wr => ∃ k : Nat, g + k = n ∧ i = .int .i64 (k : Nat) ∧ Hid (xs.take k = ys.take k) ∧ Hid (Below w.heap.size w wr))
    case atStart => exact ⟨0, rfl, rfl, hid rfl, hid (Below.refl _ _)⟩
    case round =>
      obtain ⟨k, hk, rfl, hs, hb⟩ := hrel
      have HK := hid hk
      clear hk
      by_cases hlt : k < n
      · obtain ⟨⟨x0, x1, x2, x3⟩, hxk⟩ : ∃ x, xs[k]? = some x := ⟨_, List.getElem?_eq_getElem (by rw [HX.out]; exact hlt)⟩
        obtain ⟨⟨y0, y1, y2, y3⟩, hyk⟩ : ∃ x, ys[k]? = some x := ⟨_, List.getElem?_eq_getElem (by rw [HY.out]; exact hlt)⟩
        obtain ⟨b, off, rfl, -, hcx⟩ := H.out.nd hlt hxk
        obtain ⟨b', off', rfl, -, hcy⟩ := H'.out.nd hlt hyk
        have heq := nd_eq x0 x1 x2 x3 y0 y1 y2 y3 (HXB.out _ (List.mem_of_getElem? hxk)) (HYB.out _ (List.mem_of_getElem? hyk))
        obtain ⟨E, hE⟩ : ∃ E, decide ((x0, x1, x2, x3) = (y0, y1, y2, y3)) = E := ⟨_, rfl⟩
        rw [hE] at heq
        obtain ⟨w1, hw1, hb1, hs1, hl1⟩ := laid wr #[.int .u64 0, .int .u64 0, .int .u64 0, .int .u64 0] 38
        obtain ⟨B, hB⟩ : ∃ X, wr.heap.size = X := ⟨_, rfl⟩
        rw [hB] at hl1
        obtain ⟨w2, hw2, a1, a2, a3⟩ := put4 hl1 (.int .u64 ((x0 : Nat) : Int)) (.int .u64 ((x1 : Nat) : Int)) (.int .u64 ((x2 : Nat) : Int)) (.int .u64 ((x3 : Nat) : Int))
        obtain ⟨z0, zf0, z1, zf1, z2, zf2, z3, zf3⟩ := fcl4 hl1
        have hbb : Below wr.heap.size wr w2 := a3 _ _ (by omega) hb1
        have HKB := hid a1
        have HW2 := hid hw2
        have HB1 := hid (step hb.out hbb)
        obtain ⟨c0, c1, c2, c3⟩ := hcx wr hb.out
        clear hw2 a1 a2 a3 hs1 hl1 hb1 hbb
        go_upto_region 6 with (fail)
        rw [← HW2.out]
        clear z0 z1 z2 z3 zf0 zf1 zf2 zf3 c0 c1 c2 c3
        have f0 : ∀ z : Ext w2, z.v.cell? ⟨B, 0, none⟩ = some (.int .u64 ((x0 : Nat) : Int)) := fun z => cell_laid (keep_laid HKB.out z.b) rfl
        have f1 : ∀ z : Ext w2, z.v.cell? ⟨B, 1, none⟩ = some (.int .u64 ((x1 : Nat) : Int)) := fun z => cell_laid (keep_laid HKB.out z.b) rfl
        have f2 : ∀ z : Ext w2, z.v.cell? ⟨B, 2, none⟩ = some (.int .u64 ((x2 : Nat) : Int)) := fun z => cell_laid (keep_laid HKB.out z.b) rfl
        have f3 : ∀ z : Ext w2, z.v.cell? ⟨B, 3, none⟩ = some (.int .u64 ((x3 : Nat) : Int)) := fun z => cell_laid (keep_laid HKB.out z.b) rfl
        have g0 : ∀ z : Ext w2, z.v.cell? ⟨b', off' + k * 4, none⟩ = some (.int .u64 ((y0 : Nat) : Int)) := fun z => (hcy z.v (step HB1.out z.b)).1
        have g1 : ∀ z : Ext w2, z.v.cell? ⟨b', off' + k * 4 + 1, none⟩ = some (.int .u64 ((y1 : Nat) : Int)) := fun z => (hcy z.v (step HB1.out z.b)).2.1
        have g2 : ∀ z : Ext w2, z.v.cell? ⟨b', off' + k * 4 + 2, none⟩ = some (.int .u64 ((y2 : Nat) : Int)) := fun z => (hcy z.v (step HB1.out z.b)).2.2.1
        have g3 : ∀ z : Ext w2, z.v.cell? ⟨b', off' + k * 4 + 3, none⟩ = some (.int .u64 ((y3 : Nat) : Int)) := fun z => (hcy z.v (step HB1.out z.b)).2.2.2
        by_cases he : (x0, x1, x2, x3) = (y0, y1, y2, y3)
        · have HT := hid (eq_take _ _ k _ _ hs.out hxk hyk he)
          have hEt : E = true := by rw [← hE]; exact decide_eq_true he
          subst hEt
          clear hcx hcy hxk hyk hs hE he
          refine wp_region_ext (by kernel_rfl) (by kernel_rfl) ?_
          repeat (go_big_quiet_step (fail))
          refine wpQuiet_nil ?_
          rintro v8 ⟨x8, e8⟩
          have HB2 := hid (step HB1.out x8.b)
          rw [← e8] at HB2
          clear e8 x8
          go_wp2
          go_roundg (gk - 1)
          case measure => have := HK.out; omega
          case rel => exact ⟨k + 1, by have := HK.out; omega, by go_num, HT, HB2⟩
        · have HT := hid (ne_at _ _ k _ _ hxk hyk he)
          have hEt : E = false := by rw [← hE]; exact decide_eq_false he
          subst hEt
          clear hcx hcy hxk hyk hs hE he
          refine wp_region_ext (by kernel_rfl) (by kernel_rfl) ?_
          repeat (go_big_quiet_step (fail))
          refine wpQuiet_nil ?_
          rintro v8 ⟨x8, e8⟩
          have HB2 := hid (step HB1.out x8.b)
          rw [← e8] at HB2
          clear e8 x8
          go_wp2
          go_ret
          exact ⟨retb (decide_eq_false HT.out).symm, HB2.out⟩
      · have e := HK.out
        obtain rfl : k = n := by omega
        have HE : Hid (xs = ys) := hid (by
          have := hs.out
          rwa [List.take_of_length_le (by rw [HX.out]; exact Nat.le_refl _), List.take_of_length_le (by rw [HY.out]; exact Nat.le_refl _)] at this)
        clear hs e HK
        go_wp2
        go_ret
        exact ⟨retb (decide_eq_true HE.out).symm, hb.out⟩
  · have hne : xs ≠ ys := fun e => hnn (by rw [← hx, ← hy, e])
    have HE := hid hne
    have q : (((n : Nat) : Int) != ((n' : Nat) : Int)) = true := by simp; omega
    clear h h' hx hy hxb hyb hne hnn
    go_enter Try.func13, Try.ntmps13
    go_wp2
    go_ret
    exact ⟨retb (decide_eq_false HE.out).symm, Below.refl _ _⟩
end Go.Proofs.Ytdkkjcflcegeoaa
