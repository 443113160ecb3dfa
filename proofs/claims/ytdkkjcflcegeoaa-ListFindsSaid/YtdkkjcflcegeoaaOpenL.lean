/- Memories, nodes, who seeks, who edits that came in (printed by gen_openl.py). -/
import Derived.Test.YtdkkjcflcegeoaaOpenE
import Derived.Test.YtdkkjcflcegeoaaLsEq
namespace Go.Proofs.Ytdkkjcflcegeoaa
open Go.ChangeShapes Go.WideShapes Go.ChangeAt Go.RowKit
set_option linter.unusedVariables false

section
variable {H : Type} {enc : TypeId × Value → H} {w : World} {base : Nat} {held : Bool}

theorem open_boolrow {fuel : Nat} {a : Option Addr} {len cap : Nat} {x : DataW H × List MemPlace} (h : DataW.trod enc Try.prog w base (fun _ => true) held fuel 23 (Value.slice a len cap).cells.toList = some x) :
    ∃ bs : List Bool, bs.length = len ∧ Leads w a len cap (bcells bs) := by
  obtain ⟨qs, h1, h2, h3⟩ := open_each (fun b : Bool => [Value.bool b]) (fun _ => True) Try.underlying23 (k := 1) (by kernel_rfl) (by decide) (fun q hq => rfl) (fun n cs y hl hy => by
    obtain ⟨z, e, -⟩ := DataW.trod_bool Try.underlying4 hy
    exact ⟨z, e, trivial⟩) h
  refine ⟨qs, h1, ?_⟩
  have : qs.flatMap (fun b : Bool => [Value.bool b]) = bcells qs := by clear h h1 h2 h3; induction qs with | nil => rfl | cons q r ih => rw [List.flatMap_cons, ih]; rfl
  rw [← this]; exact h2
set_option maxRecDepth 100000 in
theorem open_mem {r : Reach} {b0 : Nat} {v : Value} {d : DataW H} {p : List MemPlace} (hv : Value.okWide Try.prog w r b0 25 v) (h : DataW.Trod enc Try.prog w base (fun _ => true) held 25 v d p) :
    ∃ (M : Mem) (wa : Option Addr) (wc : Nat) (la : Option Addr) (lc : Nat), v = memV wa wc la lc M ∧ MemL w wa wc la lc M ∧ ∀ x ∈ M.W, x < 18446744073709551616 := by
  obtain ⟨c, e, u, y, y1, y2, n, rfl, -, -, h0, h1, h2⟩ := Joins.open_agg3 Try.underlying25 (by kernel_rfl) (by kernel_rfl) hv h
  obtain ⟨wa, wn, wc, eW⟩ := Joins.slice_form Try.underlying22 h0
  obtain ⟨la, ln, lc, eL⟩ := Joins.slice_form Try.underlying23 h1
  obtain ⟨F, eF, -⟩ := DataW.trod_bool Try.underlying4 h2
  simp only [List.cons.injEq, and_true] at eW eL eF
  subst eW eL eF
  obtain ⟨ws, w1, w2, w3⟩ := open_words (a := wa) (len := wn) (cap := wc) Try.underlying22 Try.underlying26 (by kernel_rfl) h0
  obtain ⟨bs, b1, b2⟩ := open_boolrow (a := la) (len := ln) (cap := lc) h1
  subst w1 b1
  exact ⟨⟨ws, bs, F⟩, wa, wc, la, lc, rfl, ⟨w2, b2⟩, w3⟩
set_option maxRecDepth 100000 in
theorem open_nd4 {fuel : Nat} {cs : List Value} {y : DataW H × List MemPlace} (hl : cs.length = 4) (h : DataW.trod enc Try.prog w base (fun _ => true) held fuel 38 cs = some y) : ∃ m : Nd, cs = nd4 m ∧ m.Ok := by
  obtain ⟨xs, k, -, -, -, hxl, hf⟩ := DataW.trod_struct Try.underlying38 h
  match cs, hl, xs, hxl with
  | [c0, c1, c2, c3], _, [y0, y1, y2, y3], _ =>
    have g0 := hf 0 _ rfl
    have g1 := hf 1 _ rfl
    have g2 := hf 2 _ rfl
    have g3 := hf 3 _ rfl
    have ec0 : Try.prog.cellsOf 26 = 1 := by kernel_rfl
    simp [ec0] at g0 g1 g2 g3
    obtain ⟨z0, e0, _, w0⟩ := DataW.trod_int Try.underlying26 g0
    obtain ⟨n0, rfl, q0⟩ := nat_of_wf w0
    obtain ⟨z1, e1, _, w1⟩ := DataW.trod_int Try.underlying26 g1
    obtain ⟨n1, rfl, q1⟩ := nat_of_wf w1
    obtain ⟨z2, e2, _, w2⟩ := DataW.trod_int Try.underlying26 g2
    obtain ⟨n2, rfl, q2⟩ := nat_of_wf w2
    obtain ⟨z3, e3, _, w3⟩ := DataW.trod_int Try.underlying26 g3
    obtain ⟨n3, rfl, q3⟩ := nat_of_wf w3
    simp only [List.cons.injEq, and_true] at e0 e1 e2 e3
    subst e0 e1 e2 e3
    exact ⟨(n0, n1, n2, n3), rfl, ⟨q0, q1, q2, q3⟩⟩
set_option maxRecDepth 100000 in
theorem open_nd {r : Reach} {b0 : Nat} {v : Value} {d : DataW H} {p : List MemPlace} (hv : Value.okWide Try.prog w r b0 38 v) (h : DataW.Trod enc Try.prog w base (fun _ => true) held 38 v d p) : ∃ m : Nd, v = ndV m ∧ m.Ok := by
  obtain ⟨cs, rfl, hsz⟩ := okWide_struct Try.underlying38 hv
  have hc : Try.prog.cellsOf 38 = 4 := by kernel_rfl
  obtain ⟨fuel, hf⟩ := h
  obtain ⟨m, ht, hb⟩ := open_nd4 (by show cs.toList.length = 4; rw [Array.length_toList, hsz, hc]) hf
  have ht' : cs.toList = nd4 m := ht
  refine ⟨m, ?_, hb⟩
  have : cs = (nd4 m).toArray := by rw [← Array.toList_inj, ht']
  rw [this]
  rfl
set_option maxRecDepth 100000 in
theorem open_sk7 {fuel : Nat} {cs : List Value} {y : DataW H × List MemPlace} (hl : cs.length = 7) (h : DataW.trod enc Try.prog w base (fun _ => true) held fuel 40 cs = some y) : ∃ m : Sk, cs = [.int .i64 m.ph, .int .u64 ((m.hash : Nat) : Int), .int .u64 ((m.key : Nat) : Int), .int .u64 ((m.link : Nat) : Int), .int .u64 ((m.node : Nat) : Int), .int .u64 ((m.val : Nat) : Int), .bool m.found] ∧ m.Ok := by
  obtain ⟨xs, k, -, -, -, hxl, hf⟩ := DataW.trod_struct Try.underlying40 h
  match cs, hl, xs, hxl with
  | [c0, c1, c2, c3, c4, c5, c6], _, [y0, y1, y2, y3, y4, y5, y6], _ =>
    have g0 := hf 0 _ rfl
    have g1 := hf 1 _ rfl
    have g2 := hf 2 _ rfl
    have g3 := hf 3 _ rfl
    have g4 := hf 4 _ rfl
    have g5 := hf 5 _ rfl
    have g6 := hf 6 _ rfl
    have ec0 : Try.prog.cellsOf 26 = 1 := by kernel_rfl
    have ec1 : Try.prog.cellsOf 3 = 1 := by kernel_rfl
    have ec2 : Try.prog.cellsOf 4 = 1 := by kernel_rfl
    simp [ec0, ec1, ec2] at g0 g1 g2 g3 g4 g5 g6
    obtain ⟨z0, e0, _, w0⟩ := DataW.trod_int Try.underlying3 g0
    obtain ⟨z1, e1, _, w1⟩ := DataW.trod_int Try.underlying26 g1
    obtain ⟨n1, rfl, q1⟩ := nat_of_wf w1
    obtain ⟨z2, e2, _, w2⟩ := DataW.trod_int Try.underlying26 g2
    obtain ⟨n2, rfl, q2⟩ := nat_of_wf w2
    obtain ⟨z3, e3, _, w3⟩ := DataW.trod_int Try.underlying26 g3
    obtain ⟨n3, rfl, q3⟩ := nat_of_wf w3
    obtain ⟨z4, e4, _, w4⟩ := DataW.trod_int Try.underlying26 g4
    obtain ⟨n4, rfl, q4⟩ := nat_of_wf w4
    obtain ⟨z5, e5, _, w5⟩ := DataW.trod_int Try.underlying26 g5
    obtain ⟨n5, rfl, q5⟩ := nat_of_wf w5
    obtain ⟨z6, e6, -⟩ := DataW.trod_bool Try.underlying4 g6
    simp only [List.cons.injEq, and_true] at e0 e1 e2 e3 e4 e5 e6
    subst e0 e1 e2 e3 e4 e5 e6
    exact ⟨⟨z0, n1, n2, n3, n4, n5, z6⟩, rfl, ⟨int_of_wf w0, q1, q2, q3, q4, q5⟩⟩
set_option maxRecDepth 100000 in
theorem open_sk {r : Reach} {b0 : Nat} {v : Value} {d : DataW H} {p : List MemPlace} (hv : Value.okWide Try.prog w r b0 40 v) (h : DataW.Trod enc Try.prog w base (fun _ => true) held 40 v d p) : ∃ m : Sk, v = skV m ∧ m.Ok := by
  obtain ⟨cs, rfl, hsz⟩ := okWide_struct Try.underlying40 hv
  have hc : Try.prog.cellsOf 40 = 7 := by kernel_rfl
  obtain ⟨fuel, hf⟩ := h
  obtain ⟨m, ht, hb⟩ := open_sk7 (by show cs.toList.length = 7; rw [Array.length_toList, hsz, hc]) hf
  have ht' : cs.toList = [.int .i64 m.ph, .int .u64 ((m.hash : Nat) : Int), .int .u64 ((m.key : Nat) : Int), .int .u64 ((m.link : Nat) : Int), .int .u64 ((m.node : Nat) : Int), .int .u64 ((m.val : Nat) : Int), .bool m.found] := ht
  refine ⟨m, ?_, hb⟩
  have : cs = ([.int .i64 m.ph, .int .u64 ((m.hash : Nat) : Int), .int .u64 ((m.key : Nat) : Int), .int .u64 ((m.link : Nat) : Int), .int .u64 ((m.node : Nat) : Int), .int .u64 ((m.val : Nat) : Int), .bool m.found]).toArray := by rw [← Array.toList_inj, ht']
  rw [this]
  rfl
set_option maxRecDepth 100000 in
theorem open_ed8 {fuel : Nat} {cs : List Value} {y : DataW H × List MemPlace} (hl : cs.length = 8) (h : DataW.trod enc Try.prog w base (fun _ => true) held fuel 53 cs = some y) : ∃ m : Ede, cs = [.int .i64 m.ph, .bool m.cuts, .int .u64 ((m.link : Nat) : Int), .int .u64 ((m.at_ : Nat) : Int), .int .u64 ((m.key : Nat) : Int), .int .u64 ((m.val : Nat) : Int), .int .u64 ((m.hash : Nat) : Int), .int .u64 ((m.next : Nat) : Int)] ∧ m.Ok := by
  obtain ⟨xs, k, -, -, -, hxl, hf⟩ := DataW.trod_struct Try.underlying53 h
  match cs, hl, xs, hxl with
  | [c0, c1, c2, c3, c4, c5, c6, c7], _, [y0, y1, y2, y3, y4], _ =>
    have g0 := hf 0 _ rfl
    have g1 := hf 1 _ rfl
    have g2 := hf 2 _ rfl
    have g3 := hf 3 _ rfl
    have g4 := hf 4 _ rfl
    have ec0 : Try.prog.cellsOf 26 = 1 := by kernel_rfl
    have ec1 : Try.prog.cellsOf 3 = 1 := by kernel_rfl
    have ec2 : Try.prog.cellsOf 4 = 1 := by kernel_rfl
    have ec3 : Try.prog.cellsOf 38 = 4 := by kernel_rfl
    simp [ec0, ec1, ec2, ec3] at g0 g1 g2 g3 g4
    obtain ⟨z0, e0, _, w0⟩ := DataW.trod_int Try.underlying3 g0
    obtain ⟨z1, e1, -⟩ := DataW.trod_bool Try.underlying4 g1
    obtain ⟨z2, e2, _, w2⟩ := DataW.trod_int Try.underlying26 g2
    obtain ⟨n2, rfl, q2⟩ := nat_of_wf w2
    obtain ⟨⟨t0, t1, t2, t3⟩, e3, b0, b1, b2, b3⟩ := open_nd4 rfl g3
    obtain ⟨z4, e4, _, w4⟩ := DataW.trod_int Try.underlying26 g4
    obtain ⟨n4, rfl, q4⟩ := nat_of_wf w4
    simp only [nd4, List.cons.injEq, and_true] at e0 e1 e2 e3 e4
    obtain ⟨f0, f1, f2, f3⟩ := e3
    subst e0 e1 e2 e4 f0 f1 f2 f3
    exact ⟨⟨z0, z1, n2, t0, t1, t2, t3, n4⟩, rfl, ⟨int_of_wf w0, q2, b0, b1, b2, b3, q4⟩⟩
set_option maxRecDepth 100000 in
theorem open_ed {r : Reach} {b0 : Nat} {v : Value} {d : DataW H} {p : List MemPlace} (hv : Value.okWide Try.prog w r b0 53 v) (h : DataW.Trod enc Try.prog w base (fun _ => true) held 53 v d p) : ∃ m : Ede, v = edV m ∧ m.Ok := by
  obtain ⟨cs, rfl, hsz⟩ := okWide_struct Try.underlying53 hv
  have hc : Try.prog.cellsOf 53 = 8 := by kernel_rfl
  obtain ⟨fuel, hf⟩ := h
  obtain ⟨m, ht, hb⟩ := open_ed8 (by show cs.toList.length = 8; rw [Array.length_toList, hsz, hc]) hf
  have ht' : cs.toList = [.int .i64 m.ph, .bool m.cuts, .int .u64 ((m.link : Nat) : Int), .int .u64 ((m.at_ : Nat) : Int), .int .u64 ((m.key : Nat) : Int), .int .u64 ((m.val : Nat) : Int), .int .u64 ((m.hash : Nat) : Int), .int .u64 ((m.next : Nat) : Int)] := ht
  refine ⟨m, ?_, hb⟩
  have : cs = ([.int .i64 m.ph, .bool m.cuts, .int .u64 ((m.link : Nat) : Int), .int .u64 ((m.at_ : Nat) : Int), .int .u64 ((m.key : Nat) : Int), .int .u64 ((m.val : Nat) : Int), .int .u64 ((m.hash : Nat) : Int), .int .u64 ((m.next : Nat) : Int)]).toArray := by rw [← Array.toList_inj, ht']
  rw [this]
  rfl
theorem open_nds {fuel : Nat} {a : Option Addr} {len cap : Nat} {x : DataW H × List MemPlace} (h : DataW.trod enc Try.prog w base (fun _ => true) held fuel 27 (Value.slice a len cap).cells.toList = some x) :
    ∃ ms : List Nd, ms.length = len ∧ Leads w a len cap (ndcells ms) ∧ ∀ m ∈ ms, m.Ok :=
  open_each nd4 Nd.Ok Try.underlying27 (k := 4) (by kernel_rfl) (by decide) (fun q hq => rfl) (fun n cs y hl hy => open_nd4 hl hy) h
end
end Go.Proofs.Ytdkkjcflcegeoaa
