/- Several texts in one. -/
import Derived.Test.YtahicokokfcieaaDoorTgAx
import Derived.Lib.SmallJoins
import Derived.DataElems
import Derived.Test.YtahicokokfcieaaDoorTgAs
namespace Go.Proofs.YtahicokokfcieaaDoor
open Go.ChangeShapes Go.WideShapes Go.ChangeAt Go.RowKit
set_option linter.unusedVariables false

section
variable {H : Type} {enc : TypeId × Value → H} {P : Program} {w : World} {base : Nat} {held : Bool}

/-- A row of elements of k cells each, where each one's cells say what it is. -/
theorem open_each {α : Type} {t e : TypeId} {k fuel : Nat} {a : Option Addr} {len cap : Nat} {x : DataW H × List MemPlace} (f : α → List Value) (R : α → Prop) (ht : P.underlying t = some (.slice e)) (ce : P.cellsOf e = k) (hk : 0 < k) (hf : ∀ q, R q → (f q).length = k)
    (each : ∀ (n : Nat) (cs : List Value) (y : DataW H × List MemPlace), cs.length = k → DataW.trod enc P w base (fun _ => true) held n e cs = some y → ∃ q : α, cs = f q ∧ R q)
    (h : DataW.trod enc P w base (fun _ => true) held fuel t (Value.slice a len cap).cells.toList = some x) : ∃ qs : List α, qs.length = len ∧ Leads w a len cap (qs.flatMap f) ∧ ∀ q ∈ qs, R q := by
  rcases Go.Deep.open_slice ht h with ⟨hcs, _⟩ | ⟨ad, l, c, m, n, D, Pl, hcs, _, hl, hm, hmm, _, hV⟩
  · simp [Value.cells] at hcs
    obtain ⟨rfl, rfl, rfl⟩ := hcs
    exact ⟨[], rfl, ⟨Nat.le_refl _, Nat.zero_le _, .inl ⟨rfl, rfl⟩⟩, fun x hx => by cases hx⟩
  · simp [Value.cells] at hcs
    obtain ⟨rfl, rfl, rfl⟩ := hcs
    have hmc : m = cap := by rw [hmm]; rfl
    have e1 : ∀ i : Fin len, ∃ q : α, R q ∧ ∀ j, j < k → w.cell? (ad.add (i.1 * k + j)) = (f q)[j]? := by
      intro i
      obtain ⟨cs', h1, h2⟩ := hV i.1 (by omega)
      rw [ce] at h1
      obtain ⟨_, hlen, hcell⟩ := World.cells?_some h1
      obtain ⟨q, rfl, hR⟩ := each n cs' _ hlen h2
      refine ⟨q, hR, fun j hj => ?_⟩
      rw [← Addr.add_add]
      exact hcell j hj
    let g : Fin len → α := fun i => Classical.choose (e1 i)
    have hg : ∀ i, R (g i) ∧ ∀ j, j < k → w.cell? (ad.add (i.1 * k + j)) = (f (g i))[j]? := fun i => Classical.choose_spec (e1 i)
    have hlenf : ∀ (qs : List α), (∀ q ∈ qs, R q) → (qs.flatMap f).length = qs.length * k := by
      intro qs
      induction qs with
      | nil => intro _; simp
      | cons q r ih =>
        intro h
        rw [List.flatMap_cons, List.length_append, hf q (h q (by simp)), ih (fun q hq => h q (by simp [hq])), List.length_cons, Nat.succ_mul]; omega
    have hall : ∀ q ∈ List.ofFn g, R q := by
      intro q hq
      obtain ⟨i, rfl⟩ := List.mem_ofFn.1 hq
      exact (hg i).1
    refine ⟨List.ofFn g, by simp, leads_of _ hl hm ?_ ?_, hall⟩
    · intro h0
      rw [hlenf _ hall, List.length_ofFn] at h0
      rcases Nat.mul_eq_zero.1 h0 with h | h
      · exact h
      · omega
    · intro i v hv
      have hlt := (List.getElem?_eq_some_iff.1 hv).1
      rw [hlenf _ hall, List.length_ofFn] at hlt
      have hq : i / k < len := Nat.div_lt_of_lt_mul (by rw [Nat.mul_comm]; exact hlt)
      have hr : i % k < k := Nat.mod_lt _ hk
      have ei : i / k * k + i % k = i := Nat.div_add_mod' i k
      have hc := (hg ⟨i / k, hq⟩).2 (i % k) hr
      rw [show (⟨i / k, hq⟩ : Fin len).1 * k + i % k = i from ei] at hc
      rw [hc, ← hv]
      clear hc hv
      have go : ∀ (qs : List α) (hR : ∀ q ∈ qs, R q) (a b : Nat) (q : α), qs[a]? = some q → b < k → (qs.flatMap f)[a * k + b]? = (f q)[b]? := by
        intro qs
        induction qs with
        | nil => intro _ a b q h; simp at h
        | cons y r ih =>
          intro hR a b q h hb
          have hy := hf y (hR y (by simp))
          rw [List.flatMap_cons]
          cases a with
          | zero =>
            obtain rfl : y = q := by simpa using h
            rw [Nat.zero_mul, Nat.zero_add, List.getElem?_append_left (by omega)]
          | succ a =>
            rw [List.getElem?_append_right (by rw [hy, Nat.succ_mul]; omega), hy, show (a + 1) * k + b - k = a * k + b by rw [Nat.succ_mul]; omega]
            exact ih (fun q hq => hR q (by simp [hq])) a b q (by simpa using h) hb
      have := go (List.ofFn g) hall (i / k) (i % k) (g ⟨i / k, hq⟩) (by rw [List.getElem?_ofFn, dif_pos hq]) hr
      rw [ei] at this
      exact this.symm
end
end Go.Proofs.YtahicokokfcieaaDoor
namespace Go.Proofs.YtahicokokfcieaaDoor
open Go.ChangeShapes Go.WideShapes Go.ChangeAt Go.RowKit
set_option linter.unusedVariables false

section
variable {H : Type} {enc : TypeId × Value → H} {w : World} {base : Nat} {held : Bool}

theorem open_boolrow {fuel : Nat} {a : Option Addr} {len cap : Nat} {x : DataW H × List MemPlace} (h : DataW.trod enc Tryd.prog w base (fun _ => true) held fuel 36 (Value.slice a len cap).cells.toList = some x) :
    ∃ bs : List Bool, bs.length = len ∧ Leads w a len cap (bcells bs) := by
  obtain ⟨qs, h1, h2, h3⟩ := open_each (fun b : Bool => [Value.bool b]) (fun _ => True) Tryd.underlying36 (k := 1) (by kernel_rfl) (by decide) (fun q hq => rfl) (fun n cs y hl hy => by
    obtain ⟨z, e, -⟩ := DataW.trod_bool Tryd.underlying4 hy
    exact ⟨z, e, trivial⟩) h
  refine ⟨qs, h1, ?_⟩
  have : qs.flatMap (fun b : Bool => [Value.bool b]) = bcells qs := by clear h h1 h2 h3; induction qs with | nil => rfl | cons q r ih => rw [List.flatMap_cons, ih]; rfl
  rw [← this]; exact h2
set_option maxRecDepth 100000 in
theorem open_mem {r : Reach} {b0 : Nat} {v : Value} {d : DataW H} {p : List MemPlace} (hv : Value.okWide Tryd.prog w r b0 38 v) (h : DataW.Trod enc Tryd.prog w base (fun _ => true) held 38 v d p) :
    ∃ (M : Mem) (wa : Option Addr) (wc : Nat) (la : Option Addr) (lc : Nat), v = memV wa wc la lc M ∧ MemL w wa wc la lc M ∧ ∀ x ∈ M.W, x < 18446744073709551616 := by
  obtain ⟨c, e, u, y, y1, y2, n, rfl, -, -, h0, h1, h2⟩ := Joins.open_agg3 Tryd.underlying38 (by kernel_rfl) (by kernel_rfl) hv h
  obtain ⟨wa, wn, wc, eW⟩ := Joins.slice_form Tryd.underlying22 h0
  obtain ⟨la, ln, lc, eL⟩ := Joins.slice_form Tryd.underlying36 h1
  obtain ⟨F, eF, -⟩ := DataW.trod_bool Tryd.underlying4 h2
  simp only [List.cons.injEq, and_true] at eW eL eF
  subst eW eL eF
  obtain ⟨ws, w1, w2, w3⟩ := open_words (a := wa) (len := wn) (cap := wc) Tryd.underlying22 Tryd.underlying25 (by kernel_rfl) h0
  obtain ⟨bs, b1, b2⟩ := open_boolrow (a := la) (len := ln) (cap := lc) h1
  subst w1 b1
  exact ⟨⟨ws, bs, F⟩, wa, wc, la, lc, rfl, ⟨w2, b2⟩, w3⟩
set_option maxRecDepth 100000 in
theorem open_nd4 {fuel : Nat} {cs : List Value} {y : DataW H × List MemPlace} (hl : cs.length = 4) (h : DataW.trod enc Tryd.prog w base (fun _ => true) held fuel 57 cs = some y) : ∃ m : Nd, cs = nd4 m ∧ m.Ok := by
  obtain ⟨xs, k, -, -, -, hxl, hf⟩ := DataW.trod_struct Tryd.underlying57 h
  match cs, hl, xs, hxl with
  | [c0, c1, c2, c3], _, [y0, y1, y2, y3], _ =>
    have g0 := hf 0 _ rfl
    have g1 := hf 1 _ rfl
    have g2 := hf 2 _ rfl
    have g3 := hf 3 _ rfl
    have ec0 : Tryd.prog.cellsOf 25 = 1 := by kernel_rfl
    simp [ec0] at g0 g1 g2 g3
    obtain ⟨z0, e0, _, w0⟩ := DataW.trod_int Tryd.underlying25 g0
    obtain ⟨n0, rfl, q0⟩ := nat_of_wf w0
    obtain ⟨z1, e1, _, w1⟩ := DataW.trod_int Tryd.underlying25 g1
    obtain ⟨n1, rfl, q1⟩ := nat_of_wf w1
    obtain ⟨z2, e2, _, w2⟩ := DataW.trod_int Tryd.underlying25 g2
    obtain ⟨n2, rfl, q2⟩ := nat_of_wf w2
    obtain ⟨z3, e3, _, w3⟩ := DataW.trod_int Tryd.underlying25 g3
    obtain ⟨n3, rfl, q3⟩ := nat_of_wf w3
    simp only [List.cons.injEq, and_true] at e0 e1 e2 e3
    subst e0 e1 e2 e3
    exact ⟨(n0, n1, n2, n3), rfl, ⟨q0, q1, q2, q3⟩⟩
set_option maxRecDepth 100000 in
theorem open_nd {r : Reach} {b0 : Nat} {v : Value} {d : DataW H} {p : List MemPlace} (hv : Value.okWide Tryd.prog w r b0 57 v) (h : DataW.Trod enc Tryd.prog w base (fun _ => true) held 57 v d p) : ∃ m : Nd, v = ndV m ∧ m.Ok := by
  obtain ⟨cs, rfl, hsz⟩ := okWide_struct Tryd.underlying57 hv
  have hc : Tryd.prog.cellsOf 57 = 4 := by kernel_rfl
  obtain ⟨fuel, hf⟩ := h
  obtain ⟨m, ht, hb⟩ := open_nd4 (by show cs.toList.length = 4; rw [Array.length_toList, hsz, hc]) hf
  have ht' : cs.toList = nd4 m := ht
  refine ⟨m, ?_, hb⟩
  have : cs = (nd4 m).toArray := by rw [← Array.toList_inj, ht']
  rw [this]
  rfl
set_option maxRecDepth 100000 in
theorem open_sk7 {fuel : Nat} {cs : List Value} {y : DataW H × List MemPlace} (hl : cs.length = 7) (h : DataW.trod enc Tryd.prog w base (fun _ => true) held fuel 44 cs = some y) : ∃ m : Sk, cs = [.int .i64 m.ph, .int .u64 ((m.hash : Nat) : Int), .int .u64 ((m.key : Nat) : Int), .int .u64 ((m.link : Nat) : Int), .int .u64 ((m.node : Nat) : Int), .int .u64 ((m.val : Nat) : Int), .bool m.found] ∧ m.Ok := by
  obtain ⟨xs, k, -, -, -, hxl, hf⟩ := DataW.trod_struct Tryd.underlying44 h
  match cs, hl, xs, hxl with
  | [c0, c1, c2, c3, c4, c5, c6], _, [y0, y1, y2, y3, y4, y5, y6], _ =>
    have g0 := hf 0 _ rfl
    have g1 := hf 1 _ rfl
    have g2 := hf 2 _ rfl
    have g3 := hf 3 _ rfl
    have g4 := hf 4 _ rfl
    have g5 := hf 5 _ rfl
    have g6 := hf 6 _ rfl
    have ec0 : Tryd.prog.cellsOf 25 = 1 := by kernel_rfl
    have ec1 : Tryd.prog.cellsOf 3 = 1 := by kernel_rfl
    have ec2 : Tryd.prog.cellsOf 4 = 1 := by kernel_rfl
    simp [ec0, ec1, ec2] at g0 g1 g2 g3 g4 g5 g6
    obtain ⟨z0, e0, _, w0⟩ := DataW.trod_int Tryd.underlying3 g0
    obtain ⟨z1, e1, _, w1⟩ := DataW.trod_int Tryd.underlying25 g1
    obtain ⟨n1, rfl, q1⟩ := nat_of_wf w1
    obtain ⟨z2, e2, _, w2⟩ := DataW.trod_int Tryd.underlying25 g2
    obtain ⟨n2, rfl, q2⟩ := nat_of_wf w2
    obtain ⟨z3, e3, _, w3⟩ := DataW.trod_int Tryd.underlying25 g3
    obtain ⟨n3, rfl, q3⟩ := nat_of_wf w3
    obtain ⟨z4, e4, _, w4⟩ := DataW.trod_int Tryd.underlying25 g4
    obtain ⟨n4, rfl, q4⟩ := nat_of_wf w4
    obtain ⟨z5, e5, _, w5⟩ := DataW.trod_int Tryd.underlying25 g5
    obtain ⟨n5, rfl, q5⟩ := nat_of_wf w5
    obtain ⟨z6, e6, -⟩ := DataW.trod_bool Tryd.underlying4 g6
    simp only [List.cons.injEq, and_true] at e0 e1 e2 e3 e4 e5 e6
    subst e0 e1 e2 e3 e4 e5 e6
    exact ⟨⟨z0, n1, n2, n3, n4, n5, z6⟩, rfl, ⟨int_of_wf w0, q1, q2, q3, q4, q5⟩⟩
set_option maxRecDepth 100000 in
theorem open_sk {r : Reach} {b0 : Nat} {v : Value} {d : DataW H} {p : List MemPlace} (hv : Value.okWide Tryd.prog w r b0 44 v) (h : DataW.Trod enc Tryd.prog w base (fun _ => true) held 44 v d p) : ∃ m : Sk, v = skV m ∧ m.Ok := by
  obtain ⟨cs, rfl, hsz⟩ := okWide_struct Tryd.underlying44 hv
  have hc : Tryd.prog.cellsOf 44 = 7 := by kernel_rfl
  obtain ⟨fuel, hf⟩ := h
  obtain ⟨m, ht, hb⟩ := open_sk7 (by show cs.toList.length = 7; rw [Array.length_toList, hsz, hc]) hf
  have ht' : cs.toList = [.int .i64 m.ph, .int .u64 ((m.hash : Nat) : Int), .int .u64 ((m.key : Nat) : Int), .int .u64 ((m.link : Nat) : Int), .int .u64 ((m.node : Nat) : Int), .int .u64 ((m.val : Nat) : Int), .bool m.found] := ht
  refine ⟨m, ?_, hb⟩
  have : cs = ([.int .i64 m.ph, .int .u64 ((m.hash : Nat) : Int), .int .u64 ((m.key : Nat) : Int), .int .u64 ((m.link : Nat) : Int), .int .u64 ((m.node : Nat) : Int), .int .u64 ((m.val : Nat) : Int), .bool m.found]).toArray := by rw [← Array.toList_inj, ht']
  rw [this]
  rfl
set_option maxRecDepth 100000 in
theorem open_ed8 {fuel : Nat} {cs : List Value} {y : DataW H × List MemPlace} (hl : cs.length = 8) (h : DataW.trod enc Tryd.prog w base (fun _ => true) held fuel 106 cs = some y) : ∃ m : Ede, cs = [.int .i64 m.ph, .bool m.cuts, .int .u64 ((m.link : Nat) : Int), .int .u64 ((m.at_ : Nat) : Int), .int .u64 ((m.key : Nat) : Int), .int .u64 ((m.val : Nat) : Int), .int .u64 ((m.hash : Nat) : Int), .int .u64 ((m.next : Nat) : Int)] ∧ m.Ok := by
  obtain ⟨xs, k, -, -, -, hxl, hf⟩ := DataW.trod_struct Tryd.underlying106 h
  match cs, hl, xs, hxl with
  | [c0, c1, c2, c3, c4, c5, c6, c7], _, [y0, y1, y2, y3, y4], _ =>
    have g0 := hf 0 _ rfl
    have g1 := hf 1 _ rfl
    have g2 := hf 2 _ rfl
    have g3 := hf 3 _ rfl
    have g4 := hf 4 _ rfl
    have ec0 : Tryd.prog.cellsOf 25 = 1 := by kernel_rfl
    have ec1 : Tryd.prog.cellsOf 3 = 1 := by kernel_rfl
    have ec2 : Tryd.prog.cellsOf 4 = 1 := by kernel_rfl
    have ec3 : Tryd.prog.cellsOf 57 = 4 := by kernel_rfl
    simp [ec0, ec1, ec2, ec3] at g0 g1 g2 g3 g4
    obtain ⟨z0, e0, _, w0⟩ := DataW.trod_int Tryd.underlying3 g0
    obtain ⟨z1, e1, -⟩ := DataW.trod_bool Tryd.underlying4 g1
    obtain ⟨z2, e2, _, w2⟩ := DataW.trod_int Tryd.underlying25 g2
    obtain ⟨n2, rfl, q2⟩ := nat_of_wf w2
    obtain ⟨⟨t0, t1, t2, t3⟩, e3, b0, b1, b2, b3⟩ := open_nd4 rfl g3
    obtain ⟨z4, e4, _, w4⟩ := DataW.trod_int Tryd.underlying25 g4
    obtain ⟨n4, rfl, q4⟩ := nat_of_wf w4
    simp only [nd4, List.cons.injEq, and_true] at e0 e1 e2 e3 e4
    obtain ⟨f0, f1, f2, f3⟩ := e3
    subst e0 e1 e2 e4 f0 f1 f2 f3
    exact ⟨⟨z0, z1, n2, t0, t1, t2, t3, n4⟩, rfl, ⟨int_of_wf w0, q2, b0, b1, b2, b3, q4⟩⟩
set_option maxRecDepth 100000 in
theorem open_ed {r : Reach} {b0 : Nat} {v : Value} {d : DataW H} {p : List MemPlace} (hv : Value.okWide Tryd.prog w r b0 106 v) (h : DataW.Trod enc Tryd.prog w base (fun _ => true) held 106 v d p) : ∃ m : Ede, v = edV m ∧ m.Ok := by
  obtain ⟨cs, rfl, hsz⟩ := okWide_struct Tryd.underlying106 hv
  have hc : Tryd.prog.cellsOf 106 = 8 := by kernel_rfl
  obtain ⟨fuel, hf⟩ := h
  obtain ⟨m, ht, hb⟩ := open_ed8 (by show cs.toList.length = 8; rw [Array.length_toList, hsz, hc]) hf
  have ht' : cs.toList = [.int .i64 m.ph, .bool m.cuts, .int .u64 ((m.link : Nat) : Int), .int .u64 ((m.at_ : Nat) : Int), .int .u64 ((m.key : Nat) : Int), .int .u64 ((m.val : Nat) : Int), .int .u64 ((m.hash : Nat) : Int), .int .u64 ((m.next : Nat) : Int)] := ht
  refine ⟨m, ?_, hb⟩
  have : cs = ([.int .i64 m.ph, .bool m.cuts, .int .u64 ((m.link : Nat) : Int), .int .u64 ((m.at_ : Nat) : Int), .int .u64 ((m.key : Nat) : Int), .int .u64 ((m.val : Nat) : Int), .int .u64 ((m.hash : Nat) : Int), .int .u64 ((m.next : Nat) : Int)]).toArray := by rw [← Array.toList_inj, ht']
  rw [this]
  rfl
theorem open_nds {fuel : Nat} {a : Option Addr} {len cap : Nat} {x : DataW H × List MemPlace} (h : DataW.trod enc Tryd.prog w base (fun _ => true) held fuel 55 (Value.slice a len cap).cells.toList = some x) :
    ∃ ms : List Nd, ms.length = len ∧ Leads w a len cap (ndcells ms) ∧ ∀ m ∈ ms, m.Ok :=
  open_each nd4 Nd.Ok Tryd.underlying55 (k := 4) (by kernel_rfl) (by decide) (fun q hq => rfl) (fun n cs y hl hy => open_nd4 hl hy) h
end
end Go.Proofs.YtahicokokfcieaaDoor
