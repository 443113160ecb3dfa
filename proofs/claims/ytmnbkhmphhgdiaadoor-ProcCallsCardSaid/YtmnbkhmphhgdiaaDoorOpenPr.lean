/- Processes, and calls, that came in (printed by gen_openpr.py). -/
import Derived.Test.YtmnbkhmphhgdiaaDoorOpenE
import Derived.Test.YtmnbkhmphhgdiaaDoorPr1
namespace Go.Proofs.YtmnbkhmphhgdiaaDoor
open Go.ChangeShapes Go.WideShapes Go.ChangeAt Go.RowKit
set_option linter.unusedVariables false

section
variable {H : Type} {enc : TypeId × Value → H} {w : World} {base : Nat} {held : Bool}

set_option maxRecDepth 100000 in
theorem open_pr4 {fuel : Nat} {cs : List Value} {y : DataW H × List MemPlace} (hl : cs.length = 4) (h : DataW.trod enc Tryd.prog w base (fun _ => true) held fuel 45 cs = some y) : ∃ m : Pr, cs = pr4 m ∧ m.Ok := by
  obtain ⟨xs, k, -, -, -, hxl, hf⟩ := DataW.trod_struct Tryd.underlying45 h
  match cs, hl, xs, hxl with
  | [c0, c1, c2, c3], _, [y0, y1, y2, y3], _ =>
    have g0 := hf 0 _ rfl
    have g1 := hf 1 _ rfl
    have g2 := hf 2 _ rfl
    have g3 := hf 3 _ rfl
    have ec0 : Tryd.prog.cellsOf 29 = 1 := by kernel_rfl
    have ec1 : Tryd.prog.cellsOf 4 = 1 := by kernel_rfl
    simp [ec0, ec1] at g0 g1 g2 g3
    obtain ⟨z0, e0, _, w0⟩ := DataW.trod_int Tryd.underlying29 g0
    obtain ⟨n0, rfl, q0⟩ := nat_of_wf w0
    obtain ⟨z1, e1, _, w1⟩ := DataW.trod_int Tryd.underlying29 g1
    obtain ⟨n1, rfl, q1⟩ := nat_of_wf w1
    obtain ⟨z2, e2, -⟩ := DataW.trod_bool Tryd.underlying4 g2
    obtain ⟨z3, e3, _, w3⟩ := DataW.trod_int Tryd.underlying29 g3
    obtain ⟨n3, rfl, q3⟩ := nat_of_wf w3
    simp only [List.cons.injEq, and_true] at e0 e1 e2 e3
    subst e0 e1 e2 e3
    exact ⟨(n0, n1, z2, n3), rfl, q0, q1, q3⟩
theorem open_prs {fuel : Nat} {a : Option Addr} {len cap : Nat} {x : DataW H × List MemPlace} (h : DataW.trod enc Tryd.prog w base (fun _ => true) held fuel 23 (Value.slice a len cap).cells.toList = some x) :
    ∃ ms : List Pr, ms.length = len ∧ Leads w a len cap (prcells ms) ∧ PrsOk ms :=
  open_each pr4 Pr.Ok Tryd.underlying23 (k := 4) (by kernel_rfl) (by decide) (fun q _ => rfl) (fun n cs y hl hy => open_pr4 hl hy) h
theorem open_gens {fuel : Nat} {cs : List Value} {y : DataW H × List MemPlace} (hl : cs.length = 16) (h : DataW.trod enc Tryd.prog w base (fun _ => true) held fuel 22 cs = some y) : ∃ G : Nat → Int, cs = [.int .i64 (G 0), .int .i64 (G 1), .int .i64 (G 2), .int .i64 (G 3), .int .i64 (G 4), .int .i64 (G 5), .int .i64 (G 6), .int .i64 (G 7), .int .i64 (G 8), .int .i64 (G 9), .int .i64 (G 10), .int .i64 (G 11), .int .i64 (G 12), .int .i64 (G 13), .int .i64 (G 14), .int .i64 (G 15)] ∧ GOk G := by
  obtain ⟨xs, m, -, -, -, hxl, hel⟩ := DataW.trod_array Tryd.underlying22 h
  have e1 : Tryd.prog.cellsOf 3 = 1 := by kernel_rfl
  rw [e1] at hel
  have key : ∀ i : Fin 16, ∃ z : Int, cs[i.val]? = some (.int .i64 z) ∧ -9223372036854775808 ≤ z ∧ z ≤ 9223372036854775807 := by
    intro i
    have hi := hel i.val i.2
    obtain ⟨yy, hyy⟩ : ∃ yy, xs[i.val]? = some yy := ⟨_, List.getElem?_eq_getElem (by rw [hxl]; exact i.2)⟩
    rw [hyy] at hi
    obtain ⟨z, e, _, wf⟩ := DataW.trod_int Tryd.underlying3 hi
    refine ⟨z, ?_, int_of_wf wf⟩
    have := congrArg (fun l => l[0]?) e
    simpa [List.getElem?_take, List.getElem?_drop] using this
  refine ⟨fun i => if h : i < 16 then Classical.choose (key ⟨i, h⟩) else 0, ?_, fun i => ?_⟩
  · apply List.ext_getElem?
    intro i
    by_cases hi : i < 16
    · rw [(Classical.choose_spec (key ⟨i, hi⟩)).1]
      match i, hi with
      | 0, _ => simp
      | 1, _ => simp
      | 2, _ => simp
      | 3, _ => simp
      | 4, _ => simp
      | 5, _ => simp
      | 6, _ => simp
      | 7, _ => simp
      | 8, _ => simp
      | 9, _ => simp
      | 10, _ => simp
      | 11, _ => simp
      | 12, _ => simp
      | 13, _ => simp
      | 14, _ => simp
      | 15, _ => simp
      | i + 16, h => exact absurd h (by omega)
    · rw [List.getElem?_eq_none (by omega), List.getElem?_eq_none (by simp; omega)]
  · dsimp only
    split
    · rename_i hi
      exact (Classical.choose_spec (key ⟨i, hi⟩)).2
    · decide
set_option maxRecDepth 100000 in
theorem open_ps {r : Reach} {b0 : Nat} {v : Value} {d : DataW H} {p : List MemPlace} (hv : Value.okWide Tryd.prog w r b0 25 v) (h : DataW.Trod enc Tryd.prog w base (fun _ => true) held 25 v d p) :
    ∃ (G : Nat → Int) (L : List Pr) (n c : Nat) (a : Option Addr), v = .agg #[.int .i64 (G 0), .int .i64 (G 1), .int .i64 (G 2), .int .i64 (G 3), .int .i64 (G 4), .int .i64 (G 5), .int .i64 (G 6), .int .i64 (G 7), .int .i64 (G 8), .int .i64 (G 9), .int .i64 (G 10), .int .i64 (G 11), .int .i64 (G 12), .int .i64 (G 13), .int .i64 (G 14), .int .i64 (G 15), .slice a n c] ∧ Leads w a n c (prcells L) ∧ L.length = n ∧ GOk G ∧ PrsOk L := by
  obtain ⟨cs, rfl, hsz⟩ := okWide_struct Tryd.underlying25 hv
  have hc : Tryd.prog.cellsOf 25 = 17 := by kernel_rfl
  obtain ⟨fuel, hf⟩ := h
  have hf' : DataW.trod enc Tryd.prog w base (fun _ => true) held fuel 25 cs.toList = some (d, p) := hf
  obtain ⟨xs, k, -, -, -, hxl, hfl⟩ := DataW.trod_struct Tryd.underlying25 hf'
  match xs, hxl with
  | [y0, y1], _ =>
    have g0 := hfl 0 _ rfl
    have g1 := hfl 1 _ rfl
    have ec0 : Tryd.prog.cellsOf 22 = 16 := by kernel_rfl
    have ec1 : Tryd.prog.cellsOf 23 = 1 := by kernel_rfl
    have hlen : cs.toList.length = 17 := by rw [Array.length_toList, hsz, hc]
    have k0 : DataW.trod enc Tryd.prog w base (fun _ => true) held k 22 ((cs.toList.drop 0).take (Tryd.prog.cellsOf 22)) = some y0 := g0
    have k1 : DataW.trod enc Tryd.prog w base (fun _ => true) held k 23 ((cs.toList.drop 16).take (Tryd.prog.cellsOf 23)) = some y1 := g1
    rw [ec0, List.drop_zero] at k0
    rw [ec1] at k1
    obtain ⟨G, hG, hGO⟩ := open_gens (by rw [List.length_take, hlen]; rfl) k0
    have h16 : ∃ u, cs.toList.drop 16 = [u] := by
      have hd : (cs.toList.drop 16).length = 1 := by rw [List.length_drop, hlen]
      match hl : cs.toList.drop 16, hd with
      | [u], _ => exact ⟨u, rfl⟩
    obtain ⟨u, hu⟩ := h16
    have g1' : DataW.trod enc Tryd.prog w base (fun _ => true) held k 23 [u] = some y1 := by rw [hu] at k1; exact k1
    obtain ⟨a, n, c, e⟩ := Joins.slice_form Tryd.underlying23 g1'
    simp only [List.cons.injEq, and_true] at e
    subst e
    obtain ⟨L, l1, l2, l3⟩ := open_prs (a := a) (len := n) (cap := c) g1'
    refine ⟨G, L, n, c, a, ?_, l2, l1, hGO, l3⟩
    have : cs.toList = [.int .i64 (G 0), .int .i64 (G 1), .int .i64 (G 2), .int .i64 (G 3), .int .i64 (G 4), .int .i64 (G 5), .int .i64 (G 6), .int .i64 (G 7), .int .i64 (G 8), .int .i64 (G 9), .int .i64 (G 10), .int .i64 (G 11), .int .i64 (G 12), .int .i64 (G 13), .int .i64 (G 14), .int .i64 (G 15), .slice a n c] := by
      rw [← List.take_append_drop 16 cs.toList, hu, hG]
      rfl
    rw [← Array.toList_inj.1 (show cs.toList = #[.int .i64 (G 0), .int .i64 (G 1), .int .i64 (G 2), .int .i64 (G 3), .int .i64 (G 4), .int .i64 (G 5), .int .i64 (G 6), .int .i64 (G 7), .int .i64 (G 8), .int .i64 (G 9), .int .i64 (G 10), .int .i64 (G 11), .int .i64 (G 12), .int .i64 (G 13), .int .i64 (G 14), .int .i64 (G 15), .slice a n c].toList from this)]
/-- A call that came in: its kind, its pid, what else. -/
abbrev Cl := Int × Nat × Nat
def cl3 (x : Cl) : List Value := [.int .i64 x.1, .int .u64 ((x.2.1 : Nat) : Int), .int .u64 ((x.2.2 : Nat) : Int)]
def Cl.Ok (x : Cl) : Prop := (-9223372036854775808 ≤ x.1 ∧ x.1 ≤ 9223372036854775807) ∧ x.2.1 < 18446744073709551616 ∧ x.2.2 < 18446744073709551616
def clcells (xs : List Cl) : List Value := xs.flatMap cl3
set_option maxRecDepth 100000 in
theorem open_cl3 {fuel : Nat} {cs : List Value} {y : DataW H × List MemPlace} (hl : cs.length = 3) (h : DataW.trod enc Tryd.prog w base (fun _ => true) held fuel 31 cs = some y) : ∃ m : Cl, cs = cl3 m ∧ m.Ok := by
  obtain ⟨xs, k, -, -, -, hxl, hf⟩ := DataW.trod_struct Tryd.underlying31 h
  match cs, hl, xs, hxl with
  | [c0, c1, c2], _, [y0, y1, y2], _ =>
    have g0 := hf 0 _ rfl
    have g1 := hf 1 _ rfl
    have g2 := hf 2 _ rfl
    have ec0 : Tryd.prog.cellsOf 29 = 1 := by kernel_rfl
    have ec1 : Tryd.prog.cellsOf 3 = 1 := by kernel_rfl
    simp [ec0, ec1] at g0 g1 g2
    obtain ⟨z0, e0, _, w0⟩ := DataW.trod_int Tryd.underlying3 g0
    obtain ⟨z1, e1, _, w1⟩ := DataW.trod_int Tryd.underlying29 g1
    obtain ⟨n1, rfl, q1⟩ := nat_of_wf w1
    obtain ⟨z2, e2, _, w2⟩ := DataW.trod_int Tryd.underlying29 g2
    obtain ⟨n2, rfl, q2⟩ := nat_of_wf w2
    simp only [List.cons.injEq, and_true] at e0 e1 e2
    subst e0 e1 e2
    exact ⟨(z0, n1, n2), rfl, int_of_wf w0, q1, q2⟩
theorem open_cls {fuel : Nat} {a : Option Addr} {len cap : Nat} {x : DataW H × List MemPlace} (h : DataW.trod enc Tryd.prog w base (fun _ => true) held fuel 26 (Value.slice a len cap).cells.toList = some x) :
    ∃ ms : List Cl, ms.length = len ∧ Leads w a len cap (clcells ms) ∧ ∀ m ∈ ms, m.Ok :=
  open_each cl3 Cl.Ok Tryd.underlying26 (k := 3) (by kernel_rfl) (by decide) (fun q _ => rfl) (fun n cs y hl hy => open_cl3 hl hy) h
end
end Go.Proofs.YtmnbkhmphhgdiaaDoor
