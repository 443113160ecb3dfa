/- Scripts that came in. -/
import Derived.Test.YtpehnahmdfoobaaDoorOpenE
import Derived.Test.YtpehnahmdfoobaaDoorScript12
import Derived.Laws.IdiomArrays
namespace Go.Proofs.YtpehnahmdfoobaaDoor
open Go.ChangeShapes Go.WideShapes Go.ChangeAt Go.RowKit
set_option linter.unusedVariables false

section
variable {H : Type} {enc : TypeId × Value → H} {w : World} {base : Nat} {held : Bool}

def callOk (q : List Nat) : Prop := q.length = 5 ∧ ∀ v ∈ q, v < 18446744073709551616
theorem wcells_flat (qs : List (List Nat)) : wcells qs.flatten = qs.flatMap wcells := by
  induction qs with
  | nil => rfl
  | cons q r ih => rw [List.flatten_cons, List.flatMap_cons, ← ih]; simp [wcells]
theorem open_call (n : Nat) (cs : List Value) (y : DataW H × List MemPlace) (hl : cs.length = 5) (h : DataW.trod enc Tryd.prog w base (fun _ => true) held n 53 cs = some y) : ∃ q : List Nat, cs = wcells q ∧ callOk q := by
  obtain ⟨xs, k, -, -, -, hxl, hf⟩ := DataW.trod_struct Tryd.underlying53 h
  match cs, hl, xs, hxl with
  | [c0, c1, c2, c3, c4], _, [y0, y1], _ =>
    have g0 := hf 0 _ rfl
    have g1 := hf 1 _ rfl
    have ec0 : Tryd.prog.cellsOf 32 = 1 := by kernel_rfl
    have ec1 : Tryd.prog.cellsOf 51 = 4 := by kernel_rfl
    simp [ec0, ec1] at g0 g1
    obtain ⟨z0, e0, _, w0⟩ := DataW.trod_int Tryd.underlying32 g0
    obtain ⟨u0, u1, u2, u3, m, -, q0, q1, q2, q3⟩ := trod_array4 Tryd.underlying51 ec0 g1
    obtain ⟨z1, e1, _, w1⟩ := DataW.trod_int Tryd.underlying32 q0
    obtain ⟨z2, e2, _, w2⟩ := DataW.trod_int Tryd.underlying32 q1
    obtain ⟨z3, e3, _, w3⟩ := DataW.trod_int Tryd.underlying32 q2
    obtain ⟨z4, e4, _, w4⟩ := DataW.trod_int Tryd.underlying32 q3
    obtain ⟨n0, rfl, b0⟩ := nat_of_wf w0
    obtain ⟨n1, rfl, b1⟩ := nat_of_wf w1
    obtain ⟨n2, rfl, b2⟩ := nat_of_wf w2
    obtain ⟨n3, rfl, b3⟩ := nat_of_wf w3
    obtain ⟨n4, rfl, b4⟩ := nat_of_wf w4
    simp only [List.cons.injEq, and_true] at e0 e1 e2 e3 e4
    subst e0 e1 e2 e3 e4
    refine ⟨[n0, n1, n2, n3, n4], rfl, rfl, ?_⟩
    intro v hv
    simp only [List.mem_cons, List.not_mem_nil, or_false] at hv
    rcases hv with rfl | rfl | rfl | rfl | rfl <;> assumption
theorem open_calls {fuel : Nat} {a : Option Addr} {len cap : Nat} {x : DataW H × List MemPlace} (h : DataW.trod enc Tryd.prog w base (fun _ => true) held fuel 46 (Value.slice a len cap).cells.toList = some x) :
    ∃ qs : List (List Nat), qs.length = len ∧ Leads w a len cap (wcells qs.flatten) ∧ ∀ q ∈ qs, callOk q := by
  obtain ⟨qs, h1, h2, h3⟩ := open_each wcells callOk Tryd.underlying46 (k := 5) (by kernel_rfl) (by decide) (fun q hq => by simpa [wcells] using hq.1) (fun n cs y hl hy => open_call n cs y hl hy) h
  exact ⟨qs, h1, by rw [wcells_flat]; exact h2, h3⟩
theorem open_rows {fuel : Nat} {a : Option Addr} {len cap : Nat} {x : DataW H × List MemPlace} (h : DataW.trod enc Tryd.prog w base (fun _ => true) held fuel 33 (Value.slice a len cap).cells.toList = some x) :
    ∃ (ls : List (List (List Nat))) (vs : List Value), ls.length = len ∧ vs.length = len ∧ Leads w a len cap vs ∧ (∀ cs ∈ ls, ∀ q ∈ cs, callOk q) ∧ ∀ (i : Nat) (v : Value) (cs : List (List Nat)), vs[i]? = some v → ls[i]? = some cs → CallsL w v cs := by
  obtain ⟨qs, h1, h2, h3⟩ := open_each (fun p : Value × List (List Nat) => [p.1]) (fun p => CallsL w p.1 p.2 ∧ ∀ q ∈ p.2, callOk q) Tryd.underlying33 (k := 1) (by kernel_rfl) (by decide) (fun q hq => rfl) (fun n cs y hl hy => by
    obtain ⟨a', l', c', rfl⟩ := Joins.slice_form Tryd.underlying46 hy
    obtain ⟨qs, g1, g2, g3⟩ := open_calls hy
    subst g1
    exact ⟨(_, qs), rfl, ⟨a', c', rfl, g2⟩, g3⟩) h
  refine ⟨qs.map (·.2), qs.map (·.1), by simpa using h1, by simpa using h1, ?_, ?_, ?_⟩
  · have : qs.flatMap (fun p : Value × List (List Nat) => [p.1]) = qs.map (·.1) := by clear h h1 h2 h3; induction qs with | nil => rfl | cons q r ih => rw [List.flatMap_cons, ih]; rfl
    rw [← this]; exact h2
  · intro cs hcs
    obtain ⟨p, hp, rfl⟩ := List.mem_map.1 hcs
    exact (h3 p hp).2
  · intro i v cs hv hc
    rw [List.getElem?_map] at hv hc
    cases hq : qs[i]? with
    | none => rw [hq] at hv; cases hv
    | some p =>
      rw [hq] at hv hc
      injection hv with hv; injection hc with hc
      subst hv; subst hc
      exact (h3 p (List.mem_of_getElem? hq)).1
theorem open_scr {r : Reach} {b0 : Nat} {v : Value} {d : DataW H} {p : List MemPlace} (hv : Value.okWide Tryd.prog w r b0 35 v) (h : DataW.Trod enc Tryd.prog w base (fun _ => true) held 35 v d p) :
    ∃ (S : Scr) (la : Option Addr) (lc : Nat) (vs : List Value) (pa : Option Addr) (pc : Nat), v = scrV la lc pa pc S ∧ ScrL w la lc vs pa pc S ∧ S.Ok := by
  obtain ⟨c, e, u, z, y, y1, y2, y3, n, rfl, -, -, h0, h1, h2, h3⟩ := Joins.open_agg4 Tryd.underlying35 (by kernel_rfl) (by kernel_rfl) hv h
  obtain ⟨C, eC, _, wC⟩ := DataW.trod_int Tryd.underlying3 h0
  obtain ⟨P, eP, _, wP⟩ := DataW.trod_int Tryd.underlying3 h1
  obtain ⟨la, ln, lc, eL⟩ := Joins.slice_form Tryd.underlying33 h2
  obtain ⟨pa, pn, pc, eP2⟩ := Joins.slice_form Tryd.underlying22 h3
  simp only [List.cons.injEq, and_true] at eC eP eL eP2
  subst eC eP eL eP2
  obtain ⟨ls, vs, l1, l2, l3, l4, l5⟩ := open_rows (a := la) (len := ln) (cap := lc) h2
  obtain ⟨ps, p1, p2, p3⟩ := open_i64s (a := pa) (len := pn) (cap := pc) Tryd.underlying22 Tryd.underlying3 (by kernel_rfl) h3
  subst l1 p1
  exact ⟨⟨C, P, ls, ps⟩, la, lc, vs, pa, pc, rfl, ⟨l3, l2, l5, p2⟩, ⟨fun cs hcs q hq => (l4 cs hcs q hq).1, fun cs hcs q hq => (l4 cs hcs q hq).2, int_of_wf wC, int_of_wf wP, p3⟩⟩
end
end Go.Proofs.YtpehnahmdfoobaaDoor
