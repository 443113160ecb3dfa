/- Turns that came in. -/
import Derived.Test.YtbfhppafffhlkaaOpenM
namespace Go.Proofs.Ytbfhppafffhlkaa
open Go.ChangeShapes Go.WideShapes Go.ChangeAt Go.RowKit
set_option linter.unusedVariables false

section
variable {H : Type} {enc : TypeId × Value → H} {P : Program} {w : World} {base : Nat} {held : Bool}
def boolN : Value → Bool
  | .bool b => b
  | _ => false
def turncells (ts : List (Bool × Nat)) : List Value := ts.flatMap fun f => [Value.bool f.1, .int .u64 ((f.2 : Nat) : Int)]
def turnok (ts : List (Bool × Nat)) : Prop := ∀ t ∈ ts, t.2 < 18446744073709551616
theorem open_trow {t e : TypeId} {f0 f1 : Field} {fuel : Nat} {a : Option Addr} {len cap : Nat} {x : DataW H × List MemPlace} (ht : P.underlying t = some (.slice e)) (he : P.underlying e = some (.struct #[f0, f1]))
    (ce : P.cellsOf e = 2) (o0 : f0.offset = 0) (o1 : f1.offset = 1) (c0 : P.cellsOf f0.type = 1) (c1 : P.cellsOf f1.type = 1) (k0 : P.underlying f0.type = some .bool) (k1 : P.underlying f1.type = some (.int .u64))
    (h : DataW.trod enc P w base (fun _ => true) held fuel t (Value.slice a len cap).cells.toList = some x) : ∃ fs : List (Bool × Nat), fs.length = len ∧ Leads w a len cap (turncells fs) ∧ turnok fs := by
  rcases Go.Deep.open_slice_pairs ht he ce o0 o1 c0 c1 h with ⟨hcs, _⟩ | ⟨ad, l, c, m, n, V0, V1, D0, D1, P0, P1, hcs, _, hl, hm, hmm, _, hV⟩
  · simp [Value.cells] at hcs
    obtain ⟨rfl, rfl, rfl⟩ := hcs
    exact ⟨[], rfl, ⟨Nat.le_refl _, Nat.zero_le _, .inl ⟨rfl, rfl⟩⟩, fun x hx => by cases hx⟩
  · simp [Value.cells] at hcs
    obtain ⟨rfl, rfl, rfl⟩ := hcs
    have hmc : m = cap := by rw [hmm]; rfl
    have each : ∀ i, i < len → w.cell? (ad.add (i * 2)) = some (.bool (boolN (V0 i))) ∧ w.cell? (ad.add (i * 2 + 1)) = some (.int .u64 ((natN (V1 i) : Nat) : Int)) ∧
        natN (V1 i) < 18446744073709551616 := by
      intro i hi
      obtain ⟨h1, h2, h3, h4⟩ := hV i (by omega)
      obtain ⟨n0, e0, _⟩ := DataW.trod_bool k0 h3
      obtain ⟨n1, e1, _, w1⟩ := DataW.trod_int k1 h4
      simp at e0 e1
      rw [e0] at h1 ⊢
      rw [e1] at h2 ⊢
      obtain ⟨y1, rfl, hy1⟩ := nat_of_wf w1
      exact ⟨h1, h2, hy1⟩
    refine ⟨(List.range len).map fun i => (boolN (V0 i), natN (V1 i)), by simp, leads_of _ hl hm ?_ ?_, ?_⟩
    · intro h0
      unfold turncells at h0
      cases len with
      | zero => rfl
      | succ k => simp [List.range_succ] at h0
    · intro i v hv
      have hlt := (List.getElem?_eq_some_iff.1 hv).1
      have hlen : ∀ fs : List (Bool × Nat), (turncells fs).length = fs.length * 2 := by
        intro fs
        unfold turncells
        induction fs with
        | nil => rfl
        | cons f r ih => rw [List.flatMap_cons, List.length_append, ih]; simp; omega
      rw [hlen] at hlt
      simp at hlt
      have hk : i / 2 < len := by omega
      have hx : ((List.range len).map fun i => (boolN (V0 i), natN (V1 i)))[i / 2]? = some (boolN (V0 (i / 2)), natN (V1 (i / 2))) := by simp [hk]
      obtain ⟨h1, h2, _⟩ := each (i / 2) hk
      rcases Nat.mod_two_eq_zero_or_one i with hm2 | hm2
      · have e := flat_at (fun f : Bool × Nat => [Value.bool f.1, .int .u64 ((f.2 : Nat) : Int)]) 2 (fun _ => rfl) _ (i / 2) 0 _ hx (by omega)
        have ei : i / 2 * 2 + 0 = i := by omega
        unfold turncells at hv
        rw [ei, hv] at e
        simp at e
        rw [e, show i = i / 2 * 2 by omega]
        rw [show i / 2 * 2 / 2 = i / 2 by omega]
        exact h1
      · have e := flat_at (fun f : Bool × Nat => [Value.bool f.1, .int .u64 ((f.2 : Nat) : Int)]) 2 (fun _ => rfl) _ (i / 2) 1 _ hx (by omega)
        have ei : i / 2 * 2 + 1 = i := by omega
        unfold turncells at hv
        rw [ei, hv] at e
        simp at e
        rw [e]
        have h2' := h2
        rw [ei] at h2'
        exact h2'
    · intro f hf
      rw [List.mem_map] at hf
      obtain ⟨i, hi, rfl⟩ := hf
      obtain ⟨_, _, h3⟩ := each i (List.mem_range.1 hi)
      exact h3
end
end Go.Proofs.Ytbfhppafffhlkaa
