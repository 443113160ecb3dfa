/- Scripts in memory of their own: rows that stay where variables of scripts are written. -/
import Derived.Test.YtpehnahmdfoobaaDoorScript21
namespace Go.Proofs.YtpehnahmdfoobaaDoor
open Go.RowKit
open Go.Proofs
set_option linter.unusedVariables false

/-- A script's rows, of its own. -/
structure OwnT (base : Nat) (ls : List (List (List Nat))) (ps : List Int) (lv pv : Value) (vs : List Value) (W : World) : Prop where
  lrow : W.ownsRow base 46 1 lv ls.length vs
  row : ∀ (i : Nat) (v : Value) (cs : List (List Nat)), vs[i]? = some v → ls[i]? = some cs → W.ownsRow base 53 5 v cs.length (wcells cs.flatten)
  pick : W.ownsRow base 3 1 pv ps.length (icells ps)
theorem OwnS.t {Y base : Nat} {C P : Int} {ls : List (List (List Nat))} {ps : List Int} {lv pv : Value} {vs : List Value} {w W : World} (h : OwnS Y base C P ls ps lv pv vs w W) : OwnT base ls ps lv pv vs W := ⟨h.lrow, h.row, h.pick⟩
theorem OwnT.grow {base : Nat} {ls : List (List (List Nat))} {ps : List Int} {lv pv : Value} {vs : List Value} {W W' : World} (h : OwnT base ls ps lv pv vs W) (hb : Below W.heap.size W W') : OwnT base ls ps lv pv vs W' :=
  ⟨own_grow h.lrow hb, fun i v cs hi hc => own_grow (h.row i v cs hi hc) hb, own_grow h.pick hb⟩
theorem OwnT.set {base Z i : Nat} {ls : List (List (List Nat))} {ps : List Int} {lv pv : Value} {vs : List Value} {W : World} {cur : Array Value} (h : OwnT base ls ps lv pv vs W) (hZ : W.heap[Z]? = some (.cells cur 35 (0, 0))) (v : Value) : OwnT base ls ps lv pv vs (W.setCell ⟨Z, i, none⟩ v) := by
  have keep : ∀ (e : TypeId) (size n : Nat) (u : Value) (xs : List Value), e ≠ 35 → W.ownsRow base e size u n xs → (W.setCell ⟨Z, i, none⟩ v).ownsRow base e size u n xs := fun e size n u xs he hr => own_keep hr (fun k o hk hh => by
    obtain ⟨cur', hc⟩ := own_type hr k hk
    exact other_laid hh (type_ne hc hZ he) _)
  exact ⟨keep _ _ _ _ _ (by decide) h.lrow, fun i v cs hi hc => keep _ _ _ _ _ (by decide) (h.row i v cs hi hc), keep _ _ _ _ _ (by decide) h.pick⟩
theorem OwnT.scrL {base : Nat} {C P : Int} {ls : List (List (List Nat))} {ps : List Int} {la pa : Option Addr} {nl lc np pc : Nat} {vs : List Value} {W : World} (h : OwnT base ls ps (.slice la nl lc) (.slice pa np pc) vs W) : ScrL W la lc vs pa pc ⟨C, P, ls, ps⟩ := by
  obtain ⟨a1, c1, e1, h1⟩ := Leads.of_own h.lrow
  obtain ⟨a2, c2, e2, h2⟩ := Leads.of_own h.pick
  simp only [Value.slice.injEq] at e1 e2
  obtain ⟨rfl, -, rfl⟩ := e1
  obtain ⟨rfl, -, rfl⟩ := e2
  exact ⟨h1, by have := h.lrow.1; show vs.length = ls.length; omega, fun i v cs hi hc => calls_of_own (h.row i v cs hi hc), h2⟩
/-- A script is put into a variable that holds none. -/
theorem put_zero {V : World} {Y : Nat} (h : V.heap[Y]? = some (.cells #[.int .i64 0, .int .i64 0, .slice none 0 0, .slice none 0 0] 35 (0, 0))) (v0 v1 v2 v3 : Value) :
    ∃ V', V' = (((V.setCell ⟨Y, 0, none⟩ v0).setCell ⟨Y, 1, none⟩ v1).setCell ⟨Y, 2, none⟩ v2).setCell ⟨Y, 3, none⟩ v3 ∧ V'.heap[Y]? = some (.cells #[v0, v1, v2, v3] 35 (0, 0)) ∧
      (∀ (k : Nat) (o : Obj), k ≠ Y → V.heap[k]? = some o → V'.heap[k]? = some o) ∧ (∀ (B : Nat) (w : World), B ≤ Y → Below B w V → Below B w V') ∧
      ∀ (base : Nat) (ls : List (List (List Nat))) (ps : List Int) (lv pv : Value) (vs : List Value), OwnT base ls ps lv pv vs V → OwnT base ls ps lv pv vs V' := by
  have h0 := set_laid (i := 0) h v0
  have h1 := set_laid (i := 1) h0 v1
  have h2 := set_laid (i := 2) h1 v2
  refine ⟨_, rfl, set_laid (i := 3) h2 v3, fun k o hk ho => other_laid (other_laid (other_laid (other_laid ho hk _) hk _) hk _) hk _, fun B w hB hb => (((hb.setCell hB _).setCell hB _).setCell hB _).setCell hB _, fun base ls ps lv pv vs ht => (((ht.set h v0).set h0 v1).set h1 v2).set h2 v3⟩
/-- own gives rows of its own. -/
def GivesT (S : Scr) (w : World) (e : Ending) (W : World) : Prop := ∃ base la lc pa pc vs, e = .returned (.agg #[.int .i64 S.C, .int .i64 S.P, .slice la S.ls.length lc, .slice pa S.ps.length pc]) ∧ OwnT base S.ls S.ps (.slice la S.ls.length lc) (.slice pa S.ps.length pc) vs W ∧ Below w.heap.size w W
theorem own_T (S : Scr) (la pa : Option Addr) (lc pc : Nat) (vs : List Value) (w : World) (hS : S.Ok) (h : ScrL w la lc vs pa pc S) :
    Calls Tryd.prog 17 #[scrV la lc pa pc S] w (GivesT (ownS S) w) := by
  refine (own_any S la pa lc pc vs w hS h).mono ?_
  rintro e W ⟨Y, base, lv, pv, vs', rfl, hO⟩
  obtain ⟨la', lc', pa', pc', rfl, rfl, -⟩ := hO.scrL
  exact ⟨base, la', lc', pa', pc', vs', rfl, hO.t, hO.below⟩
end Go.Proofs.YtpehnahmdfoobaaDoor
