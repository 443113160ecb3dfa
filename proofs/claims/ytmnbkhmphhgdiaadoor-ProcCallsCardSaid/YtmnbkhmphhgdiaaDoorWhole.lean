/- A variable of many cells is stored, or loaded, at once. No program in sight. -/
import Derived.Deep.WholeRow
import Derived.BigQuiet
import Derived.Test.YtmnbkhmphhgdiaaDoorOwn
import Derived.Test.YtmnbkhmphhgdiaaDoorRange
namespace Go.Proofs.YtmnbkhmphhgdiaaDoor
open Go.RowKit
set_option linter.unusedVariables false
theorem wp_storeW {P : Program} {w : World} {ops : Array Oper} {rest : List Oper} {o : Oper} {a : Act} {Q : Exit → Act → World → Prop} (hgd : o.guard = none) (T : TypeId) (p x : Operand) (ho : o.op = .store T p x)
    (Y : Nat) (cur vs : Array Value) (hp : a.eval p = .pointer (some ⟨Y, 0, none⟩)) (hx : a.eval x = .agg vs) (e : TypeId) (hY : w.heap[Y]? = some (.cells cur e (0, 0))) (hi : (P.info? T).map (·.size) = some vs.size) (hs : cur.size = vs.size) (h1 : vs.all (·.oneCell') = true)
    (h : ∀ w', w'.heap[Y]? = some (.cells vs e (0, 0)) → (∀ (k : Nat) (o : Obj), k ≠ Y → w.heap[k]? = some o → w'.heap[k]? = some o) → (∀ (B : Nat) (w0 : World), B ≤ Y → Below B w0 w → Below B w0 w') → w.grownBy w' (some Y) → wpList P ops Q rest (a.put o.dst undef) w') : wpList P ops Q (o :: rest) a w := by
  refine wpList_plain hgd fun K hK => ?_
  have hr := run_storeVar_row w Y e T cur vs hY hi hs h1
  unfold Oper.wp
  simp only [execOp, ho, Instr.storeAt, Instr.sureAddr, hp, hx, Sem.run_bind, Sem.run_pure, Result.andThen_ok, hr]
  exact hK _ _ (h _ (setRow_heap w Y _ _ e _ hY) (fun k o hk ho => (setRow_other w Y k _ hk).trans ho) (fun B w0 hB hb => below_setRow hb hB _) ⟨rfl, rfl, rfl, by simp [World.setRow], fun k _ hk => setRow_other w Y k _ (fun e => hk (by rw [e]))⟩)
theorem wp_loadW {P : Program} {w : World} {ops : Array Oper} {rest : List Oper} {o : Oper} {a : Act} {Q : Exit → Act → World → Prop} (hgd : o.guard = none) (T : TypeId) (p : Operand) (ho : o.op = .load T p)
    (Y : Nat) (vs : Array Value) (hp : a.eval p = .pointer (some ⟨Y, 0, none⟩)) (e : TypeId) (hY : w.heap[Y]? = some (.cells vs e (0, 0))) (d : TypeDesc) (hu : P.underlying T = some d) (hd : (match d with | .struct _ | .array _ _ => true | _ => false) = true) (hi : (P.info? T).map (·.size) = some vs.size)
    (h : ∀ v, v = .agg vs → wpList P ops Q rest (a.put o.dst v) w) : wpList P ops Q (o :: rest) a w := by
  refine wpList_plain hgd fun K hK => ?_
  have hr := run_loadVar_row w Y e T vs (0, 0) d hY hu hd hi
  unfold Oper.wp
  simp only [execOp, ho, Instr.loadAt, Instr.sureAddr, hp, Sem.run_bind, Sem.run_pure, Result.andThen_ok, hr]
  exact hK _ _ (h _ rfl)
/-- .. where a guard asks for it. -/
theorem wp_loadG {P : Program} {w : World} {ops : Array Oper} {rest : List Oper} {o : Oper} {a : Act} {Q : Exit → Act → World → Prop} (hw : Region.wanted o (yielded ops a.tmps) = true) (T : TypeId) (p : Operand) (ho : o.op = .load T p)
    (Y : Nat) (vs : Array Value) (hp : a.eval p = .pointer (some ⟨Y, 0, none⟩)) (e : TypeId) (hY : w.heap[Y]? = some (.cells vs e (0, 0))) (d : TypeDesc) (hu : P.underlying T = some d) (hd : (match d with | .struct _ | .array _ _ => true | _ => false) = true) (hi : (P.info? T).map (·.size) = some vs.size)
    (h : ∀ v, v = .agg vs → wpList P ops Q rest (a.put o.dst v) w) : wpList P ops Q (o :: rest) a w := by
  refine wpList_step fun K hK => ?_
  rw [if_pos hw]
  have hr := run_loadVar_row w Y e T vs (0, 0) d hY hu hd hi
  unfold Oper.wp
  simp only [execOp, ho, Instr.loadAt, Instr.sureAddr, hp, Sem.run_bind, Sem.run_pure, Result.andThen_ok, hr]
  exact hK _ _ (h _ rfl)
/-- .. in a region that draws its order: in every world of a class. -/
theorem wpQuiet_loadW {P : Program} {ops : Array Oper} {C : World → Prop} {Q : Act → Prop} {rest : List Oper} {o : Oper} {a : Act} (hgd : o.guard = none) (T : TypeId) (p : Operand) (ho : o.op = .load T p)
    (Y : Nat) (vs : Array Value) (hp : a.eval p = .pointer (some ⟨Y, 0, none⟩)) (e : TypeId) (hY : ∀ w, C w → w.heap[Y]? = some (.cells vs e (0, 0))) (d : TypeDesc) (hu : P.underlying T = some d) (hd : (match d with | .struct _ | .array _ _ => true | _ => false) = true) (hi : (P.info? T).map (·.size) = some vs.size)
    (h : ∀ v, v = .agg vs → wpQuiet P ops C Q rest (a.put o.dst v)) : wpQuiet P ops C Q (o :: rest) a := by
  refine BigFrame.wpQuiet_want (by simp [Region.wanted, hgd]) fun K hK => ⟨.agg vs, fun w hw => ?_, hK _ (h _ rfl)⟩
  have hr := run_loadVar_row w Y e T vs (0, 0) d (hY w hw) hu hd hi
  unfold Oper.quietAt
  simp only [execOp, ho, Instr.loadAt, Instr.sureAddr, hp, Sem.run_bind, Sem.run_pure, Result.andThen_ok, hr]
  exact ⟨rfl, rfl⟩
end Go.Proofs.YtmnbkhmphhgdiaaDoor
