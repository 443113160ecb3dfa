/- Lists: one who changes a list, step by step; what was cut still leads on. Plain laws. -/
import Derived.Test.YtdkkjcflcegeoaaLsPlain6
namespace Go.Proofs.Ytdkkjcflcegeoaa
open Go.RowKit
open Go.Proofs
set_option linter.unusedVariables false

theorem Lst.mono {head : Nat} {xs ys : List Nd} {Q Q' : Mem → Prop} {n : Nat} {M : Mem} {s : Ede} (h : Lst head xs ys Q n M s) (hq : ∀ M, Q M → Q' M) : Lst head xs ys Q' n M s := by
  induction h with
  | last ok wok sok ph was ph' now q => exact .last ok wok sok ph was ph' now (hq _ q)
  | more ok wok sok ph0 ph was ph' next ih => exact .more ok wok sok ph0 ph was ph' ih
/-- What holds of memory behind the last step. -/
def Qend (fd : Bool) (nd nxt : Nat) (M : Mem) : Prop := okM M = true ∧ (∀ x ∈ M.W, x < 18446744073709551616) ∧ (fd = true → liveN M (nd + 2) = true ∧ M.W.getD (nd + 2) 0 = nxt)
theorem last_put {M : Mem} {head : Nat} {xs : List Nd} {t : Nd} (nxt : Nat) (hok : okM M = true) (hW : ∀ x ∈ M.W, x < 18446744073709551616) (hh : head < 18446744073709551616) (ht : t.Ok) (hx : nodesR M head = some xs) (hf : (findS t.2.2.2 t.2.1 head xs).1.found = false) (hc : (insP M head t).2.2 = 0) :
    ∃ ys, Lst head xs ys (Qend false (findS t.2.2.2 t.2.1 head xs).1.node nxt) 5 M (putK (findS t.2.2.2 t.2.1 head xs).1.link t (findS t.2.2.2 t.2.1 head xs).1.node) ∧ ys ≠ xs := by
  have hft : fitsP M head xs t = true := by
    rw [ins_same hok hx] at hc
    unfold rinsP at hc
    cases h : fitsP M head xs t with
    | true => rfl
    | false => rw [h, if_pos rfl] at hc; cases hc
  obtain ⟨ys, h1, h2⟩ := put_lst hok hW hh ht hx hft hf
  exact ⟨ys, h1.mono fun M' q => ⟨q.1, q.2, fun e => by cases e⟩, h2⟩
theorem last_cut {M : Mem} {head hash key : Nat} {xs : List Nd} (hok : okM M = true) (hW : ∀ x ∈ M.W, x < 18446744073709551616) (hh : head < 18446744073709551616) (hha : hash < 18446744073709551616) (hke : key < 18446744073709551616) (hx : nodesR M head = some xs) (hf : (findS hash key head xs).1.found = true) :
    ∃ ys l1 t l2 nxt, Lst head xs ys (Qend true (findS hash key head xs).1.node nxt) 2 M (cutK (findS hash key head xs).1.link (findS hash key head xs).1.node) ∧ ys ≠ xs ∧ xs = l1 ++ t :: l2 ∧ (findS hash key head xs).1.node = t.1 ∧ (∀ x ∈ l1, x.1 ≠ t.1) ∧ t.1 < 4096 ∧ (nxt = match xs[l1.length + 1]? with | none => 0 | some x => x.1) := by
  obtain ⟨l1, t, l2, e1, e2, e3, e4, hL⟩ := cut_lst hok hW hh hha hke hx hf
  refine ⟨l1 ++ l2, l1, t, l2, fstL l2, ?_, fun e => by have := congrArg List.length e; rw [e1] at this; simp at this, e1, e2, e3, e4, (find_at e1 e3).2.2.1⟩
  exact hL.mono fun M' q => ⟨q.1, q.2.1, fun _ => by rw [e2]; exact q.2.2.2⟩
theorem Lst.five {head : Nat} {xs ys : List Nd} {Q : Mem → Prop} {n : Nat} {M : Mem} {s : Ede} (h : Lst head xs ys Q n M s) (h5 : s.ph = 5) : (editE M s).2.1.ph = 6 ∧ nodesR (editE M s).1 head = some ys ∧ Q (editE M s).1 := by
  cases h with
  | last ok wok sok ph was ph' now q => exact ⟨ph', now, q⟩
  | more ok wok sok ph0 ph was ph' next => omega
theorem Lst.less {head : Nat} {xs ys : List Nd} {Q : Mem → Prop} {n : Nat} {M : Mem} {s : Ede} (h : Lst head xs ys Q n M s) (h5 : s.ph ≠ 5) : ∃ m, n = m + 1 ∧ (editE M s).2.1.ph ≤ 5 ∧ Lst head xs ys Q m (editE M s).1 (editE M s).2.1 := by
  cases h with
  | last ok wok sok ph was ph' now q => exact absurd ph h5
  | more ok wok sok ph0 ph was ph' next => exact ⟨_, rfl, ph', next⟩
theorem sedit_in {M : Mem} {s : Ede} (hok : okM M = true) (h0 : 0 ≤ s.ph) (h7 : s.ph ≤ 7) : seditP M s = ((editE M s).1, (editE M s).2.1, 0) := by
  unfold seditP
  rw [if_neg (by rw [hok]; decide), if_neg (by omega)]
end Go.Proofs.Ytdkkjcflcegeoaa
