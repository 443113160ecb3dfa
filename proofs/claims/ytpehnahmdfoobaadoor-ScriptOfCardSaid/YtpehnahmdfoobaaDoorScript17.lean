/- Scripts: Of. -/
import Derived.Test.YtpehnahmdfoobaaDoorScript16
namespace Go.Proofs.YtpehnahmdfoobaaDoor
open Go.RowKit Go.Shelf
open Go.Proofs
set_option linter.unusedVariables false
attribute [local go_sem] Oper.semAt_some

/-- The words of calls, and of runs. -/
def listW : Nat → List (List (List Nat)) → List Nat
  | _, [] => []
  | cpu, l :: r => (l.flatMap fun q => wdC cpu :: q) ++ listW (cpu + 1) r
def runW (l : List (Int × Nat)) : List Nat := l.map fun p => wdR p.1.toNat (p.2 - 1)
def ofW (S : Scr) : List Nat := wdA (S.C - 1).toNat (S.P - 1).toNat :: listW 0 S.ls ++ runW (runsL S.ps)
theorem listW_snoc : ∀ (ls : List (List (List Nat))) (cpu : Nat) (l : List (List Nat)), listW cpu (ls ++ [l]) = listW cpu ls ++ l.flatMap fun q => wdC (cpu + ls.length) :: q
  | [], cpu, l => by simp [listW]
  | x :: r, cpu, l => by
    rw [List.cons_append, listW, listW, listW_snoc r (cpu + 1) l, List.append_assoc, List.length_cons, show cpu + 1 + r.length = cpu + (r.length + 1) by omega]
theorem flatW_len (cpu : Nat) (l : List (List Nat)) (h5 : ∀ q ∈ l, q.length = 5) : (l.flatMap fun q => wdC cpu :: q).length = l.length * 6 := by
  induction l with
  | nil => rfl
  | cons q r ih =>
    rw [List.flatMap_cons, List.length_append, ih (fun q hq => h5 q (List.mem_cons_of_mem _ hq)), List.length_cons, List.length_cons, h5 q (List.mem_cons_self ..)]
    omega
theorem listW_len : ∀ (ls : List (List (List Nat))) (cpu : Nat), (∀ cs ∈ ls, ∀ q ∈ cs, q.length = 5) → (listW cpu ls).length = sumS ls * 6
  | [], cpu, _ => rfl
  | x :: r, cpu, h => by
    rw [listW, List.length_append, flatW_len cpu x (h x (List.mem_cons_self ..)), listW_len r (cpu + 1) (fun cs hc => h cs (List.mem_cons_of_mem _ hc))]
    unfold sumS
    rw [List.map_cons, List.sum_cons]
    omega
theorem okS_spec {S : Scr} (h : okS S = true) : ∃ C P : Nat, S.C = (C : Int) ∧ S.P = (P : Int) ∧ 1 ≤ C ∧ C ≤ 8 ∧ 1 ≤ P ∧ P ≤ 64 ∧ S.ls.length = C ∧ S.ps.length ≤ 4096 ∧ sumS S.ls ≤ 64 ∧ ∀ z ∈ S.ps, 0 ≤ z ∧ z < (C : Int) := by
  unfold okS ok1S at h
  simp only [Bool.and_eq_true, decide_eq_true_eq, Bool.not_eq_true', List.any_eq_false, badB, Bool.or_eq_true, not_or] at h
  obtain ⟨⟨h1, h2, h3, h4, h5, h6⟩, h7, h8⟩ := h
  refine ⟨S.C.toNat, S.P.toNat, by omega, by omega, by omega, by omega, by omega, by omega, by omega, by omega, h7, fun z hz => ?_⟩
  have := h8 z hz
  omega

structure OfK (D E base : Nat) (out : List Nat) (v : Value) (w W : World) : Prop where
  o : OutJ D base out v w W
  e : W.heap[E]? = some (.cells #[.func (.func 34) #[] #[.pointer (some ⟨D, 0, none⟩)]] 73 (0, 0))

set_option maxRecDepth 100000 in
set_option maxHeartbeats 1000000 in
theorem Of_no (S : Scr) (la pa : Option Addr) (lc pc : Nat) (vs : List Value) (w : World) (h : ScrL w la lc vs pa pc S) (hn : S.ls.length ≤ 1000) (hf : ∀ cs ∈ S.ls, cs.length ≤ 1000) (hno : okS S = false) :
    Calls Tryd.prog 18 #[scrV la lc pa pc S] w (Ret (.tuple #[.slice none 0 0, .int .i64 130]) w) := by
  obtain ⟨w1, hw1, hb1, hs1, hl1⟩ := laid w #[.int .i64 S.C, .int .i64 S.P, .slice la S.ls.length lc, .slice pa S.ps.length pc] 35
  obtain ⟨X, hX⟩ : ∃ X, w.heap.size = X := ⟨_, rfl⟩
  rw [hX] at hl1
  have a0 := cell_laid (i := 0) hl1 rfl
  have a1 := cell_laid (i := 1) hl1 rfl
  have a2 := cell_laid (i := 2) hl1 rfl
  have a3 := cell_laid (i := 3) hl1 rfl
  have HC := hid (fun W h => Check_any S la pa lc pc vs W h hn hf)
  have HS := hid (h.grow hb1)
  have HNO := hid hno
  have HB1 := hid hb1
  clear h hf hno hl1 hs1
  unfold scrV at *
  refine calls_of_wp_marks Tryd.func18 rfl ?_
  simp only [Tryd.ntmps18, List.size_toArray, List.length_cons, List.length_nil, Nat.reduceAdd, Nat.reduceSub, Array.replicate_succ, Array.replicate_zero, List.push_toArray, List.append_toArray, List.nil_append, List.cons_append]
  go_wp2_with fail
  refine (HC.out _ HS.out).mono ?_
  rintro e w2 ⟨rfl, hb2⟩
  rw [HNO.out, if_neg (by decide)]
  go_wp2
  exact leaves_none (results_tmp2 rfl _ _ _) ⟨rfl, step HB1.out hb2⟩
end Go.Proofs.YtpehnahmdfoobaaDoor
