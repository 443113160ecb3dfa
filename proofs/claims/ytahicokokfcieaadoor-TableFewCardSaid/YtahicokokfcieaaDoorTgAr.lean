/- Several texts in one. -/
import Derived.Test.YtahicokokfcieaaDoorLs13
import Derived.Test.YtahicokokfcieaaDoorTgAq
import Derived.Test.YtahicokokfcieaaDoorTgAn
import Derived.Test.YtahicokokfcieaaDoorTgAo
namespace Go.Proofs.YtahicokokfcieaaDoor
open Go.RowKit
open Go.Proofs
set_option linter.unusedVariables false
attribute [local go_sem] Oper.semAt_some

theorem Tch.drop {R S : Nat} {V W : World} (h : Tch (fun k => k = R ∨ k = S) V W) (hS : V.heap.size ≤ S) : Tch (fun k => k = R) V W :=
  ⟨h.os, h.tape, h.output, h.size, fun k hk hn => h.block k hk (by rintro (e | e) <;> omega)⟩
theorem stepM_load_ok {M : Mem} {q : Nat} (hok : okM M = true) (hW : ∀ x ∈ M.W, x < 18446744073709551616) : okM (stepM M false ((q : Nat) : Int) 0).1 = true ∧ (∀ x ∈ (stepM M false ((q : Nat) : Int) 0).1.W, x < 18446744073709551616) ∧ (stepM M false ((q : Nat) : Int) 0).2.1 < 18446744073709551616 := by
  unfold stepM
  split
  · refine ⟨hok, hW, ?_⟩
    dsimp only
    rw [List.getD_eq_getElem?_getD]
    cases h : M.W[((q : Nat) : Int).toNat]? with
    | none => simp
    | some x => exact hW x (List.mem_of_getElem? h)
  · exact ⟨by unfold okM at hok ⊢; exact hok, hW, by show (0 : Nat) < _; decide⟩
theorem cmpS_ok {s : Sk} {n want : Nat} {ph : Int} (hs : s.Ok) (h0 : 0 ≤ ph) (h5 : ph ≤ 5) : (cmpS s n want ph).Ok ∧ 0 ≤ (cmpS s n want ph).ph ∧ (cmpS s n want ph).ph ≤ 5 := by
  unfold cmpS
  split
  · exact ⟨⟨by dsimp only; decide, hs.hash, hs.key, Nat.mod_lt _ (by decide), hs.node, hs.val⟩, by dsimp only; decide, by dsimp only; decide⟩
  · split
    · exact ⟨⟨by dsimp only; decide, hs.hash, hs.key, hs.link, hs.node, hs.val⟩, by dsimp only; decide, by dsimp only; decide⟩
    · exact ⟨⟨by dsimp only; omega, hs.hash, hs.key, hs.link, hs.node, hs.val⟩, h0, h5⟩
theorem seekE_ok {M : Mem} {s : Sk} (hok : okM M = true) (hW : ∀ x ∈ M.W, x < 18446744073709551616) (hs : s.Ok) (h0 : 0 ≤ s.ph) (h5 : s.ph ≤ 5) : okM (seekE M s).1 = true ∧ (∀ x ∈ (seekE M s).1.W, x < 18446744073709551616) ∧ (seekE M s).2.1.Ok ∧ 0 ≤ (seekE M s).2.1.ph ∧ (seekE M s).2.1.ph ≤ 5 := by
  by_cases h4 : 4 ≤ s.ph
  · have e : seekE M s = (M, s, false) := by unfold seekE; rw [if_pos h4]
    rw [e]
    exact ⟨hok, hW, hs, h0, h5⟩
  · obtain ⟨k1, k2, k3⟩ := stepM_load_ok (q := needS s s.ph.toNat) hok hW
    unfold seekE
    rw [if_neg h4]
    refine ⟨k1, k2, ?_⟩
    dsimp only
    split
    · rcases (show s.ph.toNat = 0 ∨ s.ph.toNat = 1 ∨ s.ph.toNat = 2 ∨ s.ph.toNat = 3 by omega) with e | e | e | e
      · rw [e]
        rw [e] at k3
        generalize (stepM M false ((needS s 0 : Nat) : Int) 0).2.1 = x at k3 ⊢
        have e0 : thenS s x 0 = ⟨if x = 0 then 4 else 1, s.hash, s.key, s.link, x, s.val, s.found⟩ := rfl
        rw [e0]
        by_cases hx : x = 0
        · rw [if_pos hx]; exact ⟨⟨by show -9223372036854775808 ≤ (4 : Int) ∧ (4 : Int) ≤ _; decide, hs.hash, hs.key, hs.link, k3, hs.val⟩, by show (0 : Int) ≤ 4; decide, by show (4 : Int) ≤ 5; decide⟩
        · rw [if_neg hx]; exact ⟨⟨by show -9223372036854775808 ≤ (1 : Int) ∧ (1 : Int) ≤ _; decide, hs.hash, hs.key, hs.link, k3, hs.val⟩, by show (0 : Int) ≤ 1; decide, by show (1 : Int) ≤ 5; decide⟩
      · rw [e]; exact cmpS_ok hs (by decide) (by decide)
      · rw [e]; exact cmpS_ok hs (by decide) (by decide)
      · rw [e]
        rw [e] at k3
        generalize (stepM M false ((needS s 3 : Nat) : Int) 0).2.1 = x at k3 ⊢
        have e0 : thenS s x 3 = ⟨4, s.hash, s.key, s.link, s.node, x, true⟩ := rfl
        rw [e0]
        exact ⟨⟨by show -9223372036854775808 ≤ (4 : Int) ∧ (4 : Int) ≤ _; decide, hs.hash, hs.key, hs.link, hs.node, k3⟩, by show (0 : Int) ≤ 4; decide, by show (4 : Int) ≤ 5; decide⟩
    · exact ⟨⟨by dsimp only; decide, hs.hash, hs.key, hs.link, hs.node, hs.val⟩, by dsimp only; decide, by dsimp only; decide⟩
/-- Who seeks, on its way. -/
structure Fnd (B R S Z : Nat) (V : World) (M : Mem) (s : Sk) (n g : Nat) (res : Mem × Sk × Nat) (W : World) : Prop where
  run : RunC B R M n W
  bs : W.heap[S]? = some (.cells (sk7 s) 44 (0, 0))
  bz : W.heap[Z]? = some (.cells #[.int .i64 0, .int .u64 0, .int .u64 0, .int .u64 0, .int .u64 0, .int .u64 0, .bool false] 44 (0, 0))
  tch : Tch (fun k => k = R ∨ k = S) V W
  ok : okM M = true
  wok : ∀ x ∈ M.W, x < 18446744073709551616
  sok : s.Ok
  p0 : 0 ≤ s.ph
  p5 : s.ph ≤ 5
  res : seekRun g M s n = res
  cnt : g + n = 4200
/-- What Find gives. -/
def findP (M : Mem) (head hash key : Nat) : Sk × Nat × Nat := if (nodesP M head).2 ≠ 0 then (zeroSk, 0, (nodesP M head).2) else ((findS hash key head (nodesP M head).1).1, (findS hash key head (nodesP M head).1).2, 0)
theorem nodesP_ok {M : Mem} {head : Nat} (h : (nodesP M head).2 = 0) : okM M = true ∧ nodesR M head = some (nodesP M head).1 := by
  unfold nodesP at h ⊢
  cases hok : okM M with
  | false => rw [hok, if_pos rfl] at h; cases h
  | true =>
    rw [hok, if_neg (by decide)] at h
    rw [if_neg (by decide)]
    cases hn : nodesR M head with
    | none => rw [hn] at h; cases h
    | some xs => exact ⟨rfl, rfl⟩
/-- Worlds in which two variables lie so. -/
structure RFd (R S : Nat) (cs cs' : Array Value) where
  w : World
  br : w.heap[R]? = some (.cells cs 167 (0, 0))
  bs : w.heap[S]? = some (.cells cs' 44 (0, 0))
end Go.Proofs.YtahicokokfcieaaDoor
namespace Go.Proofs.YtahicokokfcieaaDoor
open Go.RowKit
open Go.Proofs
set_option linter.unusedVariables false
attribute [local go_sem] Oper.semAt_some

def ncells (l : List Nat) : List Value := l.map fun x => .int .i64 ((x : Nat) : Int)
theorem ncell_at {l : List Nat} {k x : Nat} (h : l[k]? = some x) : (ncells l)[k]? = some (.int .i64 ((x : Nat) : Int)) := by unfold ncells; rw [List.getElem?_map, h]; rfl
theorem ncells_len (l : List Nat) : (ncells l).length = l.length := by simp [ncells]
theorem ncells_app (l r : List Nat) : ncells (l ++ r) = ncells l ++ ncells r := by simp [ncells]

end Go.Proofs.YtahicokokfcieaaDoor
