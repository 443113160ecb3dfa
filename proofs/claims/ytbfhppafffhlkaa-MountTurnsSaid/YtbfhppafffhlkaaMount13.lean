/- Mounts: the law's spoil. -/
import Derived.Test.YtbfhppafffhlkaaMount12
namespace Go.Proofs.Ytbfhppafffhlkaa
open Go.RowKit
open Go.Proofs
set_option linter.unusedVariables false

theorem mwords_int (ms : List (Nat × Nat)) : ∀ v ∈ mcells ms, ∃ z : Int, v = .int .u64 z := by
  intro v hv
  unfold mcells at hv
  rw [List.mem_flatMap] at hv
  obtain ⟨p, _, hp⟩ := hv
  simp at hp
  rcases hp with rfl | rfl <;> exact ⟨_, rfl⟩
theorem ints_set {cs : List Value} (j : Nat) (z : Int) (h : ∀ v ∈ cs, ∃ z : Int, v = .int .u64 z) : ∀ v ∈ cs.set j (.int .u64 z), ∃ z : Int, v = .int .u64 z := by
  intro v hv
  rcases List.mem_or_eq_of_mem_set hv with h1 | rfl
  · exact h v h1
  · exact ⟨z, rfl⟩

set_option maxRecDepth 100000 in
set_option maxHeartbeats 1000000 in
theorem spoil_any (a : Option Addr) (n cap base : Nat) (cs0 : List Value) (nx : Int) (w : World) (hn : n ≤ 1000) (hbw : base ≤ w.heap.size) (hown : w.ownsRow base 51 2 (.slice a n cap) n cs0) (hcs0 : ∀ v ∈ cs0, ∃ z : Int, v = .int .u64 z) :
    Calls Try.prog 16 #[.agg #[.slice a n cap, .int .u64 nx]] w (fun e w' => (∃ v, e = .returned v) ∧ Below base w w') := by
  obtain ⟨B, hB⟩ : ∃ B, w.heap.size = B := ⟨_, rfl⟩
  obtain ⟨w1, hw1, hb1, hs1, hl1⟩ := laid w #[.slice a n cap, .int .u64 nx] 25
  rw [hB] at hl1
  have HL1 := hid hl1
  have hc0 : w1.cell? ⟨B, 0, none⟩ = some (.slice a n cap) := cell_laid hl1 rfl
  have HO := hid (own_grow hown hb1)
  have hbB : base ≤ B := by omega
  have HC0 := hid hcs0
  have hb1' : Below base w w1 := hb1.mono hbw
  have hga : ∀ g0 c, a = some ⟨g0, 0, none⟩ → w.heap[g0]? = some c → g0 < B := fun g0 c _ h => by have := (Array.getElem?_eq_some_iff.1 h).1; omega
  have hgB : Hid (∀ g0, a = some ⟨g0, 0, none⟩ → 0 < n → g0 < B) := hid (by
    intro g0 e hpos
    rcases hown.2 with ⟨_, h⟩ | ⟨g, c, cur, e2, hg, hh, -⟩
    · omega
    · simp only [Value.slice.injEq] at e2
      have := e2.1
      rw [e] at this
      simp at this
      subst this
      exact hga _ _ e hh)
  clear hown hl1 hs1 hcs0 hga
  go_enter Try.func16, Try.ntmps16
  go_wp2
  go_loopg [2, 6] n (fun g _ i wr => ∃ (j : Nat) (cs : List Value), g + j = n ∧ i = .int .i64 (j : Nat) ∧ wr.ownsRow base 51 2 (.slice a n cap) n cs ∧ Hid (∀ v ∈ cs, ∃ z : Int, v = .int .u64 z) ∧ Hid (wr.heap[B]? = some (.cells #[.slice a n cap, .int .u64 nx] 25 (0, 0))) ∧ Below base w wr)
  case atStart => exact ⟨0, _, rfl, rfl, HO.out, HC0, HL1, hb1'⟩
  case round =>
    obtain ⟨j, cs, hj, rfl, hown, hcs, hm, hb⟩ := hrel
    have HJ := hid hj
    clear hj
    by_cases hjm : j < n
    · have hcl : cs.length = n * 2 := hown.1
      rcases hown.2 with ⟨h, _⟩ | ⟨g0, c, cur, e, hg, hh, -⟩
      · cases h; omega
      cases e
      have hgB2 := hgB.out g0 rfl (by omega)
      have hcj := hown.cellAt (j * 2 + 1) (by omega)
      rw [List.getElem?_eq_getElem (by omega)] at hcj
      have hfr := hown.frozenAt (j * 2 + 1)
      have HST := hid fun z : Int => (hown.stored (j * 2 + 1) (.int .u64 z)).1
      obtain ⟨z, hz⟩ := hcs.out _ (List.getElem_mem (by omega : j * 2 + 1 < cs.length))
      rw [hz] at hcj
      have HCS := hid fun z : Int => ints_set (j * 2 + 1) z hcs.out
      have hcm := cell_laid (i := 0) hm.out rfl
      have hmz := hid fun z : Int => other_laid hm.out (show B ≠ g0 by omega) (i := j * 2 + 1) (.int .u64 z)
      clear hcl hown hh hz hcs
      go_wp2
      go_roundg (gk - 1)
      case measure => have := HJ.out; omega
      case rel => exact ⟨j + 1, _, by have := HJ.out; omega, by go_num, HST.out _, hid (HCS.out _), hid (hmz.out _), hb.setCell (p := ⟨g0, j * 2 + 1, none⟩) (by show base ≤ g0; omega) _⟩
    · clear HJ hown hcs
      go_wp2
      go_end0
      exact ⟨⟨_, rfl⟩, hb⟩
end Go.Proofs.Ytbfhppafffhlkaa
