/- Mounts: the law's own. -/
import Derived.Test.YtbfhppafffhlkaaMount10
namespace Go.Proofs.Ytbfhppafffhlkaa
open Go.RowKit
open Go.Proofs
set_option linter.unusedVariables false

theorem Leads.mcut {w : World} {a : Option Addr} {n cap m : Nat} {ms : List (Nat × Nat)} (h : Leads w a n cap (mcells ms)) (hl : ms.length = n) (hm : m ≤ n) : Leads w a m cap (mcells (ms.take m)) := by
  obtain ⟨h1, h2, ⟨h, h'⟩ | ⟨b, off, rfl, h3, h4⟩⟩ := h
  · exact ⟨by omega, by omega, .inl ⟨by omega, by rw [show ms = [] from List.eq_nil_of_length_eq_zero (by omega)]; simp [mcells]⟩⟩
  · refine ⟨by omega, by omega, .inr ⟨b, off, rfl, h3, fun i v hv => h4 i v ?_⟩⟩
    have e : mcells ms = mcells (ms.take m) ++ mcells (ms.drop m) := by
      unfold mcells
      rw [← List.flatMap_append, List.take_append_drop]
    obtain ⟨hi, _⟩ := List.getElem?_eq_some_iff.1 hv
    rw [e, List.getElem?_append_left hi]
    exact hv
theorem one_mounts (ms : List (Nat × Nat)) : ∀ u ∈ mcells ms, u.oneCell' = true := by
  intro v hv
  unfold mcells at hv
  rw [List.mem_flatMap] at hv
  obtain ⟨p, _, hp⟩ := hv
  simp at hp
  rcases hp with rfl | rfl <;> rfl
theorem own_result {W : World} {b : Nat} {v0 v1 : Value} {tmps : Array Value} (h : W.heap[b]? = some (.cells #[v0, v1] 25 (0, 0))) (hp : tmps[2]?.getD undef = .pointer (some ⟨b, 0, none⟩)) :
    (results Try.f8 tmps).run Try.prog W = .ok (.agg #[v0, v1]) W := by
  have h0 := cell_laid (i := 0) (v := v0) h rfl
  have h1 := cell_laid (i := 1) (v := v1) h rfl
  simp [results, Try.results8, go_sem, hp, h0, h1]

set_option maxRecDepth 100000 in
theorem own_any (ms : List (Nat × Nat)) (a : Option Addr) (n0 n cap nx : Nat) (w : World) (hl : ms.length = n0) (hmin : min (n0 : Int) 18 = (n : Int)) (h : Leads w a n0 cap (mcells ms)) :
    Calls Try.prog 8 #[.agg #[.slice a n0 cap, .int .u64 (nx : Nat)]] w (fun e w' => ∃ v, e = .returned (.agg #[v, .int .u64 (nx : Nat)]) ∧ w'.ownsRow w.heap.size 51 2 v n (mcells (ms.take n)) ∧ Below w.heap.size w w') := by
  obtain ⟨B, hB⟩ : ∃ B, w.heap.size = B := ⟨_, rfl⟩
  obtain ⟨w1, hw1, hb1, hs1, hl1⟩ := laid w #[.slice a n0 cap, .int .u64 ((nx : Nat) : Int)] 25
  obtain ⟨w2, hw2, hb2, hs2, hl2⟩ := laid w1 #[.slice none 0 0, .int .u64 0] 25
  have hb02 := step hb1 hb2
  rw [hB] at hs1 hl1
  rw [hs1] at hs2 hl2
  have L1 := keep_laid hl1 hb2
  have HL1 := hid L1
  have HL2 := hid hl2
  have hc0 : w2.cell? ⟨B, 0, none⟩ = some (.slice a n0 cap) := cell_laid L1 rfl
  have hc1 : w2.cell? ⟨B, 1, none⟩ = some (.int .u64 ((nx : Nat) : Int)) := cell_laid L1 rfl
  have hsz2 : B + 2 ≤ w2.heap.size := by omega
  have hwB : w.heap.size ≤ B := by omega
  have hw2s : w.heap.size ≤ w2.heap.size := by omega
  have hnn : n ≤ n0 := by omega
  have hn18 : n ≤ 18 := by omega
  have hnc := h.1
  have hlen := h.len.1
  have hlen2 := h.len.2
  obtain ⟨l, hlt⟩ : ∃ l, ms.take n = l := ⟨_, rfl⟩
  have hll : l.length = n := by rw [← hlt, List.length_take, hl]; omega
  have hcut := h.mcut hl hnn
  rw [hlt] at hcut ⊢
  have HC := hid (CloneM_any a n cap (mcells l) w2 (hcut.grow hb02) (by rw [mcells_len, hll]) (by omega) (one_mounts l))
  clear hl1 hl2 L1 hs2 h hl hcut hll hlt
  go_enter Try.func8, Try.ntmps8
  go_wp2_with fail
  refine HC.out.mono ?_
  rintro e w3 ⟨v, rfl, ho, hb3⟩
  obtain ⟨a', c', rfl, -⟩ := Leads.of_own ho
  have HO := hid ho
  have j1 := keep_laid HL1.out hb3
  have j2 := keep_laid HL2.out hb3
  have hf0 := free_laid (i := 0) j1
  have hd0 := cell_laid (i := 0) j1 rfl
  have hd1 := cell_laid (i := 1) j1 rfl
  have hf2 := free_laid (i := 0) j2
  have hf3 := free_laid (i := 1) j2
  have hd2 := cell_laid (i := 0) j2 rfl
  have hd3 := cell_laid (i := 1) j2 rfl
  have k2 := other_laid j2 (show B + 1 ≠ B by omega) (i := 0) (.slice a' n c')
  have HEND := hid (set_laid (i := 1) (set_laid (i := 0) k2 (.slice a' n c')) (.int .u64 ((nx : Nat) : Int)))
  have HBF := hid ((((step hb02 hb3).setCell (p := ⟨B, 0, none⟩) (by show w.heap.size ≤ B; omega) (.slice a' n c')).setCell (p := ⟨B + 1, 0, none⟩) (by show w.heap.size ≤ B + 1; omega) (.slice a' n c')).setCell (p := ⟨B + 1, 1, none⟩) (by show w.heap.size ≤ B + 1; omega) (.int .u64 ((nx : Nat) : Int)))
  have HO3 := hid (ownsRow_setCell_below (a := ⟨B + 1, 1, none⟩) (ownsRow_setCell_below (a := ⟨B + 1, 0, none⟩) (ownsRow_setCell_below (a := ⟨B, 0, none⟩) HO.out (by show B < _; omega) (.slice a' n c')) (by show B + 1 < _; omega) (.slice a' n c')) (by show B + 1 < _; omega) (.int .u64 ((nx : Nat) : Int)))
  clear ho j1 j2 k2
  go_wp2
  refine bodyPost_ret (own_result HEND.out rfl) rfl ⟨.slice a' n c', rfl, own_base HO3.out hw2s, HBF.out⟩
end Go.Proofs.Ytbfhppafffhlkaa
