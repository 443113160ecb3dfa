/- Lists linked both ways: takes. -/
import Derived.Test.YtoihjmdpbbcbjaaDbl2
namespace Go.Proofs.Ytoihjmdpbbcbjaa
open Go.RowKit
open Go.Proofs
set_option linter.unusedVariables false

set_option maxRecDepth 100000 in
set_option maxHeartbeats 2000000 in
theorem takes_any {Lb mb : Nat} {wa : Option Addr} {wc : Nat} {la : Option Addr} {lc n head : Nat} {M : Mem} {met : List Nat} (p many : Nat) (V : World) (h : Lst Lb mb wa wc la lc n head M met V) (hn : M.L.length = n) (hn4 : n ≤ 4096) (hp : p < 18446744073709551616) (hm : many ≤ 1000) (hmm : met.length + many ≤ 10000) :
    Calls Try.prog 64 #[.pointer (some ⟨Lb, 0, none⟩), .int .u64 ((p : Nat) : Int), .int .i64 ((many : Nat) : Int)] V (fun e V' => V.grownBy V' (some mb) ∧
      ((∃ met', takeP M p (List.range many) met = some met' ∧ e = .returned (.tuple #[]) ∧ Lst Lb mb wa wc la lc n head M met' V') ∨ (takeP M p (List.range many) met = none ∧ e = .panicked brk))) := by
  obtain ⟨V1, hV1, hb1, hs1, hl1⟩ := laid V #[.pointer (some ⟨Lb, 0, none⟩)] 102
  obtain ⟨X, hX⟩ : ∃ X, V.heap.size = X := ⟨_, rfl⟩
  rw [hX] at hl1
  have HL1 := hid (h.grow hb1)
  have HG1 := hid (grownBy_below hb1 (some mb))
  have HX1 := hid hl1
  have HN := hid hn
  obtain ⟨RES, hRES⟩ : ∃ R, takeP M p (List.range many) met = R := ⟨_, rfl⟩
  rw [hRES]
  rw [List.range_eq_range'] at hRES
  have HRES := hid hRES
  have hmf : ∀ (fn : Fn) (first cap : Array Value) (w : World), (Instr.makeFunc fn first cap).run Try.prog w = .ok (.func fn first cap) w := fun _ _ _ _ => rfl
  clear h hn hb1 hs1 hl1 hRES
  go_enter Try.func64, Try.ntmps64
  go_wp2
  go_loopg [10] many (fun g i wr => ∃ (k : Nat) (met2 : List Nat), g + k = many ∧ i = .int .i64 ((k : Nat) : Int) ∧ Hid (Lst Lb mb wa wc la lc n head M met2 wr) ∧ Hid (V.grownBy wr (some mb)) ∧ Hid (wr.heap[X]? = some (.cells #[.pointer (some ⟨Lb, 0, none⟩)] 102 (0, 0))) ∧ Hid (takeP M p (List.range' k g) met2 = RES) ∧ Hid (met2.length = met.length + k))
  case atStart => exact ⟨0, met, rfl, rfl, HL1, HG1, HX1, HRES, hid rfl⟩
  case round =>
    obtain ⟨k, met2, hk, rfl, hL, hG, hXb, hR, hlen⟩ := hrel
    have HK := hid hk
    clear hk
    by_cases hlt : k < many
    · obtain ⟨g1, hg1⟩ : ∃ g1, gk = g1 + 1 := ⟨gk - 1, by have := HK.out; omega⟩
      have hR2 := hR.out
      rw [hg1, List.range'_succ] at hR2
      unfold takeP at hR2
      obtain ⟨q, hq⟩ : ∃ q, posN p k = q := ⟨_, rfl⟩
      have HW := hid (fun V => word_any p k V hp (by omega))
      rw [hq] at HW hR2
      have hq6 : q ≤ 1000000 := by rw [← hq]; unfold posN; omega
      have HR2 := hid hR2
      obtain ⟨w2, hw2, hb2, hs2, hl2⟩ := laid wr #[.int .i64 ((q : Nat) : Int)] 3
      obtain ⟨G, hGs⟩ : ∃ G, wr.heap.size = G := ⟨_, rfl⟩
      rw [hGs] at hl2
      have x0 := cell_laid (i := 0) hXb.out rfl
      have HX2 := hid (keep_laid hXb.out hb2)
      have HT := hid (takes1_any G X q w2 (hL.out.grow hb2) HN.out hn4 hq6 (by rw [hlen.out]; omega) (cell_laid hl2 rfl) (cell_laid HX2.out rfl))
      have HG2 := hid (grownBy_trans hG.out (grownBy_below hb2 (some mb)))
      have HNX : Hid (mb ≠ X) := hid (by
        rintro rfl
        obtain ⟨es, clock, hb, -⟩ := hL.out.ids
        have := hXb.out
        rw [hb] at this
        cases this)
      clear hR2 hR hL hG hb2 hs2 hl2 hq
      have HG1' := hid hg1
      clear hg1
      go_wp2_with fail
      refine (HW.out _).mono ?_
      rintro e w3 ⟨rfl, hw3⟩
      subst hw3
      go_wp2_with fail
      refine HT.out.mono ?_
      rintro e w3 (⟨hfr, rfl, hL3, hg3⟩ | ⟨hfr, rfl, hw3⟩)
      · have HR3 := hid HR2.out
        rw [hfr, if_pos rfl] at HR3
        have HL3 := hid hL3
        have HG3 := hid (grownBy_trans HG2.out hg3)
        have HX3 := hid (keep_grown HX2.out hg3 (fun e => HNX.out (Option.some.inj e)))
        clear hfr hL3 hg3
        go_wp2
        go_roundg (gk - 1)
        case measure => have := HK.out; omega
        case rel => exact ⟨k + 1, _, by have := HK.out; omega, by go_num, HL3, HG3, HX3, hid (by rw [show gk - 1 = g1 by have := HG1'.out; omega]; exact HR3.out), hid (by rw [List.length_append, hlen.out]; simp; omega)⟩
      · subst hw3
        have HR3 := HR2.out
        rw [hfr, if_neg (by decide)] at HR3
        exact ⟨rfl, HG2.out, .inr ⟨HR3.symm, rfl⟩⟩
    · have e0 : gk = 0 := by have := HK.out; omega
      have hR2 := hR.out
      rw [e0] at hR2
      have HR2 := hid hR2
      clear hR2
      go_wp2
      go_end0
      exact ⟨hG.out, .inl ⟨met2, HR2.out.symm, rfl, hL.out⟩⟩
end Go.Proofs.Ytoihjmdpbbcbjaa
