/- Memories: an access (the walk). -/
import Derived.Test.YtipohagcppfgiaaMem3
import Derived.Laws.EntriesVeiled
namespace Go.Proofs.Ytipohagcppfgiaa
open Go.RowKit
open Go.Proofs
set_option linter.unusedVariables false

theorem does_any (V : World) : Calls Try.prog 88 #[] V (fun e W => ∃ z, e = .returned (.agg #[z, .func (.func 89) #[] #[], .func (.func 90) #[] #[], .func (.func 91) #[] #[]]) ∧ Below V.heap.size V W) := by
  obtain ⟨V1, hV1, hb1, hs1, hl1⟩ := laid V #[.nilFunc, .nilFunc, .nilFunc, .nilFunc] 156
  obtain ⟨Y, hY⟩ : ∃ Y, V.heap.size = Y := ⟨_, rfl⟩
  have hYY : V.heap.size ≤ Y := by omega
  rw [hY] at hl1
  obtain ⟨V2, hV2, hl2, -, hb2⟩ := put4 hl1 .nilFunc (.func (.func 89) #[] #[]) (.func (.func 90) #[] #[]) (.func (.func 91) #[] #[])
  have HL2 := hid hl2
  have HB2 := hid (hb2 _ _ hYY hb1)
  have f0 := free_laid (i := 0) hl1
  have f1 := free_laid (i := 1) hl1
  have f2 := free_laid (i := 2) hl1
  have f3 := free_laid (i := 3) hl1
  have c0 := cell_laid (i := 0) hl1 rfl
  have c1 := cell_laid (i := 1) hl1 rfl
  have c2 := cell_laid (i := 2) hl1 rfl
  have c3 := cell_laid (i := 3) hl1 rfl
  have HV2 := hid hV2
  clear hl1 hs1 hl2 hb2 hV2 hb1 hYY
  go_enter Try.func88, Try.ntmps88
  go_wp2
  rw [← HV2.out]
  refine bodyPost_ret (does_result HL2.out rfl) rfl ?_
  exact ⟨_, rfl, HB2.out⟩
end Go.Proofs.Ytipohagcppfgiaa
