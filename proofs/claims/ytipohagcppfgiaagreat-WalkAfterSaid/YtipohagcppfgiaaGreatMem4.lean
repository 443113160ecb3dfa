/- Memories: an access (the walk). -/
import Derived.Test.YtipohagcppfgiaaGreatMem3
import Derived.Laws.EntriesVeiled
namespace Go.Proofs.YtipohagcppfgiaaGreat
open Go.RowKit
open Go.Proofs
set_option linter.unusedVariables false
theorem does_any (V : World) : Calls Tryz.prog 110 #[] V (fun e W => ∃ z, e = .returned (.agg #[z, .func (.func 111) #[] #[], .func (.func 112) #[] #[], .func (.func 113) #[] #[]]) ∧ Below V.heap.size V W) := by
 obtain ⟨V1, hV1, hb1, hs1, hl1⟩ := laid V #[.nilFunc, .nilFunc, .nilFunc, .nilFunc] 181
 obtain ⟨Y, hY⟩ := nm (V.heap.size)
 have hYY : V.heap.size ≤ Y := by omega
 rw [hY] at hl1
 obtain ⟨V2, hV2, hl2, -, hb2⟩ := put4 hl1 .nilFunc (.func (.func 111) #[] #[]) (.func (.func 112) #[] #[]) (.func (.func 113) #[] #[])
 have HL2 := hid hl2
 have HB2 := hid (hb2 _ _ hYY hb1)
 have f0 := flD (i := 0) hl1
 have f1 := flD (i := 1) hl1
 have f2 := flD (i := 2) hl1
 have f3 := flD (i := 3) hl1
 have c0 := clD (i := 0) hl1 rfl
 have c1 := clD (i := 1) hl1 rfl
 have c2 := clD (i := 2) hl1 rfl
 have c3 := clD (i := 3) hl1 rfl
 have HV2 := hid hV2
 clear hl1 hs1 hl2 hb2 hV2 hb1 hYY
 go_enter Tryz.func110, Tryz.ntmps110
 go_wp2
 rw [← HV2.out]
 refine bodyPost_ret (does_result HL2.out rfl) rfl ?_
 exact ⟨_, rfl, HB2.out⟩
end Go.Proofs.YtipohagcppfgiaaGreat
