/- The statements of layer 1: does the layer do anything; the words of texts. -/
import Derived.Test.YtgigjfdgejajbaaRef1
namespace Go.Proofs.Ytgigjfdgejajbaa
open Go.RowKit
open Go.Proofs
set_option linter.unusedVariables false

theorem w1 : getV 90 4 3 = .tuple #[.int .u64 5, .int .i64 0] := by kernel_rfl
theorem w2 : setV 0 4 3 5 = .tuple #[.int .u64 80, .int .i64 0] := by kernel_rfl
theorem w3 : signedV 12 4 = .tuple #[.int .i64 (-4), .int .i64 0] := by kernel_rfl
theorem w4 : textV [97, 98] = .tuple #[.int .u64 25185, .int .i64 0] := by kernel_rfl
theorem w5 : backV 25185 = .tuple #[.string ⟨#[97, 98]⟩, .int .i64 0] := by kernel_rfl
theorem w6 : leftV 2 63 = .tuple #[.int .u64 0, .int .i64 111] := by kernel_rfl
theorem w7 : logI 9 = 3 := by kernel_rfl

theorem wakes_any (w : World) : Calls Try.prog 9 #[] w (Ret (.bool true) w) := by
  obtain ⟨wb, hwb, hbb, hsb, hcb⟩ := boxed w #[Value.int IntKind.i64 4, Value.int IntKind.i64 3] 53
  have h0 := hcb wb 0 _ (Below.refl _ _) rfl
  have h1 := hcb wb 1 _ (Below.refl _ _) rfl
  have HC := hid hcb
  clear hcb hsb
  have hf : fok [(4, 3)] := by intro f hf; simp at hf; subst hf; exact ⟨by decide, by decide, by decide, by decide⟩
  go_enter Try.func9, Try.ntmps9
  go_wp2_with fail
  refine (Get_any 90 4 3 _ (by decide) hf).mono ?_
  rw [w1]
  rintro e w1 ⟨rfl, hb1⟩
  have h2 := HC.out w1 0 _ hb1 rfl
  have h3 := HC.out w1 1 _ hb1 rfl
  go_wp2_with fail
  refine (Set_any 0 5 4 3 _ (by decide) hf).mono ?_
  rw [w2]
  rintro e w2 ⟨rfl, hb2⟩
  go_wp2_with fail
  refine (Signed_any 12 4 _).mono ?_
  rw [w3]
  rintro e w3 ⟨rfl, hb3⟩
  go_wp2_with fail
  refine (Text_any ⟨#[97, 98]⟩ _ (by decide)).mono ?_
  rw [show textV (⟨#[97, 98]⟩ : ByteArray).data.toList = _ from w4]
  rintro e w4 ⟨rfl, hb4⟩
  go_wp2_with fail
  refine (Back_any 25185 _ (by decide)).mono ?_
  rw [w5]
  rintro e w5 ⟨rfl, hb5⟩
  go_wp2_with fail
  refine (Left_any 2 63 _ (by decide)).mono ?_
  rw [w6]
  rintro e w6 ⟨rfl, hb6⟩
  go_wp2_with fail
  refine (Log_any 9 _ (by decide)).mono ?_
  rw [w7]
  rintro e w7 ⟨rfl, hb7⟩
  go_wp2
  go_ret
  exact ⟨rfl, step (step (step (step (step (step (step hbb hb1) hb2) hb3) hb4) hb5) hb6) hb7⟩
end Go.Proofs.Ytgigjfdgejajbaa
