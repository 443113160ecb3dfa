/- The statements of layer 21: does the layer do anything. -/
import Derived.Test.YtdjckgcjdbdeiaaPathPlain2
namespace Go.Proofs.Ytdjckgcjdbdeiaa
open Go.RowKit
open Go.Proofs
set_option linter.unusedVariables false

theorem k1 : ofV [47, 97, 47, 98] = .tuple #[.int .u64 ((1647272239 : Nat) : Int), .int .i64 0] := by kernel_rfl
theorem k2 : ofV [47, 97] = .tuple #[.int .u64 ((24879 : Nat) : Int), .int .i64 0] := by kernel_rfl
theorem k3 : ofV [47] = .tuple #[.int .u64 ((47 : Nat) : Int), .int .i64 0] := by kernel_rfl
theorem k4 : ofV [47, 97, 98] = .tuple #[.int .u64 ((6447407 : Nat) : Int), .int .i64 0] := by kernel_rfl
theorem k5 : ofV [47, 97, 47] = .tuple #[.int .u64 0, .int .i64 310] := by kernel_rfl
theorem k6 : rd 1647272239 = some [[97], [98]] := by kernel_rfl
theorem k7 : ups [[97], [98]] = [1647272239, 24879, 47] := by kernel_rfl
theorem k8 : longV [47, 24879, 6447407] 1647272239 = .tuple #[.int .u64 ((24879 : Nat) : Int), .int .i64 0] := by kernel_rfl
theorem k9 : longV [6447407] 1647272239 = .tuple #[.int .u64 0, .int .i64 4] := by kernel_rfl
theorem k10 : aheadB 24879 6447407 = false := by kernel_rfl
theorem k11 : aheadB 47 24879 = true := by kernel_rfl

theorem dl_two {xs : List ByteArray} {l m : List UInt8} (h : dl xs = [l, m]) : ∃ x0 x1 : ByteArray, xs = [x0, x1] ∧ x0.data.toList = l ∧ x1.data.toList = m := by
  cases xs with
  | nil => simp [dl] at h
  | cons x r =>
    cases r with
    | nil => simp [dl] at h
    | cons y r =>
      cases r with
      | nil => simp [dl] at h; exact ⟨x, y, rfl, h.1, h.2⟩
      | cons z r => simp [dl] at h

set_option maxRecDepth 100000 in
set_option maxHeartbeats 1000000 in
theorem wakes_any (w : World) : Calls Try.prog 7 #[] w (Ret (.bool true) w) := by
  have h1 := fun W => Of_any ⟨#[47, 97, 47, 98]⟩ W (by decide)
  have h2 := fun W => Of_any ⟨#[47, 97]⟩ W (by decide)
  have h3 := fun W => Of_any ⟨#[47]⟩ W (by decide)
  have h4 := fun W => Of_any ⟨#[47, 97, 98]⟩ W (by decide)
  have h5 := fun W => Of_any ⟨#[47, 97, 47]⟩ W (by decide)
  rw [show ofV (⟨#[47, 97, 47, 98]⟩ : ByteArray).data.toList = _ from k1] at h1
  rw [show ofV (⟨#[47, 97]⟩ : ByteArray).data.toList = _ from k2] at h2
  rw [show ofV (⟨#[47]⟩ : ByteArray).data.toList = _ from k3] at h3
  rw [show ofV (⟨#[47, 97, 98]⟩ : ByteArray).data.toList = _ from k4] at h4
  rw [show ofV (⟨#[47, 97, 47]⟩ : ByteArray).data.toList = _ from k5] at h5
  have h6 := fun W => Up_some 1647272239 _ W (by decide) k6
  rw [k7] at h6
  have h7 := fun W => Parts_some 1647272239 _ W (by decide) k6
  have h8 := fun W => Ahead_any 24879 6447407 W (by decide) (by decide)
  have h9 := fun W => Ahead_any 47 24879 W (by decide) (by decide)
  rw [k10] at h8
  rw [k11] at h9
  have H1 := hid h1
  have H2 := hid h2
  have H3 := hid h3
  have H4 := hid h4
  have H5 := hid h5
  have H6 := hid h6
  have H7 := hid h7
  have H8 := hid h8
  have H9 := hid h9
  clear h1 h2 h3 h4 h5 h6 h7 h8 h9
  go_enter Try.func7, Try.ntmps7
  go_wp2_with fail
  refine (H1.out _).mono ?_
  rintro e w1 ⟨rfl, hb1⟩
  go_wp2_with fail
  refine (H2.out _).mono ?_
  rintro e w2 ⟨rfl, hb2⟩
  go_wp2_with fail
  refine (H3.out _).mono ?_
  rintro e w3 ⟨rfl, hb3⟩
  go_wp2_with fail
  refine (H4.out _).mono ?_
  rintro e w4 ⟨rfl, hb4⟩
  go_wp2_with fail
  refine (H6.out _).mono ?_
  rintro e w5 ⟨v5, rfl, ho5, hb5⟩
  obtain ⟨a5, c5, rfl, hl5⟩ := Leads.of_own ho5
  obtain ⟨w6, hw6, hb6, hs6, hl6⟩ := made w5 #[.int .u64 47, .int .u64 24879, .int .u64 6447407] 25 3 (wcells [47, 24879, 6447407]) (by decide) (fun i v h => by simpa [wcells] using h)
  have L := Longest_any [47, 24879, 6447407] _ 3 3 1647272239 w6 (by decide) rfl hl6
  rw [k8] at L
  have HL := hid L
  have H5' := hid (hl5.grow hb6)
  clear ho5 hl5 hl6 L hs6
  go_wp2_with fail
  refine HL.out.mono ?_
  rintro e w7 ⟨rfl, hb7⟩
  obtain ⟨w8, hw8, hb8, hs8, hl8⟩ := made w7 #[.int .u64 6447407] 25 1 (wcells [6447407]) (by decide) (fun i v h => by simpa [wcells] using h)
  have L := Longest_any [6447407] _ 1 1 1647272239 w8 (by decide) rfl hl8
  rw [k9] at L
  have HL2 := hid L
  clear L hs8 hl8
  go_wp2_with fail
  refine HL2.out.mono ?_
  rintro e w9 ⟨rfl, hb9⟩
  go_wp2_with fail
  refine (H7.out _).mono ?_
  rintro e w10 ⟨v10, xs, rfl, hd, ho10, hb10⟩
  obtain ⟨x0, x1, rfl, e0, e1⟩ := dl_two hd
  obtain ⟨a10, c10, rfl, hl10⟩ := Leads.of_own ho10
  have E0 := hid e0
  have E1 := hid e1
  have H10 := hid hl10
  clear hd ho10 hl10 e0 e1
  go_wp2_with fail
  refine (H5.out _).mono ?_
  rintro e w11 ⟨rfl, hb11⟩
  obtain ⟨w12, hw12, hb12, hs12, hl12⟩ := made w11 #[.int .u64 1647272239, .int .u64 24879, .int .u64 47] 25 3 (wcells [1647272239, 24879, 47]) (by decide) (fun i v h => by simpa [wcells] using h)
  have b6 := step (step (step (step (step (step hb6 hb7) hb8) hb9) hb10) hb11) hb12
  have L := EqU_any [1647272239, 24879, 47] [1647272239, 24879, 47] a5 _ 3 3 c5 3 w12 rfl rfl (H5'.out.grow (step (step (step (step (step hb7 hb8) hb9) hb10) hb11) hb12)) hl12
  rw [decide_eq_true rfl] at L
  have HL3 := hid L
  clear L hs12 hl12
  go_wp2_with fail
  refine HL3.out.mono ?_
  rintro e w13 ⟨rfl, hb13⟩
  obtain ⟨w14, hw14, hb14, hs14, hl14⟩ := made w13 #[.string ⟨#[97]⟩, .string ⟨#[98]⟩] 9 2 (tcells [⟨#[97]⟩, ⟨#[98]⟩]) (by decide) (fun i v h => by simpa [tcells] using h)
  have L := EqS_any [x0, x1] [⟨#[97]⟩, ⟨#[98]⟩] a10 _ 2 2 c10 2 w14 rfl rfl (H10.out.grow (step (step (step hb11 hb12) hb13) hb14)) hl14
  rw [decide_eq_true (by unfold dl; simp [E0.out, E1.out])] at L
  have HL4 := hid L
  clear L hs14 hl14
  go_wp2_with fail
  refine HL4.out.mono ?_
  rintro e w15 ⟨rfl, hb15⟩
  go_wp2_with fail
  refine (H8.out _).mono ?_
  rintro e w16 ⟨rfl, hb16⟩
  go_wp2_with fail
  refine (H9.out _).mono ?_
  rintro e w17 ⟨rfl, hb17⟩
  go_wp2
  go_ret
  exact ⟨rfl, step (step (step (step (step (step (step (step (step (step hb1 hb2) hb3) hb4) hb5) b6) hb13) hb14) hb15) hb16) hb17⟩
end Go.Proofs.Ytdjckgcjdbdeiaa
