/- Lists (printed by gen_ls10.py): who edits. -/
import Derived.Test.YtipohagcppfgiaaLs9
namespace Go.Proofs.Ytipohagcppfgiaa
open Go.RowKit
open Go.Proofs
set_option linter.unusedVariables false
attribute [local go_sem] Oper.semAt_some

/-- Who edits. -/
structure Ede where
  ph : Int
  cuts : Bool
  link : Nat
  at_ : Nat
  key : Nat
  val : Nat
  hash : Nat
  next : Nat
structure Ede.Ok (s : Ede) : Prop where
  ph : -9223372036854775808 ≤ s.ph ∧ s.ph ≤ 9223372036854775807
  link : s.link < 18446744073709551616
  at_ : s.at_ < 18446744073709551616
  key : s.key < 18446744073709551616
  val : s.val < 18446744073709551616
  hash : s.hash < 18446744073709551616
  next : s.next < 18446744073709551616
abbrev ed8 (s : Ede) : Array Value := #[.int .i64 s.ph, .bool s.cuts, .int .u64 ((s.link : Nat) : Int), .int .u64 ((s.at_ : Nat) : Int), .int .u64 ((s.key : Nat) : Int), .int .u64 ((s.val : Nat) : Int), .int .u64 ((s.hash : Nat) : Int), .int .u64 ((s.next : Nat) : Int)]
def edV (s : Ede) : Value := .agg #[.int .i64 s.ph, .bool s.cuts, .int .u64 ((s.link : Nat) : Int), .int .u64 ((s.at_ : Nat) : Int), .int .u64 ((s.key : Nat) : Int), .int .u64 ((s.val : Nat) : Int), .int .u64 ((s.hash : Nat) : Int), .int .u64 ((s.next : Nat) : Int)]
/-- What is asked for: a kind, a place, a word. -/
def needE (s : Ede) : Nat → Int × Nat × Nat
  | 0 => (2, posL s.at_ 0, s.key)
  | 1 => (2, posL s.at_ 1, s.val)
  | 2 => (2, posL s.at_ 3, s.hash)
  | 3 => (2, posL s.at_ 2, s.next)
  | 4 => (1, posL s.at_ 2, 0)
  | _ => (2, posL s.link 0, if s.cuts = true then s.next else s.at_)
abbrev ac4 (x : Int × Nat × Nat) : Array Value := #[.int .i64 x.1, .int .i64 ((x.2.1 : Nat) : Int), .int .u64 0, .int .u64 ((x.2.2 : Nat) : Int)]
theorem store_result {W : World} {b : Nat} {v0 v1 v2 v3 : Value} {tmps : Array Value} (h : W.heap[b]? = some (.cells #[v0, v1, v2, v3] 138 (0, 0))) (hp : tmps[6]?.getD undef = .pointer (some ⟨b, 0, none⟩)) :
    (results Try.f82 tmps).run Try.prog W = .ok (.agg #[v0, v1, v2, v3]) W := by
  have h0 := cell_laid (i := 0) (v := v0) h rfl
  have h1 := cell_laid (i := 1) (v := v1) h rfl
  have h2 := cell_laid (i := 2) (v := v2) h rfl
  have h3 := cell_laid (i := 3) (v := v3) h rfl
  simp [results, Try.results82, go_sem, hp, h0, h1, h2, h3]
set_option maxRecDepth 100000 in
theorem store_any (a w v : Nat) (V : World) (ha : a < 18446744073709551616) (hw : w ≤ 100) : Calls Try.prog 82 #[.int .u64 ((a : Nat) : Int), .int .i64 ((w : Nat) : Int), .int .u64 ((v : Nat) : Int)] V (Ret (.agg (ac4 (2, posL a w, v))) V) := by
  obtain ⟨V2, hV2, hb2, hs2, hl2⟩ := laid V #[.int .i64 0, .int .i64 0, .int .u64 0, .int .u64 0] 138
  obtain ⟨Y, hY⟩ : ∃ Y, V.heap.size = Y := ⟨_, rfl⟩
  rw [hY] at hl2
  have LY := hid (show V.heap.size ≤ Y from by omega)
  have HA := hid (at_any a w V2 ha (by omega))
  obtain ⟨V3, hV3, hl3, hb3⟩ := put4 hl2 (.int .i64 2) (.int .i64 ((posL a w : Nat) : Int)) (.int .u64 0) (.int .u64 ((v : Nat) : Int))
  have HV3 := hid hV3
  have HL3 := hid hl3
  have HB3 := hid (hb3.2 _ _ LY.out hb2)
  have f0 := free_laid (i := 0) hl2
  have c0 := cell_laid (i := 0) hl2 rfl
  have f1 := free_laid (i := 1) hl2
  have c1 := cell_laid (i := 1) hl2 rfl
  have f2 := free_laid (i := 2) hl2
  have c2 := cell_laid (i := 2) hl2 rfl
  have f3 := free_laid (i := 3) hl2
  have c3 := cell_laid (i := 3) hl2 rfl
  clear hb2 hs2 hl2 hl3 hb3 hV3 ha hw
  go_enter Try.func82, Try.ntmps82
  go_wp2_with fail
  refine HA.out.mono ?_
  rintro e W ⟨rfl, hw⟩
  subst hw
  go_wp2
  rw [← HV3.out]
  refine bodyPost_ret (store_result HL3.out rfl) rfl ?_
  exact ⟨rfl, HB3.out⟩
theorem ned0_result {W : World} {b : Nat} {v0 v1 v2 v3 : Value} {tmps : Array Value} (h : W.heap[b]? = some (.cells #[v0, v1, v2, v3] 138 (0, 0))) (hp : tmps[2]?.getD undef = .pointer (some ⟨b, 0, none⟩)) :
    (results Try.f81 tmps).run Try.prog W = .ok (.agg #[v0, v1, v2, v3]) W := by
  have h0 := cell_laid (i := 0) (v := v0) h rfl
  have h1 := cell_laid (i := 1) (v := v1) h rfl
  have h2 := cell_laid (i := 2) (v := v2) h rfl
  have h3 := cell_laid (i := 3) (v := v3) h rfl
  simp [results, Try.results81, go_sem, hp, h0, h1, h2, h3]
theorem ned1_result {W : World} {b : Nat} {v0 v1 v2 v3 : Value} {tmps : Array Value} (h : W.heap[b]? = some (.cells #[v0, v1, v2, v3] 138 (0, 0))) (hp : tmps[2]?.getD undef = .pointer (some ⟨b, 0, none⟩)) :
    (results Try.f83 tmps).run Try.prog W = .ok (.agg #[v0, v1, v2, v3]) W := by
  have h0 := cell_laid (i := 0) (v := v0) h rfl
  have h1 := cell_laid (i := 1) (v := v1) h rfl
  have h2 := cell_laid (i := 2) (v := v2) h rfl
  have h3 := cell_laid (i := 3) (v := v3) h rfl
  simp [results, Try.results83, go_sem, hp, h0, h1, h2, h3]
theorem ned2_result {W : World} {b : Nat} {v0 v1 v2 v3 : Value} {tmps : Array Value} (h : W.heap[b]? = some (.cells #[v0, v1, v2, v3] 138 (0, 0))) (hp : tmps[2]?.getD undef = .pointer (some ⟨b, 0, none⟩)) :
    (results Try.f84 tmps).run Try.prog W = .ok (.agg #[v0, v1, v2, v3]) W := by
  have h0 := cell_laid (i := 0) (v := v0) h rfl
  have h1 := cell_laid (i := 1) (v := v1) h rfl
  have h2 := cell_laid (i := 2) (v := v2) h rfl
  have h3 := cell_laid (i := 3) (v := v3) h rfl
  simp [results, Try.results84, go_sem, hp, h0, h1, h2, h3]
theorem ned3_result {W : World} {b : Nat} {v0 v1 v2 v3 : Value} {tmps : Array Value} (h : W.heap[b]? = some (.cells #[v0, v1, v2, v3] 138 (0, 0))) (hp : tmps[2]?.getD undef = .pointer (some ⟨b, 0, none⟩)) :
    (results Try.f85 tmps).run Try.prog W = .ok (.agg #[v0, v1, v2, v3]) W := by
  have h0 := cell_laid (i := 0) (v := v0) h rfl
  have h1 := cell_laid (i := 1) (v := v1) h rfl
  have h2 := cell_laid (i := 2) (v := v2) h rfl
  have h3 := cell_laid (i := 3) (v := v3) h rfl
  simp [results, Try.results85, go_sem, hp, h0, h1, h2, h3]
theorem ned4_result {W : World} {b : Nat} {v0 v1 v2 v3 : Value} {tmps : Array Value} (h : W.heap[b]? = some (.cells #[v0, v1, v2, v3] 138 (0, 0))) (hp : tmps[2]?.getD undef = .pointer (some ⟨b, 0, none⟩)) :
    (results Try.f86 tmps).run Try.prog W = .ok (.agg #[v0, v1, v2, v3]) W := by
  have h0 := cell_laid (i := 0) (v := v0) h rfl
  have h1 := cell_laid (i := 1) (v := v1) h rfl
  have h2 := cell_laid (i := 2) (v := v2) h rfl
  have h3 := cell_laid (i := 3) (v := v3) h rfl
  simp [results, Try.results86, go_sem, hp, h0, h1, h2, h3]
theorem ned5_result {W : World} {b : Nat} {v0 v1 v2 v3 : Value} {tmps : Array Value} (h : W.heap[b]? = some (.cells #[v0, v1, v2, v3] 138 (0, 0))) (hp : tmps[2]?.getD undef = .pointer (some ⟨b, 0, none⟩)) :
    (results Try.f87 tmps).run Try.prog W = .ok (.agg #[v0, v1, v2, v3]) W := by
  have h0 := cell_laid (i := 0) (v := v0) h rfl
  have h1 := cell_laid (i := 1) (v := v1) h rfl
  have h2 := cell_laid (i := 2) (v := v2) h rfl
  have h3 := cell_laid (i := 3) (v := v3) h rfl
  simp [results, Try.results87, go_sem, hp, h0, h1, h2, h3]
set_option maxRecDepth 100000 in
theorem ned0_any (s : Ede) (V : World) (hs : s.Ok) : Calls Try.prog 81 #[edV s] V (Ret (.agg (ac4 (needE s 0))) V) := by
  obtain ⟨ph, cuts, link, at_, key, val, hash, next⟩ := s
  have HAT := hid hs.at_
  dsimp only at HAT
  obtain ⟨V1, hV1, hb1, hs1, hl1⟩ := laid V #[.int .i64 ph, .bool cuts, .int .u64 ((link : Nat) : Int), .int .u64 ((at_ : Nat) : Int), .int .u64 ((key : Nat) : Int), .int .u64 ((val : Nat) : Int), .int .u64 ((hash : Nat) : Int), .int .u64 ((next : Nat) : Int)] 39
  obtain ⟨X, hX⟩ : ∃ X, V.heap.size = X := ⟨_, rfl⟩
  rw [hX] at hl1
  obtain ⟨V2, hV2, hb2, hs2, hl2⟩ := laid V1 #[.int .i64 0, .int .i64 0, .int .u64 0, .int .u64 0] 138
  obtain ⟨Y, hY⟩ : ∃ Y, V1.heap.size = Y := ⟨_, rfl⟩
  rw [hY] at hl2
  have HLX := hid (keep_laid hl1 hb2)
  have LY := hid (show V.heap.size ≤ Y from by have := hb1.size; omega)
  have LY1 := hid (show Y < V2.heap.size from lt_laid hl2)
  have HB2 := hid (hb1.trans (hb2.mono hb1.size))
  have HL2 := hid hl2
  have e0 := cell_laid (i := 0) HLX.out rfl
  have e1 := cell_laid (i := 1) HLX.out rfl
  have e2 := cell_laid (i := 2) HLX.out rfl
  have e3 := cell_laid (i := 3) HLX.out rfl
  have e4 := cell_laid (i := 4) HLX.out rfl
  have e5 := cell_laid (i := 5) HLX.out rfl
  have e6 := cell_laid (i := 6) HLX.out rfl
  have e7 := cell_laid (i := 7) HLX.out rfl
  have HA := hid (store_any at_ 0 key V2 HAT.out (by decide))
  unfold ac4 at HA
  dsimp only at HA
  unfold edV
  clear hb1 hs1 hl1 hb2 hs2 hl2 hs
  dsimp only
  go_enter Try.func81, Try.ntmps81
  go_wp2_with fail
  refine HA.out.mono ?_
  rintro e W ⟨rfl, hw⟩
  have HW := hid (keep_laid HL2.out hw)
  have HBW := hid (HB2.out.trans (hw.mono HB2.out.size))
  clear hw
  obtain ⟨W3, hW3, hl3, hb3⟩ := put4 HW.out (.int .i64 2) (.int .i64 ((posL at_ 0 : Nat) : Int)) (.int .u64 0) (.int .u64 ((key : Nat) : Int))
  have HV3 := hid hW3
  have HL3 := hid hl3
  have HB3 := hid (hb3.2 _ _ LY.out HBW.out)
  have f0 := free_laid (i := 0) HW.out
  have c0 := cell_laid (i := 0) HW.out rfl
  have f1 := free_laid (i := 1) HW.out
  have c1 := cell_laid (i := 1) HW.out rfl
  have f2 := free_laid (i := 2) HW.out
  have c2 := cell_laid (i := 2) HW.out rfl
  have f3 := free_laid (i := 3) HW.out
  have c3 := cell_laid (i := 3) HW.out rfl
  clear hl3 hb3 hW3
  go_wp2
  rw [← HV3.out]
  refine bodyPost_ret (ned0_result HL3.out rfl) rfl ?_
  exact ⟨rfl, HB3.out⟩
set_option maxRecDepth 100000 in
theorem ned1_any (s : Ede) (V : World) (hs : s.Ok) : Calls Try.prog 83 #[edV s] V (Ret (.agg (ac4 (needE s 1))) V) := by
  obtain ⟨ph, cuts, link, at_, key, val, hash, next⟩ := s
  have HAT := hid hs.at_
  dsimp only at HAT
  obtain ⟨V1, hV1, hb1, hs1, hl1⟩ := laid V #[.int .i64 ph, .bool cuts, .int .u64 ((link : Nat) : Int), .int .u64 ((at_ : Nat) : Int), .int .u64 ((key : Nat) : Int), .int .u64 ((val : Nat) : Int), .int .u64 ((hash : Nat) : Int), .int .u64 ((next : Nat) : Int)] 39
  obtain ⟨X, hX⟩ : ∃ X, V.heap.size = X := ⟨_, rfl⟩
  rw [hX] at hl1
  obtain ⟨V2, hV2, hb2, hs2, hl2⟩ := laid V1 #[.int .i64 0, .int .i64 0, .int .u64 0, .int .u64 0] 138
  obtain ⟨Y, hY⟩ : ∃ Y, V1.heap.size = Y := ⟨_, rfl⟩
  rw [hY] at hl2
  have HLX := hid (keep_laid hl1 hb2)
  have LY := hid (show V.heap.size ≤ Y from by have := hb1.size; omega)
  have LY1 := hid (show Y < V2.heap.size from lt_laid hl2)
  have HB2 := hid (hb1.trans (hb2.mono hb1.size))
  have HL2 := hid hl2
  have e0 := cell_laid (i := 0) HLX.out rfl
  have e1 := cell_laid (i := 1) HLX.out rfl
  have e2 := cell_laid (i := 2) HLX.out rfl
  have e3 := cell_laid (i := 3) HLX.out rfl
  have e4 := cell_laid (i := 4) HLX.out rfl
  have e5 := cell_laid (i := 5) HLX.out rfl
  have e6 := cell_laid (i := 6) HLX.out rfl
  have e7 := cell_laid (i := 7) HLX.out rfl
  have HA := hid (store_any at_ 1 val V2 HAT.out (by decide))
  unfold ac4 at HA
  dsimp only at HA
  unfold edV
  clear hb1 hs1 hl1 hb2 hs2 hl2 hs
  dsimp only
  go_enter Try.func83, Try.ntmps83
  go_wp2_with fail
  refine HA.out.mono ?_
  rintro e W ⟨rfl, hw⟩
  have HW := hid (keep_laid HL2.out hw)
  have HBW := hid (HB2.out.trans (hw.mono HB2.out.size))
  clear hw
  obtain ⟨W3, hW3, hl3, hb3⟩ := put4 HW.out (.int .i64 2) (.int .i64 ((posL at_ 1 : Nat) : Int)) (.int .u64 0) (.int .u64 ((val : Nat) : Int))
  have HV3 := hid hW3
  have HL3 := hid hl3
  have HB3 := hid (hb3.2 _ _ LY.out HBW.out)
  have f0 := free_laid (i := 0) HW.out
  have c0 := cell_laid (i := 0) HW.out rfl
  have f1 := free_laid (i := 1) HW.out
  have c1 := cell_laid (i := 1) HW.out rfl
  have f2 := free_laid (i := 2) HW.out
  have c2 := cell_laid (i := 2) HW.out rfl
  have f3 := free_laid (i := 3) HW.out
  have c3 := cell_laid (i := 3) HW.out rfl
  clear hl3 hb3 hW3
  go_wp2
  rw [← HV3.out]
  refine bodyPost_ret (ned1_result HL3.out rfl) rfl ?_
  exact ⟨rfl, HB3.out⟩
set_option maxRecDepth 100000 in
theorem ned2_any (s : Ede) (V : World) (hs : s.Ok) : Calls Try.prog 84 #[edV s] V (Ret (.agg (ac4 (needE s 2))) V) := by
  obtain ⟨ph, cuts, link, at_, key, val, hash, next⟩ := s
  have HAT := hid hs.at_
  dsimp only at HAT
  obtain ⟨V1, hV1, hb1, hs1, hl1⟩ := laid V #[.int .i64 ph, .bool cuts, .int .u64 ((link : Nat) : Int), .int .u64 ((at_ : Nat) : Int), .int .u64 ((key : Nat) : Int), .int .u64 ((val : Nat) : Int), .int .u64 ((hash : Nat) : Int), .int .u64 ((next : Nat) : Int)] 39
  obtain ⟨X, hX⟩ : ∃ X, V.heap.size = X := ⟨_, rfl⟩
  rw [hX] at hl1
  obtain ⟨V2, hV2, hb2, hs2, hl2⟩ := laid V1 #[.int .i64 0, .int .i64 0, .int .u64 0, .int .u64 0] 138
  obtain ⟨Y, hY⟩ : ∃ Y, V1.heap.size = Y := ⟨_, rfl⟩
  rw [hY] at hl2
  have HLX := hid (keep_laid hl1 hb2)
  have LY := hid (show V.heap.size ≤ Y from by have := hb1.size; omega)
  have LY1 := hid (show Y < V2.heap.size from lt_laid hl2)
  have HB2 := hid (hb1.trans (hb2.mono hb1.size))
  have HL2 := hid hl2
  have e0 := cell_laid (i := 0) HLX.out rfl
  have e1 := cell_laid (i := 1) HLX.out rfl
  have e2 := cell_laid (i := 2) HLX.out rfl
  have e3 := cell_laid (i := 3) HLX.out rfl
  have e4 := cell_laid (i := 4) HLX.out rfl
  have e5 := cell_laid (i := 5) HLX.out rfl
  have e6 := cell_laid (i := 6) HLX.out rfl
  have e7 := cell_laid (i := 7) HLX.out rfl
  have HA := hid (store_any at_ 3 hash V2 HAT.out (by decide))
  unfold ac4 at HA
  dsimp only at HA
  unfold edV
  clear hb1 hs1 hl1 hb2 hs2 hl2 hs
  dsimp only
  go_enter Try.func84, Try.ntmps84
  go_wp2_with fail
  refine HA.out.mono ?_
  rintro e W ⟨rfl, hw⟩
  have HW := hid (keep_laid HL2.out hw)
  have HBW := hid (HB2.out.trans (hw.mono HB2.out.size))
  clear hw
  obtain ⟨W3, hW3, hl3, hb3⟩ := put4 HW.out (.int .i64 2) (.int .i64 ((posL at_ 3 : Nat) : Int)) (.int .u64 0) (.int .u64 ((hash : Nat) : Int))
  have HV3 := hid hW3
  have HL3 := hid hl3
  have HB3 := hid (hb3.2 _ _ LY.out HBW.out)
  have f0 := free_laid (i := 0) HW.out
  have c0 := cell_laid (i := 0) HW.out rfl
  have f1 := free_laid (i := 1) HW.out
  have c1 := cell_laid (i := 1) HW.out rfl
  have f2 := free_laid (i := 2) HW.out
  have c2 := cell_laid (i := 2) HW.out rfl
  have f3 := free_laid (i := 3) HW.out
  have c3 := cell_laid (i := 3) HW.out rfl
  clear hl3 hb3 hW3
  go_wp2
  rw [← HV3.out]
  refine bodyPost_ret (ned2_result HL3.out rfl) rfl ?_
  exact ⟨rfl, HB3.out⟩
set_option maxRecDepth 100000 in
theorem ned3_any (s : Ede) (V : World) (hs : s.Ok) : Calls Try.prog 85 #[edV s] V (Ret (.agg (ac4 (needE s 3))) V) := by
  obtain ⟨ph, cuts, link, at_, key, val, hash, next⟩ := s
  have HAT := hid hs.at_
  dsimp only at HAT
  obtain ⟨V1, hV1, hb1, hs1, hl1⟩ := laid V #[.int .i64 ph, .bool cuts, .int .u64 ((link : Nat) : Int), .int .u64 ((at_ : Nat) : Int), .int .u64 ((key : Nat) : Int), .int .u64 ((val : Nat) : Int), .int .u64 ((hash : Nat) : Int), .int .u64 ((next : Nat) : Int)] 39
  obtain ⟨X, hX⟩ : ∃ X, V.heap.size = X := ⟨_, rfl⟩
  rw [hX] at hl1
  obtain ⟨V2, hV2, hb2, hs2, hl2⟩ := laid V1 #[.int .i64 0, .int .i64 0, .int .u64 0, .int .u64 0] 138
  obtain ⟨Y, hY⟩ : ∃ Y, V1.heap.size = Y := ⟨_, rfl⟩
  rw [hY] at hl2
  have HLX := hid (keep_laid hl1 hb2)
  have LY := hid (show V.heap.size ≤ Y from by have := hb1.size; omega)
  have LY1 := hid (show Y < V2.heap.size from lt_laid hl2)
  have HB2 := hid (hb1.trans (hb2.mono hb1.size))
  have HL2 := hid hl2
  have e0 := cell_laid (i := 0) HLX.out rfl
  have e1 := cell_laid (i := 1) HLX.out rfl
  have e2 := cell_laid (i := 2) HLX.out rfl
  have e3 := cell_laid (i := 3) HLX.out rfl
  have e4 := cell_laid (i := 4) HLX.out rfl
  have e5 := cell_laid (i := 5) HLX.out rfl
  have e6 := cell_laid (i := 6) HLX.out rfl
  have e7 := cell_laid (i := 7) HLX.out rfl
  have HA := hid (store_any at_ 2 next V2 HAT.out (by decide))
  unfold ac4 at HA
  dsimp only at HA
  unfold edV
  clear hb1 hs1 hl1 hb2 hs2 hl2 hs
  dsimp only
  go_enter Try.func85, Try.ntmps85
  go_wp2_with fail
  refine HA.out.mono ?_
  rintro e W ⟨rfl, hw⟩
  have HW := hid (keep_laid HL2.out hw)
  have HBW := hid (HB2.out.trans (hw.mono HB2.out.size))
  clear hw
  obtain ⟨W3, hW3, hl3, hb3⟩ := put4 HW.out (.int .i64 2) (.int .i64 ((posL at_ 2 : Nat) : Int)) (.int .u64 0) (.int .u64 ((next : Nat) : Int))
  have HV3 := hid hW3
  have HL3 := hid hl3
  have HB3 := hid (hb3.2 _ _ LY.out HBW.out)
  have f0 := free_laid (i := 0) HW.out
  have c0 := cell_laid (i := 0) HW.out rfl
  have f1 := free_laid (i := 1) HW.out
  have c1 := cell_laid (i := 1) HW.out rfl
  have f2 := free_laid (i := 2) HW.out
  have c2 := cell_laid (i := 2) HW.out rfl
  have f3 := free_laid (i := 3) HW.out
  have c3 := cell_laid (i := 3) HW.out rfl
  clear hl3 hb3 hW3
  go_wp2
  rw [← HV3.out]
  refine bodyPost_ret (ned3_result HL3.out rfl) rfl ?_
  exact ⟨rfl, HB3.out⟩
set_option maxRecDepth 100000 in
theorem ned4_any (s : Ede) (V : World) (hs : s.Ok) : Calls Try.prog 86 #[edV s] V (Ret (.agg (ac4 (needE s 4))) V) := by
  obtain ⟨ph, cuts, link, at_, key, val, hash, next⟩ := s
  have HAT := hid hs.at_
  dsimp only at HAT
  obtain ⟨V1, hV1, hb1, hs1, hl1⟩ := laid V #[.int .i64 ph, .bool cuts, .int .u64 ((link : Nat) : Int), .int .u64 ((at_ : Nat) : Int), .int .u64 ((key : Nat) : Int), .int .u64 ((val : Nat) : Int), .int .u64 ((hash : Nat) : Int), .int .u64 ((next : Nat) : Int)] 39
  obtain ⟨X, hX⟩ : ∃ X, V.heap.size = X := ⟨_, rfl⟩
  rw [hX] at hl1
  obtain ⟨V2, hV2, hb2, hs2, hl2⟩ := laid V1 #[.int .i64 0, .int .i64 0, .int .u64 0, .int .u64 0] 138
  obtain ⟨Y, hY⟩ : ∃ Y, V1.heap.size = Y := ⟨_, rfl⟩
  rw [hY] at hl2
  have HLX := hid (keep_laid hl1 hb2)
  have LY := hid (show V.heap.size ≤ Y from by have := hb1.size; omega)
  have LY1 := hid (show Y < V2.heap.size from lt_laid hl2)
  have HB2 := hid (hb1.trans (hb2.mono hb1.size))
  have HL2 := hid hl2
  have e0 := cell_laid (i := 0) HLX.out rfl
  have e1 := cell_laid (i := 1) HLX.out rfl
  have e2 := cell_laid (i := 2) HLX.out rfl
  have e3 := cell_laid (i := 3) HLX.out rfl
  have e4 := cell_laid (i := 4) HLX.out rfl
  have e5 := cell_laid (i := 5) HLX.out rfl
  have e6 := cell_laid (i := 6) HLX.out rfl
  have e7 := cell_laid (i := 7) HLX.out rfl
  have HA := hid (at_any at_ 2 V2 HAT.out (by decide))
  unfold edV
  clear hb1 hs1 hl1 hb2 hs2 hl2 hs
  dsimp only
  go_enter Try.func86, Try.ntmps86
  go_wp2_with fail
  refine HA.out.mono ?_
  rintro e W ⟨rfl, hw⟩
  subst hw
  have HW := hid HL2.out
  have HBW := hid HB2.out
  obtain ⟨W3, hW3, hl3, hb3⟩ := put4 HW.out (.int .i64 1) (.int .i64 ((posL at_ 2 : Nat) : Int)) (.int .u64 0) (.int .u64 0)
  have HV3 := hid hW3
  have HL3 := hid hl3
  have HB3 := hid (hb3.2 _ _ LY.out HBW.out)
  have f0 := free_laid (i := 0) HW.out
  have c0 := cell_laid (i := 0) HW.out rfl
  have f1 := free_laid (i := 1) HW.out
  have c1 := cell_laid (i := 1) HW.out rfl
  have f2 := free_laid (i := 2) HW.out
  have c2 := cell_laid (i := 2) HW.out rfl
  have f3 := free_laid (i := 3) HW.out
  have c3 := cell_laid (i := 3) HW.out rfl
  clear hl3 hb3 hW3
  go_wp2
  rw [← HV3.out]
  refine bodyPost_ret (ned4_result HL3.out rfl) rfl ?_
  exact ⟨rfl, HB3.out⟩
set_option maxRecDepth 100000 in
theorem ned5t_any (s : Ede) (V : World) (hs : s.Ok) (hc : s.cuts = true) : Calls Try.prog 87 #[edV s] V (Ret (.agg (ac4 (needE s 5))) V) := by
  obtain ⟨ph, cuts, link, at_, key, val, hash, next⟩ := s
  obtain rfl : cuts = true := hc
  have HAT := hid hs.link
  dsimp only at HAT
  obtain ⟨V1, hV1, hb1, hs1, hl1⟩ := laid V #[.int .i64 ph, .bool true, .int .u64 ((link : Nat) : Int), .int .u64 ((at_ : Nat) : Int), .int .u64 ((key : Nat) : Int), .int .u64 ((val : Nat) : Int), .int .u64 ((hash : Nat) : Int), .int .u64 ((next : Nat) : Int)] 39
  obtain ⟨X, hX⟩ : ∃ X, V.heap.size = X := ⟨_, rfl⟩
  rw [hX] at hl1
  obtain ⟨V2, hV2, hb2, hs2, hl2⟩ := laid V1 #[.int .i64 0, .int .i64 0, .int .u64 0, .int .u64 0] 138
  obtain ⟨Y, hY⟩ : ∃ Y, V1.heap.size = Y := ⟨_, rfl⟩
  rw [hY] at hl2
  have HLX := hid (keep_laid hl1 hb2)
  have LY := hid (show V.heap.size ≤ Y from by have := hb1.size; omega)
  have LY1 := hid (show Y < V2.heap.size from lt_laid hl2)
  have HB2 := hid (hb1.trans (hb2.mono hb1.size))
  have HL2 := hid hl2
  have e0 := cell_laid (i := 0) HLX.out rfl
  have e1 := cell_laid (i := 1) HLX.out rfl
  have e2 := cell_laid (i := 2) HLX.out rfl
  have e3 := cell_laid (i := 3) HLX.out rfl
  have e4 := cell_laid (i := 4) HLX.out rfl
  have e5 := cell_laid (i := 5) HLX.out rfl
  have e6 := cell_laid (i := 6) HLX.out rfl
  have e7 := cell_laid (i := 7) HLX.out rfl
  have HA := hid (store_any link 0 next V2 HAT.out (by decide))
  unfold ac4 at HA
  dsimp only at HA
  unfold edV
  clear hb1 hs1 hl1 hb2 hs2 hl2 hs
  dsimp only
  go_enter Try.func87, Try.ntmps87
  go_wp2_with fail
  refine HA.out.mono ?_
  rintro e W ⟨rfl, hw⟩
  have HW := hid (keep_laid HL2.out hw)
  have HBW := hid (HB2.out.trans (hw.mono HB2.out.size))
  clear hw
  obtain ⟨W3, hW3, hl3, hb3⟩ := put4 HW.out (.int .i64 2) (.int .i64 ((posL link 0 : Nat) : Int)) (.int .u64 0) (.int .u64 ((next : Nat) : Int))
  have HV3 := hid hW3
  have HL3 := hid hl3
  have HB3 := hid (hb3.2 _ _ LY.out HBW.out)
  have f0 := free_laid (i := 0) HW.out
  have c0 := cell_laid (i := 0) HW.out rfl
  have f1 := free_laid (i := 1) HW.out
  have c1 := cell_laid (i := 1) HW.out rfl
  have f2 := free_laid (i := 2) HW.out
  have c2 := cell_laid (i := 2) HW.out rfl
  have f3 := free_laid (i := 3) HW.out
  have c3 := cell_laid (i := 3) HW.out rfl
  clear hl3 hb3 hW3
  go_wp2
  rw [← HV3.out]
  refine bodyPost_ret (ned5_result HL3.out rfl) rfl ?_
  exact ⟨rfl, HB3.out⟩
set_option maxRecDepth 100000 in
theorem ned5f_any (s : Ede) (V : World) (hs : s.Ok) (hc : s.cuts = false) : Calls Try.prog 87 #[edV s] V (Ret (.agg (ac4 (needE s 5))) V) := by
  obtain ⟨ph, cuts, link, at_, key, val, hash, next⟩ := s
  obtain rfl : cuts = false := hc
  have HAT := hid hs.link
  dsimp only at HAT
  obtain ⟨V1, hV1, hb1, hs1, hl1⟩ := laid V #[.int .i64 ph, .bool false, .int .u64 ((link : Nat) : Int), .int .u64 ((at_ : Nat) : Int), .int .u64 ((key : Nat) : Int), .int .u64 ((val : Nat) : Int), .int .u64 ((hash : Nat) : Int), .int .u64 ((next : Nat) : Int)] 39
  obtain ⟨X, hX⟩ : ∃ X, V.heap.size = X := ⟨_, rfl⟩
  rw [hX] at hl1
  obtain ⟨V2, hV2, hb2, hs2, hl2⟩ := laid V1 #[.int .i64 0, .int .i64 0, .int .u64 0, .int .u64 0] 138
  obtain ⟨Y, hY⟩ : ∃ Y, V1.heap.size = Y := ⟨_, rfl⟩
  rw [hY] at hl2
  have HLX := hid (keep_laid hl1 hb2)
  have LY := hid (show V.heap.size ≤ Y from by have := hb1.size; omega)
  have LY1 := hid (show Y < V2.heap.size from lt_laid hl2)
  have HB2 := hid (hb1.trans (hb2.mono hb1.size))
  have HL2 := hid hl2
  have e0 := cell_laid (i := 0) HLX.out rfl
  have e1 := cell_laid (i := 1) HLX.out rfl
  have e2 := cell_laid (i := 2) HLX.out rfl
  have e3 := cell_laid (i := 3) HLX.out rfl
  have e4 := cell_laid (i := 4) HLX.out rfl
  have e5 := cell_laid (i := 5) HLX.out rfl
  have e6 := cell_laid (i := 6) HLX.out rfl
  have e7 := cell_laid (i := 7) HLX.out rfl
  have HA := hid (store_any link 0 at_ V2 HAT.out (by decide))
  unfold ac4 at HA
  dsimp only at HA
  unfold edV
  clear hb1 hs1 hl1 hb2 hs2 hl2 hs
  dsimp only
  go_enter Try.func87, Try.ntmps87
  go_wp2_with fail
  refine HA.out.mono ?_
  rintro e W ⟨rfl, hw⟩
  have HW := hid (keep_laid HL2.out hw)
  have HBW := hid (HB2.out.trans (hw.mono HB2.out.size))
  clear hw
  obtain ⟨W3, hW3, hl3, hb3⟩ := put4 HW.out (.int .i64 2) (.int .i64 ((posL link 0 : Nat) : Int)) (.int .u64 0) (.int .u64 ((at_ : Nat) : Int))
  have HV3 := hid hW3
  have HL3 := hid hl3
  have HB3 := hid (hb3.2 _ _ LY.out HBW.out)
  have f0 := free_laid (i := 0) HW.out
  have c0 := cell_laid (i := 0) HW.out rfl
  have f1 := free_laid (i := 1) HW.out
  have c1 := cell_laid (i := 1) HW.out rfl
  have f2 := free_laid (i := 2) HW.out
  have c2 := cell_laid (i := 2) HW.out rfl
  have f3 := free_laid (i := 3) HW.out
  have c3 := cell_laid (i := 3) HW.out rfl
  clear hl3 hb3 hW3
  go_wp2
  rw [← HV3.out]
  refine bodyPost_ret (ned5_result HL3.out rfl) rfl ?_
  exact ⟨rfl, HB3.out⟩
theorem ned5_any (s : Ede) (V : World) (hs : s.Ok) : Calls Try.prog 87 #[edV s] V (Ret (.agg (ac4 (needE s 5))) V) := by
  cases h : s.cuts with
  | true => exact ned5t_any s V hs h
  | false => exact ned5f_any s V hs h
end Go.Proofs.Ytipohagcppfgiaa
