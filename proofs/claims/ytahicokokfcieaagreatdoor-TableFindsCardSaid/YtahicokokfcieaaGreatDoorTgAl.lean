/- Several texts in one. -/
import Derived.Test.YtahicokokfcieaaGreatDoorTgAk
namespace Go.Proofs.YtahicokokfcieaaGreatDoor
open Go.RowKit
open Go.Proofs
set_option linter.unusedVariables false
attribute [local go_sem] Oper.semAt_some
/-- Who edits. -/
structure Ede where
  ph : Int
  cuts : Bool
  link : Nat
  at_ : Nat
  key : Nat
  val : Nat
  hash : Nat
  next : Nat
structure Ede.Ok (s : Ede) : Prop where
  ph : -9223372036854775808 ≤ s.ph ∧ s.ph ≤ 9223372036854775807
  link : s.link < 18446744073709551616
  at_ : s.at_ < 18446744073709551616
  key : s.key < 18446744073709551616
  val : s.val < 18446744073709551616
  hash : s.hash < 18446744073709551616
  next : s.next < 18446744073709551616
abbrev ed8 (s : Ede) : Array Value := #[.int .i64 s.ph, .bool s.cuts, .int .u64 ((s.link : Nat) : Int), .int .u64 ((s.at_ : Nat) : Int), .int .u64 ((s.key : Nat) : Int), .int .u64 ((s.val : Nat) : Int), .int .u64 ((s.hash : Nat) : Int), .int .u64 ((s.next : Nat) : Int)]
def edV (s : Ede) : Value := .agg #[.int .i64 s.ph, .bool s.cuts, .int .u64 ((s.link : Nat) : Int), .int .u64 ((s.at_ : Nat) : Int), .int .u64 ((s.key : Nat) : Int), .int .u64 ((s.val : Nat) : Int), .int .u64 ((s.hash : Nat) : Int), .int .u64 ((s.next : Nat) : Int)]
/-- What is asked for: a kind, a place, a word. -/
def needE (s : Ede) : Nat → Int × Nat × Nat
  | 0 => (2, posL s.at_ 0, s.key)
  | 1 => (2, posL s.at_ 1, s.val)
  | 2 => (2, posL s.at_ 3, s.hash)
  | 3 => (2, posL s.at_ 2, s.next)
  | 4 => (1, posL s.at_ 2, 0)
  | _ => (2, posL s.link 0, if s.cuts = true then s.next else s.at_)
abbrev ac4 (x : Int × Nat × Nat) : Array Value := #[.int .i64 x.1, .int .i64 ((x.2.1 : Nat) : Int), .int .u64 0, .int .u64 ((x.2.2 : Nat) : Int)]
theorem store_result {W : World} {b : Nat} {v0 v1 v2 v3 : Value} {tmps : Array Value} (h : W.heap[b]? = some (.cells #[v0, v1, v2, v3] 115 (0, 0))) (hp : tmps[6]?.getD undef = .pointer (some ⟨b, 0, none⟩)) :
    (results Tryz.f106 tmps).run Tryz.prog W = .ok (.agg #[v0, v1, v2, v3]) W := by
  have h0 := cell_laid (i := 0) (v := v0) h rfl
  have h1 := cell_laid (i := 1) (v := v1) h rfl
  have h2 := cell_laid (i := 2) (v := v2) h rfl
  have h3 := cell_laid (i := 3) (v := v3) h rfl
  simp [results, Tryz.results106, go_sem, hp, h0, h1, h2, h3]
set_option maxRecDepth 100000 in
theorem store_any (a w v : Nat) (V : World) (ha : a < 18446744073709551616) (hw : w ≤ 100) : Calls Tryz.prog 106 #[.int .u64 ((a : Nat) : Int), .int .i64 ((w : Nat) : Int), .int .u64 ((v : Nat) : Int)] V (Ret (.agg (ac4 (2, posL a w, v))) V) := by
  obtain ⟨V2, hV2, hb2, hs2, hl2⟩ := laid V #[.int .i64 0, .int .i64 0, .int .u64 0, .int .u64 0] 115
  obtain ⟨Y, hY⟩ : ∃ Y, V.heap.size = Y := ⟨_, rfl⟩
  rw [hY] at hl2
  have LY := hid (show V.heap.size ≤ Y from by omega)
  have HA := hid (at_any a w V2 ha (by omega))
  obtain ⟨V3, hV3, hl3, hb3⟩ := put4 hl2 (.int .i64 2) (.int .i64 ((posL a w : Nat) : Int)) (.int .u64 0) (.int .u64 ((v : Nat) : Int))
  have HV3 := hid hV3
  have HL3 := hid hl3
  have HB3 := hid (hb3.2 _ _ LY.out hb2)
  have f0 := free_laid (i := 0) hl2
  have c0 := cell_laid (i := 0) hl2 rfl
  have f1 := free_laid (i := 1) hl2
  have c1 := cell_laid (i := 1) hl2 rfl
  have f2 := free_laid (i := 2) hl2
  have c2 := cell_laid (i := 2) hl2 rfl
  have f3 := free_laid (i := 3) hl2
  have c3 := cell_laid (i := 3) hl2 rfl
  clear hb2 hs2 hl2 hl3 hb3 hV3 ha hw
  go_enter Tryz.func106, Tryz.ntmps106
  go_wp2_with fail
  refine HA.out.mono ?_
  rintro e W ⟨rfl, hw⟩
  subst hw
  go_wp2
  rw [← HV3.out]
  refine bodyPost_ret (store_result HL3.out rfl) rfl ?_
  exact ⟨rfl, HB3.out⟩
theorem ned0_result {W : World} {b : Nat} {v0 v1 v2 v3 : Value} {tmps : Array Value} (h : W.heap[b]? = some (.cells #[v0, v1, v2, v3] 115 (0, 0))) (hp : tmps[2]?.getD undef = .pointer (some ⟨b, 0, none⟩)) :
    (results Tryz.f105 tmps).run Tryz.prog W = .ok (.agg #[v0, v1, v2, v3]) W := by
  have h0 := cell_laid (i := 0) (v := v0) h rfl
  have h1 := cell_laid (i := 1) (v := v1) h rfl
  have h2 := cell_laid (i := 2) (v := v2) h rfl
  have h3 := cell_laid (i := 3) (v := v3) h rfl
  simp [results, Tryz.results105, go_sem, hp, h0, h1, h2, h3]
theorem ned1_result {W : World} {b : Nat} {v0 v1 v2 v3 : Value} {tmps : Array Value} (h : W.heap[b]? = some (.cells #[v0, v1, v2, v3] 115 (0, 0))) (hp : tmps[2]?.getD undef = .pointer (some ⟨b, 0, none⟩)) :
    (results Tryz.f107 tmps).run Tryz.prog W = .ok (.agg #[v0, v1, v2, v3]) W := by
  have h0 := cell_laid (i := 0) (v := v0) h rfl
  have h1 := cell_laid (i := 1) (v := v1) h rfl
  have h2 := cell_laid (i := 2) (v := v2) h rfl
  have h3 := cell_laid (i := 3) (v := v3) h rfl
  simp [results, Tryz.results107, go_sem, hp, h0, h1, h2, h3]
theorem ned2_result {W : World} {b : Nat} {v0 v1 v2 v3 : Value} {tmps : Array Value} (h : W.heap[b]? = some (.cells #[v0, v1, v2, v3] 115 (0, 0))) (hp : tmps[2]?.getD undef = .pointer (some ⟨b, 0, none⟩)) :
    (results Tryz.f108 tmps).run Tryz.prog W = .ok (.agg #[v0, v1, v2, v3]) W := by
  have h0 := cell_laid (i := 0) (v := v0) h rfl
  have h1 := cell_laid (i := 1) (v := v1) h rfl
  have h2 := cell_laid (i := 2) (v := v2) h rfl
  have h3 := cell_laid (i := 3) (v := v3) h rfl
  simp [results, Tryz.results108, go_sem, hp, h0, h1, h2, h3]
theorem ned3_result {W : World} {b : Nat} {v0 v1 v2 v3 : Value} {tmps : Array Value} (h : W.heap[b]? = some (.cells #[v0, v1, v2, v3] 115 (0, 0))) (hp : tmps[2]?.getD undef = .pointer (some ⟨b, 0, none⟩)) :
    (results Tryz.f109 tmps).run Tryz.prog W = .ok (.agg #[v0, v1, v2, v3]) W := by
  have h0 := cell_laid (i := 0) (v := v0) h rfl
  have h1 := cell_laid (i := 1) (v := v1) h rfl
  have h2 := cell_laid (i := 2) (v := v2) h rfl
  have h3 := cell_laid (i := 3) (v := v3) h rfl
  simp [results, Tryz.results109, go_sem, hp, h0, h1, h2, h3]
theorem ned4_result {W : World} {b : Nat} {v0 v1 v2 v3 : Value} {tmps : Array Value} (h : W.heap[b]? = some (.cells #[v0, v1, v2, v3] 115 (0, 0))) (hp : tmps[2]?.getD undef = .pointer (some ⟨b, 0, none⟩)) :
    (results Tryz.f110 tmps).run Tryz.prog W = .ok (.agg #[v0, v1, v2, v3]) W := by
  have h0 := cell_laid (i := 0) (v := v0) h rfl
  have h1 := cell_laid (i := 1) (v := v1) h rfl
  have h2 := cell_laid (i := 2) (v := v2) h rfl
  have h3 := cell_laid (i := 3) (v := v3) h rfl
  simp [results, Tryz.results110, go_sem, hp, h0, h1, h2, h3]
theorem ned5_result {W : World} {b : Nat} {v0 v1 v2 v3 : Value} {tmps : Array Value} (h : W.heap[b]? = some (.cells #[v0, v1, v2, v3] 115 (0, 0))) (hp : tmps[2]?.getD undef = .pointer (some ⟨b, 0, none⟩)) :
    (results Tryz.f112 tmps).run Tryz.prog W = .ok (.agg #[v0, v1, v2, v3]) W := by
  have h0 := cell_laid (i := 0) (v := v0) h rfl
  have h1 := cell_laid (i := 1) (v := v1) h rfl
  have h2 := cell_laid (i := 2) (v := v2) h rfl
  have h3 := cell_laid (i := 3) (v := v3) h rfl
  simp [results, Tryz.results112, go_sem, hp, h0, h1, h2, h3]
set_option maxRecDepth 100000 in
theorem ned0_any (s : Ede) (V : World) (hs : s.Ok) : Calls Tryz.prog 105 #[edV s] V (Ret (.agg (ac4 (needE s 0))) V) := by
  obtain ⟨ph, cuts, link, at_, key, val, hash, next⟩ := s
  have HAT := hid hs.at_
  dsimp only at HAT
  obtain ⟨V1, hV1, hb1, hs1, hl1⟩ := laid V #[.int .i64 ph, .bool cuts, .int .u64 ((link : Nat) : Int), .int .u64 ((at_ : Nat) : Int), .int .u64 ((key : Nat) : Int), .int .u64 ((val : Nat) : Int), .int .u64 ((hash : Nat) : Int), .int .u64 ((next : Nat) : Int)] 97
  obtain ⟨X, hX⟩ : ∃ X, V.heap.size = X := ⟨_, rfl⟩
  rw [hX] at hl1
  obtain ⟨V2, hV2, hb2, hs2, hl2⟩ := laid V1 #[.int .i64 0, .int .i64 0, .int .u64 0, .int .u64 0] 115
  obtain ⟨Y, hY⟩ : ∃ Y, V1.heap.size = Y := ⟨_, rfl⟩
  rw [hY] at hl2
  have HLX := hid (keep_laid hl1 hb2)
  have LY := hid (show V.heap.size ≤ Y from by have := hb1.size; omega)
  have LY1 := hid (show Y < V2.heap.size from lt_laid hl2)
  have HB2 := hid (hb1.trans (hb2.mono hb1.size))
  have HL2 := hid hl2
  have e0 := cell_laid (i := 0) HLX.out rfl
  have e1 := cell_laid (i := 1) HLX.out rfl
  have e2 := cell_laid (i := 2) HLX.out rfl
  have e3 := cell_laid (i := 3) HLX.out rfl
  have e4 := cell_laid (i := 4) HLX.out rfl
  have e5 := cell_laid (i := 5) HLX.out rfl
  have e6 := cell_laid (i := 6) HLX.out rfl
  have e7 := cell_laid (i := 7) HLX.out rfl
  have HA := hid (store_any at_ 0 key V2 HAT.out (by decide))
  unfold ac4 at HA
  dsimp only at HA
  unfold edV
  clear hb1 hs1 hl1 hb2 hs2 hl2 hs
  dsimp only
  go_enter Tryz.func105, Tryz.ntmps105
  go_wp2_with fail
  refine HA.out.mono ?_
  rintro e W ⟨rfl, hw⟩
  have HW := hid (keep_laid HL2.out hw)
  have HBW := hid (HB2.out.trans (hw.mono HB2.out.size))
  clear hw
  obtain ⟨W3, hW3, hl3, hb3⟩ := put4 HW.out (.int .i64 2) (.int .i64 ((posL at_ 0 : Nat) : Int)) (.int .u64 0) (.int .u64 ((key : Nat) : Int))
  have HV3 := hid hW3
  have HL3 := hid hl3
  have HB3 := hid (hb3.2 _ _ LY.out HBW.out)
  have f0 := free_laid (i := 0) HW.out
  have c0 := cell_laid (i := 0) HW.out rfl
  have f1 := free_laid (i := 1) HW.out
  have c1 := cell_laid (i := 1) HW.out rfl
  have f2 := free_laid (i := 2) HW.out
  have c2 := cell_laid (i := 2) HW.out rfl
  have f3 := free_laid (i := 3) HW.out
  have c3 := cell_laid (i := 3) HW.out rfl
  clear hl3 hb3 hW3
  go_wp2
  rw [← HV3.out]
  refine bodyPost_ret (ned0_result HL3.out rfl) rfl ?_
  exact ⟨rfl, HB3.out⟩
set_option maxRecDepth 100000 in
theorem ned1_any (s : Ede) (V : World) (hs : s.Ok) : Calls Tryz.prog 107 #[edV s] V (Ret (.agg (ac4 (needE s 1))) V) := by
  obtain ⟨ph, cuts, link, at_, key, val, hash, next⟩ := s
  have HAT := hid hs.at_
  dsimp only at HAT
  obtain ⟨V1, hV1, hb1, hs1, hl1⟩ := laid V #[.int .i64 ph, .bool cuts, .int .u64 ((link : Nat) : Int), .int .u64 ((at_ : Nat) : Int), .int .u64 ((key : Nat) : Int), .int .u64 ((val : Nat) : Int), .int .u64 ((hash : Nat) : Int), .int .u64 ((next : Nat) : Int)] 97
  obtain ⟨X, hX⟩ : ∃ X, V.heap.size = X := ⟨_, rfl⟩
  rw [hX] at hl1
  obtain ⟨V2, hV2, hb2, hs2, hl2⟩ := laid V1 #[.int .i64 0, .int .i64 0, .int .u64 0, .int .u64 0] 115
  obtain ⟨Y, hY⟩ : ∃ Y, V1.heap.size = Y := ⟨_, rfl⟩
  rw [hY] at hl2
  have HLX := hid (keep_laid hl1 hb2)
  have LY := hid (show V.heap.size ≤ Y from by have := hb1.size; omega)
  have LY1 := hid (show Y < V2.heap.size from lt_laid hl2)
  have HB2 := hid (hb1.trans (hb2.mono hb1.size))
  have HL2 := hid hl2
  have e0 := cell_laid (i := 0) HLX.out rfl
  have e1 := cell_laid (i := 1) HLX.out rfl
  have e2 := cell_laid (i := 2) HLX.out rfl
  have e3 := cell_laid (i := 3) HLX.out rfl
  have e4 := cell_laid (i := 4) HLX.out rfl
  have e5 := cell_laid (i := 5) HLX.out rfl
  have e6 := cell_laid (i := 6) HLX.out rfl
  have e7 := cell_laid (i := 7) HLX.out rfl
  have HA := hid (store_any at_ 1 val V2 HAT.out (by decide))
  unfold ac4 at HA
  dsimp only at HA
  unfold edV
  clear hb1 hs1 hl1 hb2 hs2 hl2 hs
  dsimp only
  go_enter Tryz.func107, Tryz.ntmps107
  go_wp2_with fail
  refine HA.out.mono ?_
  rintro e W ⟨rfl, hw⟩
  have HW := hid (keep_laid HL2.out hw)
  have HBW := hid (HB2.out.trans (hw.mono HB2.out.size))
  clear hw
  obtain ⟨W3, hW3, hl3, hb3⟩ := put4 HW.out (.int .i64 2) (.int .i64 ((posL at_ 1 : Nat) : Int)) (.int .u64 0) (.int .u64 ((val : Nat) : Int))
  have HV3 := hid hW3
  have HL3 := hid hl3
  have HB3 := hid (hb3.2 _ _ LY.out HBW.out)
  have f0 := free_laid (i := 0) HW.out
  have c0 := cell_laid (i := 0) HW.out rfl
  have f1 := free_laid (i := 1) HW.out
  have c1 := cell_laid (i := 1) HW.out rfl
  have f2 := free_laid (i := 2) HW.out
  have c2 := cell_laid (i := 2) HW.out rfl
  have f3 := free_laid (i := 3) HW.out
  have c3 := cell_laid (i := 3) HW.out rfl
  clear hl3 hb3 hW3
  go_wp2
  rw [← HV3.out]
  refine bodyPost_ret (ned1_result HL3.out rfl) rfl ?_
  exact ⟨rfl, HB3.out⟩
set_option maxRecDepth 100000 in
theorem ned2_any (s : Ede) (V : World) (hs : s.Ok) : Calls Tryz.prog 108 #[edV s] V (Ret (.agg (ac4 (needE s 2))) V) := by
  obtain ⟨ph, cuts, link, at_, key, val, hash, next⟩ := s
  have HAT := hid hs.at_
  dsimp only at HAT
  obtain ⟨V1, hV1, hb1, hs1, hl1⟩ := laid V #[.int .i64 ph, .bool cuts, .int .u64 ((link : Nat) : Int), .int .u64 ((at_ : Nat) : Int), .int .u64 ((key : Nat) : Int), .int .u64 ((val : Nat) : Int), .int .u64 ((hash : Nat) : Int), .int .u64 ((next : Nat) : Int)] 97
  obtain ⟨X, hX⟩ : ∃ X, V.heap.size = X := ⟨_, rfl⟩
  rw [hX] at hl1
  obtain ⟨V2, hV2, hb2, hs2, hl2⟩ := laid V1 #[.int .i64 0, .int .i64 0, .int .u64 0, .int .u64 0] 115
  obtain ⟨Y, hY⟩ : ∃ Y, V1.heap.size = Y := ⟨_, rfl⟩
  rw [hY] at hl2
  have HLX := hid (keep_laid hl1 hb2)
  have LY := hid (show V.heap.size ≤ Y from by have := hb1.size; omega)
  have LY1 := hid (show Y < V2.heap.size from lt_laid hl2)
  have HB2 := hid (hb1.trans (hb2.mono hb1.size))
  have HL2 := hid hl2
  have e0 := cell_laid (i := 0) HLX.out rfl
  have e1 := cell_laid (i := 1) HLX.out rfl
  have e2 := cell_laid (i := 2) HLX.out rfl
  have e3 := cell_laid (i := 3) HLX.out rfl
  have e4 := cell_laid (i := 4) HLX.out rfl
  have e5 := cell_laid (i := 5) HLX.out rfl
  have e6 := cell_laid (i := 6) HLX.out rfl
  have e7 := cell_laid (i := 7) HLX.out rfl
  have HA := hid (store_any at_ 3 hash V2 HAT.out (by decide))
  unfold ac4 at HA
  dsimp only at HA
  unfold edV
  clear hb1 hs1 hl1 hb2 hs2 hl2 hs
  dsimp only
  go_enter Tryz.func108, Tryz.ntmps108
  go_wp2_with fail
  refine HA.out.mono ?_
  rintro e W ⟨rfl, hw⟩
  have HW := hid (keep_laid HL2.out hw)
  have HBW := hid (HB2.out.trans (hw.mono HB2.out.size))
  clear hw
  obtain ⟨W3, hW3, hl3, hb3⟩ := put4 HW.out (.int .i64 2) (.int .i64 ((posL at_ 3 : Nat) : Int)) (.int .u64 0) (.int .u64 ((hash : Nat) : Int))
  have HV3 := hid hW3
  have HL3 := hid hl3
  have HB3 := hid (hb3.2 _ _ LY.out HBW.out)
  have f0 := free_laid (i := 0) HW.out
  have c0 := cell_laid (i := 0) HW.out rfl
  have f1 := free_laid (i := 1) HW.out
  have c1 := cell_laid (i := 1) HW.out rfl
  have f2 := free_laid (i := 2) HW.out
  have c2 := cell_laid (i := 2) HW.out rfl
  have f3 := free_laid (i := 3) HW.out
  have c3 := cell_laid (i := 3) HW.out rfl
  clear hl3 hb3 hW3
  go_wp2
  rw [← HV3.out]
  refine bodyPost_ret (ned2_result HL3.out rfl) rfl ?_
  exact ⟨rfl, HB3.out⟩
set_option maxRecDepth 100000 in
theorem ned3_any (s : Ede) (V : World) (hs : s.Ok) : Calls Tryz.prog 109 #[edV s] V (Ret (.agg (ac4 (needE s 3))) V) := by
  obtain ⟨ph, cuts, link, at_, key, val, hash, next⟩ := s
  have HAT := hid hs.at_
  dsimp only at HAT
  obtain ⟨V1, hV1, hb1, hs1, hl1⟩ := laid V #[.int .i64 ph, .bool cuts, .int .u64 ((link : Nat) : Int), .int .u64 ((at_ : Nat) : Int), .int .u64 ((key : Nat) : Int), .int .u64 ((val : Nat) : Int), .int .u64 ((hash : Nat) : Int), .int .u64 ((next : Nat) : Int)] 97
  obtain ⟨X, hX⟩ : ∃ X, V.heap.size = X := ⟨_, rfl⟩
  rw [hX] at hl1
  obtain ⟨V2, hV2, hb2, hs2, hl2⟩ := laid V1 #[.int .i64 0, .int .i64 0, .int .u64 0, .int .u64 0] 115
  obtain ⟨Y, hY⟩ : ∃ Y, V1.heap.size = Y := ⟨_, rfl⟩
  rw [hY] at hl2
  have HLX := hid (keep_laid hl1 hb2)
  have LY := hid (show V.heap.size ≤ Y from by have := hb1.size; omega)
  have LY1 := hid (show Y < V2.heap.size from lt_laid hl2)
  have HB2 := hid (hb1.trans (hb2.mono hb1.size))
  have HL2 := hid hl2
  have e0 := cell_laid (i := 0) HLX.out rfl
  have e1 := cell_laid (i := 1) HLX.out rfl
  have e2 := cell_laid (i := 2) HLX.out rfl
  have e3 := cell_laid (i := 3) HLX.out rfl
  have e4 := cell_laid (i := 4) HLX.out rfl
  have e5 := cell_laid (i := 5) HLX.out rfl
  have e6 := cell_laid (i := 6) HLX.out rfl
  have e7 := cell_laid (i := 7) HLX.out rfl
  have HA := hid (store_any at_ 2 next V2 HAT.out (by decide))
  unfold ac4 at HA
  dsimp only at HA
  unfold edV
  clear hb1 hs1 hl1 hb2 hs2 hl2 hs
  dsimp only
  go_enter Tryz.func109, Tryz.ntmps109
  go_wp2_with fail
  refine HA.out.mono ?_
  rintro e W ⟨rfl, hw⟩
  have HW := hid (keep_laid HL2.out hw)
  have HBW := hid (HB2.out.trans (hw.mono HB2.out.size))
  clear hw
  obtain ⟨W3, hW3, hl3, hb3⟩ := put4 HW.out (.int .i64 2) (.int .i64 ((posL at_ 2 : Nat) : Int)) (.int .u64 0) (.int .u64 ((next : Nat) : Int))
  have HV3 := hid hW3
  have HL3 := hid hl3
  have HB3 := hid (hb3.2 _ _ LY.out HBW.out)
  have f0 := free_laid (i := 0) HW.out
  have c0 := cell_laid (i := 0) HW.out rfl
  have f1 := free_laid (i := 1) HW.out
  have c1 := cell_laid (i := 1) HW.out rfl
  have f2 := free_laid (i := 2) HW.out
  have c2 := cell_laid (i := 2) HW.out rfl
  have f3 := free_laid (i := 3) HW.out
  have c3 := cell_laid (i := 3) HW.out rfl
  clear hl3 hb3 hW3
  go_wp2
  rw [← HV3.out]
  refine bodyPost_ret (ned3_result HL3.out rfl) rfl ?_
  exact ⟨rfl, HB3.out⟩
set_option maxRecDepth 100000 in
theorem ned4_any (s : Ede) (V : World) (hs : s.Ok) : Calls Tryz.prog 110 #[edV s] V (Ret (.agg (ac4 (needE s 4))) V) := by
  obtain ⟨ph, cuts, link, at_, key, val, hash, next⟩ := s
  have HAT := hid hs.at_
  dsimp only at HAT
  obtain ⟨V1, hV1, hb1, hs1, hl1⟩ := laid V #[.int .i64 ph, .bool cuts, .int .u64 ((link : Nat) : Int), .int .u64 ((at_ : Nat) : Int), .int .u64 ((key : Nat) : Int), .int .u64 ((val : Nat) : Int), .int .u64 ((hash : Nat) : Int), .int .u64 ((next : Nat) : Int)] 97
  obtain ⟨X, hX⟩ : ∃ X, V.heap.size = X := ⟨_, rfl⟩
  rw [hX] at hl1
  obtain ⟨V2, hV2, hb2, hs2, hl2⟩ := laid V1 #[.int .i64 0, .int .i64 0, .int .u64 0, .int .u64 0] 115
  obtain ⟨Y, hY⟩ : ∃ Y, V1.heap.size = Y := ⟨_, rfl⟩
  rw [hY] at hl2
  have HLX := hid (keep_laid hl1 hb2)
  have LY := hid (show V.heap.size ≤ Y from by have := hb1.size; omega)
  have LY1 := hid (show Y < V2.heap.size from lt_laid hl2)
  have HB2 := hid (hb1.trans (hb2.mono hb1.size))
  have HL2 := hid hl2
  have e0 := cell_laid (i := 0) HLX.out rfl
  have e1 := cell_laid (i := 1) HLX.out rfl
  have e2 := cell_laid (i := 2) HLX.out rfl
  have e3 := cell_laid (i := 3) HLX.out rfl
  have e4 := cell_laid (i := 4) HLX.out rfl
  have e5 := cell_laid (i := 5) HLX.out rfl
  have e6 := cell_laid (i := 6) HLX.out rfl
  have e7 := cell_laid (i := 7) HLX.out rfl
  have HA := hid (at_any at_ 2 V2 HAT.out (by decide))
  unfold edV
  clear hb1 hs1 hl1 hb2 hs2 hl2 hs
  dsimp only
  go_enter Tryz.func110, Tryz.ntmps110
  go_wp2_with fail
  refine HA.out.mono ?_
  rintro e W ⟨rfl, hw⟩
  subst hw
  have HW := hid HL2.out
  have HBW := hid HB2.out
  obtain ⟨W3, hW3, hl3, hb3⟩ := put4 HW.out (.int .i64 1) (.int .i64 ((posL at_ 2 : Nat) : Int)) (.int .u64 0) (.int .u64 0)
  have HV3 := hid hW3
  have HL3 := hid hl3
  have HB3 := hid (hb3.2 _ _ LY.out HBW.out)
  have f0 := free_laid (i := 0) HW.out
  have c0 := cell_laid (i := 0) HW.out rfl
  have f1 := free_laid (i := 1) HW.out
  have c1 := cell_laid (i := 1) HW.out rfl
  have f2 := free_laid (i := 2) HW.out
  have c2 := cell_laid (i := 2) HW.out rfl
  have f3 := free_laid (i := 3) HW.out
  have c3 := cell_laid (i := 3) HW.out rfl
  clear hl3 hb3 hW3
  go_wp2
  rw [← HV3.out]
  refine bodyPost_ret (ned4_result HL3.out rfl) rfl ?_
  exact ⟨rfl, HB3.out⟩
set_option maxRecDepth 100000 in
theorem ned5t_any (s : Ede) (V : World) (hs : s.Ok) (hc : s.cuts = true) : Calls Tryz.prog 112 #[edV s] V (Ret (.agg (ac4 (needE s 5))) V) := by
  obtain ⟨ph, cuts, link, at_, key, val, hash, next⟩ := s
  obtain rfl : cuts = true := hc
  have HAT := hid hs.link
  dsimp only at HAT
  obtain ⟨V1, hV1, hb1, hs1, hl1⟩ := laid V #[.int .i64 ph, .bool true, .int .u64 ((link : Nat) : Int), .int .u64 ((at_ : Nat) : Int), .int .u64 ((key : Nat) : Int), .int .u64 ((val : Nat) : Int), .int .u64 ((hash : Nat) : Int), .int .u64 ((next : Nat) : Int)] 97
  obtain ⟨X, hX⟩ : ∃ X, V.heap.size = X := ⟨_, rfl⟩
  rw [hX] at hl1
  obtain ⟨V2, hV2, hb2, hs2, hl2⟩ := laid V1 #[.int .i64 0, .int .i64 0, .int .u64 0, .int .u64 0] 115
  obtain ⟨Y, hY⟩ : ∃ Y, V1.heap.size = Y := ⟨_, rfl⟩
  rw [hY] at hl2
  have HLX := hid (keep_laid hl1 hb2)
  have LY := hid (show V.heap.size ≤ Y from by have := hb1.size; omega)
  have LY1 := hid (show Y < V2.heap.size from lt_laid hl2)
  have HB2 := hid (hb1.trans (hb2.mono hb1.size))
  have HL2 := hid hl2
  have e0 := cell_laid (i := 0) HLX.out rfl
  have e1 := cell_laid (i := 1) HLX.out rfl
  have e2 := cell_laid (i := 2) HLX.out rfl
  have e3 := cell_laid (i := 3) HLX.out rfl
  have e4 := cell_laid (i := 4) HLX.out rfl
  have e5 := cell_laid (i := 5) HLX.out rfl
  have e6 := cell_laid (i := 6) HLX.out rfl
  have e7 := cell_laid (i := 7) HLX.out rfl
  have HA := hid (store_any link 0 next V2 HAT.out (by decide))
  unfold ac4 at HA
  dsimp only at HA
  unfold edV
  clear hb1 hs1 hl1 hb2 hs2 hl2 hs
  dsimp only
  go_enter Tryz.func112, Tryz.ntmps112
  go_wp2_with fail
  refine HA.out.mono ?_
  rintro e W ⟨rfl, hw⟩
  have HW := hid (keep_laid HL2.out hw)
  have HBW := hid (HB2.out.trans (hw.mono HB2.out.size))
  clear hw
  obtain ⟨W3, hW3, hl3, hb3⟩ := put4 HW.out (.int .i64 2) (.int .i64 ((posL link 0 : Nat) : Int)) (.int .u64 0) (.int .u64 ((next : Nat) : Int))
  have HV3 := hid hW3
  have HL3 := hid hl3
  have HB3 := hid (hb3.2 _ _ LY.out HBW.out)
  have f0 := free_laid (i := 0) HW.out
  have c0 := cell_laid (i := 0) HW.out rfl
  have f1 := free_laid (i := 1) HW.out
  have c1 := cell_laid (i := 1) HW.out rfl
  have f2 := free_laid (i := 2) HW.out
  have c2 := cell_laid (i := 2) HW.out rfl
  have f3 := free_laid (i := 3) HW.out
  have c3 := cell_laid (i := 3) HW.out rfl
  clear hl3 hb3 hW3
  go_wp2
  rw [← HV3.out]
  refine bodyPost_ret (ned5_result HL3.out rfl) rfl ?_
  exact ⟨rfl, HB3.out⟩
set_option maxRecDepth 100000 in
theorem ned5f_any (s : Ede) (V : World) (hs : s.Ok) (hc : s.cuts = false) : Calls Tryz.prog 112 #[edV s] V (Ret (.agg (ac4 (needE s 5))) V) := by
  obtain ⟨ph, cuts, link, at_, key, val, hash, next⟩ := s
  obtain rfl : cuts = false := hc
  have HAT := hid hs.link
  dsimp only at HAT
  obtain ⟨V1, hV1, hb1, hs1, hl1⟩ := laid V #[.int .i64 ph, .bool false, .int .u64 ((link : Nat) : Int), .int .u64 ((at_ : Nat) : Int), .int .u64 ((key : Nat) : Int), .int .u64 ((val : Nat) : Int), .int .u64 ((hash : Nat) : Int), .int .u64 ((next : Nat) : Int)] 97
  obtain ⟨X, hX⟩ : ∃ X, V.heap.size = X := ⟨_, rfl⟩
  rw [hX] at hl1
  obtain ⟨V2, hV2, hb2, hs2, hl2⟩ := laid V1 #[.int .i64 0, .int .i64 0, .int .u64 0, .int .u64 0] 115
  obtain ⟨Y, hY⟩ : ∃ Y, V1.heap.size = Y := ⟨_, rfl⟩
  rw [hY] at hl2
  have HLX := hid (keep_laid hl1 hb2)
  have LY := hid (show V.heap.size ≤ Y from by have := hb1.size; omega)
  have LY1 := hid (show Y < V2.heap.size from lt_laid hl2)
  have HB2 := hid (hb1.trans (hb2.mono hb1.size))
  have HL2 := hid hl2
  have e0 := cell_laid (i := 0) HLX.out rfl
  have e1 := cell_laid (i := 1) HLX.out rfl
  have e2 := cell_laid (i := 2) HLX.out rfl
  have e3 := cell_laid (i := 3) HLX.out rfl
  have e4 := cell_laid (i := 4) HLX.out rfl
  have e5 := cell_laid (i := 5) HLX.out rfl
  have e6 := cell_laid (i := 6) HLX.out rfl
  have e7 := cell_laid (i := 7) HLX.out rfl
  have HA := hid (store_any link 0 at_ V2 HAT.out (by decide))
  unfold ac4 at HA
  dsimp only at HA
  unfold edV
  clear hb1 hs1 hl1 hb2 hs2 hl2 hs
  dsimp only
  go_enter Tryz.func112, Tryz.ntmps112
  go_wp2_with fail
  refine HA.out.mono ?_
  rintro e W ⟨rfl, hw⟩
  have HW := hid (keep_laid HL2.out hw)
  have HBW := hid (HB2.out.trans (hw.mono HB2.out.size))
  clear hw
  obtain ⟨W3, hW3, hl3, hb3⟩ := put4 HW.out (.int .i64 2) (.int .i64 ((posL link 0 : Nat) : Int)) (.int .u64 0) (.int .u64 ((at_ : Nat) : Int))
  have HV3 := hid hW3
  have HL3 := hid hl3
  have HB3 := hid (hb3.2 _ _ LY.out HBW.out)
  have f0 := free_laid (i := 0) HW.out
  have c0 := cell_laid (i := 0) HW.out rfl
  have f1 := free_laid (i := 1) HW.out
  have c1 := cell_laid (i := 1) HW.out rfl
  have f2 := free_laid (i := 2) HW.out
  have c2 := cell_laid (i := 2) HW.out rfl
  have f3 := free_laid (i := 3) HW.out
  have c3 := cell_laid (i := 3) HW.out rfl
  clear hl3 hb3 hW3
  go_wp2
  rw [← HV3.out]
  refine bodyPost_ret (ned5_result HL3.out rfl) rfl ?_
  exact ⟨rfl, HB3.out⟩
theorem ned5_any (s : Ede) (V : World) (hs : s.Ok) : Calls Tryz.prog 112 #[edV s] V (Ret (.agg (ac4 (needE s 5))) V) := by
  cases h : s.cuts with
  | true => exact ned5t_any s V hs h
  | false => exact ned5f_any s V hs h
end Go.Proofs.YtahicokokfcieaaGreatDoor
namespace Go.Proofs.YtahicokokfcieaaGreatDoor
open Go.RowKit
open Go.Proofs
set_option linter.unusedVariables false
attribute [local go_sem] Oper.semAt_some
/-- Worlds in which two variables lie so. -/
structure RXE (X S : Nat) (cs cs' : Array Value) where
  w : World
  bx : w.heap[X]? = some (.cells cs 166 (0, 0))
  bs : w.heap[S]? = some (.cells cs' 97 (0, 0))
structure RX1 (X : Nat) (cs : Array Value) where
  w : World
  bx : w.heap[X]? = some (.cells cs 166 (0, 0))
def nextE : Nat → Int
  | 0 => 1
  | 1 => 2
  | 2 => 3
  | 3 => 5
  | 4 => 5
  | _ => 6
/-- A step of who edits: the memory, who edits, whether there was one. -/
def editE (M : Mem) (s : Ede) : Mem × Ede × Bool := if 6 ≤ s.ph then (M, s, false) else
  ((stepM M (s.ph != 4) (((needE s s.ph.toNat).2.1 : Nat) : Int) (needE s s.ph.toNat).2.2).1,
    if (stepM M (s.ph != 4) (((needE s s.ph.toNat).2.1 : Nat) : Int) (needE s s.ph.toNat).2.2).2.2 = true then
      { s with ph := nextE s.ph.toNat, next := if s.ph = 4 then (stepM M (s.ph != 4) (((needE s s.ph.toNat).2.1 : Nat) : Int) (needE s s.ph.toNat).2.2).2.1 else s.next }
    else { s with ph := 7 }, true)
theorem eq_fnE (f : Nat) (w : World) : (binOp BinOp.eql 164 (.func (.func f) #[] #[]) .nilFunc).run Tryz.prog w = .ok (.bool false) w := by kernel_rfl
theorem eq_nilE (w : World) : (binOp BinOp.eql 164 .nilFunc .nilFunc).run Tryz.prog w = .ok (.bool true) w := by kernel_rfl
def GivesEd (B R S n : Nat) (X : Mem × Ede × Bool) (V : World) (e : Ending) (W : World) : Prop := e = .returned (.bool X.2.2) ∧ RunC B R X.1 (if X.2.2 = true then n + 1 else n) W ∧ W.heap[S]? = some (.cells (ed8 X.2.1) 97 (0, 0)) ∧ Tch (fun k => k = R ∨ k = S) V W
theorem needE_le {s : Ede} : ∀ k, k < 6 → (needE s k).2.1 ≤ 5000
  | 0, _ => by show min _ 4096 + _ ≤ 5000; omega
  | 1, _ => by show min _ 4096 + _ ≤ 5000; omega
  | 2, _ => by show min _ 4096 + _ ≤ 5000; omega
  | 3, _ => by show min _ 4096 + _ ≤ 5000; omega
  | 4, _ => by show min _ 4096 + _ ≤ 5000; omega
  | 5, _ => by show min _ 4096 + _ ≤ 5000; omega
theorem needE_st {s : Ede} : ∀ k, k < 6 → (needE s k).1 = if ((((k : Nat) : Int) != 4) = true) then 2 else 1
  | 0, _ => rfl
  | 1, _ => rfl
  | 2, _ => rfl
  | 3, _ => rfl
  | 4, _ => rfl
  | 5, _ => rfl
set_option maxRecDepth 100000 in
set_option maxHeartbeats 8000000 in
theorem editk_any (k fk : Nat) (nk : Int) (hk : k < 6) (ix : ∀ W, (Instr.index 167 editV (.int .i64 ((k : Nat) : Int))).run Tryz.prog W = .ok (.agg #[.func (.func fk) #[] #[], .int .i64 nk]) W) (hcf : ∀ (a : Array Value) (w : World), (callFunc fk a).run Tryz.prog w = .ok (.enter fk a) w) (hnk : nextE k = nk) (B R S : Nat) (M : Mem) (n : Nat) (s : Ede) (V : World) (hnd : ∀ W, Calls Tryz.prog fk #[edV s] W (Ret (.agg (ac4 (needE s k))) W)) (h : RunC B R M n V) (hS : V.heap[S]? = some (.cells (ed8 s) 97 (0, 0))) (hB : B ≤ V.heap.size) (hok : okM M = true) (hs : s.Ok) (hph : s.ph = ((k : Nat) : Int)) (hn : n ≤ 1000000) :
    Calls Tryz.prog 91 #[.pointer (some ⟨R, 0, none⟩), .pointer (some ⟨S, 0, none⟩)] V (GivesEd B R S n (editE M s) V) := by
  obtain ⟨ph, cuts, link, at_, key, val, hash, next⟩ := s
  obtain rfl : ph = ((k : Nat) : Int) := hph
  have HR := hid h
  have HS := hid hS
  have HSK := hid hs
  obtain ⟨TB, hTB⟩ : ∃ T, editV = T := ⟨_, rfl⟩
  have HTB := hid hTB
  have HSG : Hid (∀ W, Calls Tryz.prog 89 #[] W (Ret TB W)) := hid (fun W => by rw [← hTB]; exact edg_any W)
  rw [hTB] at ix
  have r0 : ∀ z : Ext V, z.v.cell? ⟨S, 0, none⟩ = some (.int .i64 ((k : Nat) : Int)) := fun z => cell_laid (keep_laid HS.out z.b) rfl
  have r1 : ∀ z : Ext V, z.v.cell? ⟨S, 1, none⟩ = some (.bool cuts) := fun z => cell_laid (keep_laid HS.out z.b) rfl
  have r2 : ∀ z : Ext V, z.v.cell? ⟨S, 2, none⟩ = some (.int .u64 ((link : Nat) : Int)) := fun z => cell_laid (keep_laid HS.out z.b) rfl
  have r3 : ∀ z : Ext V, z.v.cell? ⟨S, 3, none⟩ = some (.int .u64 ((at_ : Nat) : Int)) := fun z => cell_laid (keep_laid HS.out z.b) rfl
  have r4 : ∀ z : Ext V, z.v.cell? ⟨S, 4, none⟩ = some (.int .u64 ((key : Nat) : Int)) := fun z => cell_laid (keep_laid HS.out z.b) rfl
  have r5 : ∀ z : Ext V, z.v.cell? ⟨S, 5, none⟩ = some (.int .u64 ((val : Nat) : Int)) := fun z => cell_laid (keep_laid HS.out z.b) rfl
  have r6 : ∀ z : Ext V, z.v.cell? ⟨S, 6, none⟩ = some (.int .u64 ((hash : Nat) : Int)) := fun z => cell_laid (keep_laid HS.out z.b) rfl
  have r7 : ∀ z : Ext V, z.v.cell? ⟨S, 7, none⟩ = some (.int .u64 ((next : Nat) : Int)) := fun z => cell_laid (keep_laid HS.out z.b) rfl
  obtain ⟨D, hD⟩ : ∃ DX, V.drew = DX := ⟨_, rfl⟩
  have hbD : Below V.heap.size V D := by rw [← hD]; exact (Below.refl _ _).drew
  have HD := hid hD
  have HBD := hid hbD
  have HOK := hid hok
  clear h hS hD hbD hTB hs hok
  go_enter Tryz.func91, Tryz.ntmps91
  go_upto_region 1 with (fail)
  go_cut [5] (fun t5 W => ∃ X : Nat, t5 = .pointer (some ⟨X, 0, none⟩) ∧ Hid (W.heap[X]? = some (.cells #[.func (.func fk) #[] #[], .int .i64 nk] 166 (0, 0)) ∧ Below V.heap.size V W))
  case first =>
    refine wp_region_mix2 (fun W => ∃ z : Ext V, W = z.v) 8 (.q 1 (.q 2 (.q 3 (.q 4 (.h2 0 (.q 5 (.h 6 (.h 7 .done))) 6 (.h 0 (.q 5 (.h 7 .done)))))))) (by kernel_rfl) (by kernel_rfl) (by rw [HD.out]; exact ⟨⟨D, HBD.out⟩, rfl⟩) ?_
    rw [HD.out]
    repeat (refine wpMix2_q rfl rfl ?_; go_big_quiet_step (fail); refine wpQuiet_nil ?_)
    refine wpMix2_h2 ?_ ?_
    · skip
      refine wpMix2_h rfl fun R' hR' hO => ?_
      go_wp2_with fail
      refine (HSG.out D).mono ?_
      rintro e wc_ ⟨rfl, hbc⟩
      have HBc := hid (HBD.out.trans (hbc.mono HBD.out.size))
      clear hbc
      go_wp2
      refine hR' _ _ ⟨⟨wc_, HBc.out⟩, rfl⟩ ?_
      clear hR' hO R'
      repeat (refine wpMix2_q rfl rfl ?_; go_big_quiet_step (fail); refine wpQuiet_nil ?_)
      have HBwc_ := HBc
      refine wpMix2_h rfl fun R' hR' hO => ?_
      obtain ⟨wa_, hwa_, hba, hsa, hla⟩ := laid wc_ #[.nilFunc, .int .i64 0] 166
      obtain ⟨X, hX⟩ : ∃ X, wc_.heap.size = X := ⟨_, rfl⟩
      rw [hX] at hla
      have LX := hid (show V.heap.size ≤ X from by have := HBwc_.out.size; omega)
      have HBa := hid (HBwc_.out.trans (hba.mono HBwc_.out.size))
      have HXa := hid hla
      clear hba hsa hla
      go_wp2
      refine hR' _ _ ⟨⟨wa_, HBa.out⟩, rfl⟩ ?_
      clear hR' hO R'
      have HBwa_ := HBa
      have x0 := cell_laid (i := 0) HXa.out rfl
      have xf0 := free_laid (i := 0) HXa.out
      have x1 := cell_laid (i := 1) HXa.out rfl
      have xf1 := free_laid (i := 1) HXa.out
      obtain ⟨u1, hu1⟩ : ∃ U, (wa_.setCell ⟨X, 0, none⟩ (.func (.func fk) #[] #[])).setCell ⟨X, 1, none⟩ (.int .i64 nk) = U := ⟨_, rfl⟩
      have HXu : Hid (u1.heap[X]? = some (.cells #[.func (.func fk) #[] #[], .int .i64 nk] 166 (0, 0))) := hid (by rw [← hu1]; exact set_laid (i := 1) (set_laid (i := 0) HXa.out _) _)
      have HBu : Hid (Below V.heap.size V u1) := hid (by rw [← hu1]; exact (HBwa_.out.setCell (by exact LX.out) _).setCell (by exact LX.out) _)
      have HU1 := hid hu1
      clear hu1
      refine wpMix2_h rfl fun R' hR' hO => ?_
      go_wp2
      rw [HU1.out]
      refine hR' _ _ ⟨⟨u1, HBu.out⟩, rfl⟩ ?_
      clear hR' hO R' x0 xf0 x1 xf1
      refine wpMix2_done ?_
      simp only [List.drop_succ_cons, List.drop_nil]
      go_wp2
      go_meet
      exact ⟨X, rfl, hid ⟨HXu.out, HBu.out⟩⟩
    · skip
      refine wpMix2_h rfl fun R' hR' hO => ?_
      obtain ⟨wa_, hwa_, hba, hsa, hla⟩ := laid D #[.nilFunc, .int .i64 0] 166
      obtain ⟨X, hX⟩ : ∃ X, D.heap.size = X := ⟨_, rfl⟩
      rw [hX] at hla
      have LX := hid (show V.heap.size ≤ X from by have := HBD.out.size; omega)
      have HBa := hid (HBD.out.trans (hba.mono HBD.out.size))
      have HXa := hid hla
      clear hba hsa hla
      go_wp2
      refine hR' _ _ ⟨⟨wa_, HBa.out⟩, rfl⟩ ?_
      clear hR' hO R'
      have HBwa_ := HBa
      refine wpMix2_h rfl fun R' hR' hO => ?_
      go_wp2_with fail
      refine (HSG.out wa_).mono ?_
      rintro e wc_ ⟨rfl, hbc⟩
      have HBc := hid (HBwa_.out.trans (hbc.mono HBwa_.out.size))
      have HXc := hid (keep_laid HXa.out hbc)
      clear hbc
      go_wp2
      refine hR' _ _ ⟨⟨wc_, HBc.out⟩, rfl⟩ ?_
      clear hR' hO R'
      repeat (refine wpMix2_q rfl rfl ?_; go_big_quiet_step (fail); refine wpQuiet_nil ?_)
      have HBwc_ := HBc
      have x0 := cell_laid (i := 0) HXc.out rfl
      have xf0 := free_laid (i := 0) HXc.out
      have x1 := cell_laid (i := 1) HXc.out rfl
      have xf1 := free_laid (i := 1) HXc.out
      obtain ⟨u1, hu1⟩ : ∃ U, (wc_.setCell ⟨X, 0, none⟩ (.func (.func fk) #[] #[])).setCell ⟨X, 1, none⟩ (.int .i64 nk) = U := ⟨_, rfl⟩
      have HXu : Hid (u1.heap[X]? = some (.cells #[.func (.func fk) #[] #[], .int .i64 nk] 166 (0, 0))) := hid (by rw [← hu1]; exact set_laid (i := 1) (set_laid (i := 0) HXc.out _) _)
      have HBu : Hid (Below V.heap.size V u1) := hid (by rw [← hu1]; exact (HBwc_.out.setCell (by exact LX.out) _).setCell (by exact LX.out) _)
      have HU1 := hid hu1
      clear hu1
      refine wpMix2_h rfl fun R' hR' hO => ?_
      go_wp2
      rw [HU1.out]
      refine hR' _ _ ⟨⟨u1, HBu.out⟩, rfl⟩ ?_
      clear hR' hO R' x0 xf0 x1 xf1
      refine wpMix2_done ?_
      simp only [List.drop_succ_cons, List.drop_nil]
      go_wp2
      go_meet
      exact ⟨X, rfl, hid ⟨HXu.out, HBu.out⟩⟩
  case rest =>
    obtain ⟨X, rfl, hcc⟩ := hcut
    obtain ⟨w1, hw1⟩ : ∃ W, W = wc := ⟨_, rfl⟩
    subst hw1
    have HX := hid hcc.out.1
    have HR1 := hid (HR.out.grow hcc.out.2)
    have HS1 := hid (keep_laid HS.out hcc.out.2)
    have HT1 := hid (Tch.of_below (P := fun k => k = R ∨ k = S) hcc.out.2)
    have hBw : B ≤ w1.heap.size := Nat.le_trans hB hcc.out.2.size
    have x0 := cell_laid (i := 0) HX.out rfl
    have q1 := eq_fnE
    clear hcc
    go_upto_region 4 with (fail)
    obtain ⟨⟨kd, ps, nw⟩, hnx⟩ : ∃ q, needE ⟨((k : Nat) : Int), cuts, link, at_, key, val, hash, next⟩ k = q := ⟨_, rfl⟩
    obtain ⟨⟨M', x, d⟩, hX⟩ : ∃ X, stepM M (((k : Nat) : Int) != 4) ((ps : Nat) : Int) nw = X := ⟨_, rfl⟩
    have HSE : Hid (editE M ⟨((k : Nat) : Int), cuts, link, at_, key, val, hash, next⟩ = (M', (if d = true then (⟨nk, cuts, link, at_, key, val, hash, if ((k : Nat) : Int) = 4 then x else next⟩ : Ede) else (⟨7, cuts, link, at_, key, val, hash, next⟩ : Ede)), true)) := hid (by
      unfold editE
      rw [if_neg (by dsimp only; omega)]
      dsimp only
      rw [Int.toNat_natCast, hnx]
      dsimp only
      rw [hX, hnk])
    have HAC : Hid (∀ W, RunC B R M n W → B ≤ W.heap.size → Calls Tryz.prog 113 #[.pointer (some ⟨R, 0, none⟩), .agg (ac4 (kd, ps, nw))] W (GivesAc B R n (M', x, d) W)) := hid (fun W h1 h2 => by
      have e1 := needE_le (s := ⟨((k : Nat) : Int), cuts, link, at_, key, val, hash, next⟩) k hk
      have e2 := needE_st (s := ⟨((k : Nat) : Int), cuts, link, at_, key, val, hash, next⟩) k hk
      rw [hnx] at e1 e2
      dsimp only at e1 e2
      have := access_any B R M n (((k : Nat) : Int) != 4) kd ((ps : Nat) : Int) nw W h1 h2 HOK.out (by omega) e2 hn
      rw [hX] at this
      exact this)
    obtain ⟨D2, hD2⟩ : ∃ DX, w1.drew = DX := ⟨_, rfl⟩
    have hbD : Below w1.heap.size w1 D2 := by rw [← hD2]; exact (Below.refl _ _).drew
    have HD2 := hid hD2
    have HX2 := hid (keep_laid HX.out hbD)
    have HS2 := hid (keep_laid HS1.out hbD)
    have HR2 := hid (HR1.out.grow hbD)
    have HT2 := hid (HT1.out.trans (Tch.of_below hbD))
    have hB2 := Nat.le_trans hBw hbD.size
    have HND := hid (hnd D2)
    unfold edV at HND
    rw [hnx] at HND
    dsimp only at HND
    clear hnd hnx
    clear hD2 hbD hX x0 q1
    haveI : Nonempty (RXE X S #[.func (.func fk) #[] #[], .int .i64 nk] (ed8 ⟨((k : Nat) : Int), cuts, link, at_, key, val, hash, next⟩)) := ⟨⟨D2, HX2.out, HS2.out⟩⟩
    have x0 : ∀ z : RXE X S #[.func (.func fk) #[] #[], .int .i64 nk] (ed8 ⟨((k : Nat) : Int), cuts, link, at_, key, val, hash, next⟩), z.w.cell? ⟨X, 0, none⟩ = some (.func (.func fk) #[] #[]) := fun z => cell_laid z.bx rfl
    have s0 : ∀ z : RXE X S #[.func (.func fk) #[] #[], .int .i64 nk] (ed8 ⟨((k : Nat) : Int), cuts, link, at_, key, val, hash, next⟩), z.w.cell? ⟨S, 0, none⟩ = some (.int .i64 ((k : Nat) : Int)) := fun z => cell_laid z.bs rfl
    have s1 : ∀ z : RXE X S #[.func (.func fk) #[] #[], .int .i64 nk] (ed8 ⟨((k : Nat) : Int), cuts, link, at_, key, val, hash, next⟩), z.w.cell? ⟨S, 1, none⟩ = some (.bool cuts) := fun z => cell_laid z.bs rfl
    have s2 : ∀ z : RXE X S #[.func (.func fk) #[] #[], .int .i64 nk] (ed8 ⟨((k : Nat) : Int), cuts, link, at_, key, val, hash, next⟩), z.w.cell? ⟨S, 2, none⟩ = some (.int .u64 ((link : Nat) : Int)) := fun z => cell_laid z.bs rfl
    have s3 : ∀ z : RXE X S #[.func (.func fk) #[] #[], .int .i64 nk] (ed8 ⟨((k : Nat) : Int), cuts, link, at_, key, val, hash, next⟩), z.w.cell? ⟨S, 3, none⟩ = some (.int .u64 ((at_ : Nat) : Int)) := fun z => cell_laid z.bs rfl
    have s4 : ∀ z : RXE X S #[.func (.func fk) #[] #[], .int .i64 nk] (ed8 ⟨((k : Nat) : Int), cuts, link, at_, key, val, hash, next⟩), z.w.cell? ⟨S, 4, none⟩ = some (.int .u64 ((key : Nat) : Int)) := fun z => cell_laid z.bs rfl
    have s5 : ∀ z : RXE X S #[.func (.func fk) #[] #[], .int .i64 nk] (ed8 ⟨((k : Nat) : Int), cuts, link, at_, key, val, hash, next⟩), z.w.cell? ⟨S, 5, none⟩ = some (.int .u64 ((val : Nat) : Int)) := fun z => cell_laid z.bs rfl
    have s6 : ∀ z : RXE X S #[.func (.func fk) #[] #[], .int .i64 nk] (ed8 ⟨((k : Nat) : Int), cuts, link, at_, key, val, hash, next⟩), z.w.cell? ⟨S, 6, none⟩ = some (.int .u64 ((hash : Nat) : Int)) := fun z => cell_laid z.bs rfl
    have s7 : ∀ z : RXE X S #[.func (.func fk) #[] #[], .int .i64 nk] (ed8 ⟨((k : Nat) : Int), cuts, link, at_, key, val, hash, next⟩), z.w.cell? ⟨S, 7, none⟩ = some (.int .u64 ((next : Nat) : Int)) := fun z => cell_laid z.bs rfl
    refine wp_region_mix2 (fun W => ∃ z : RXE X S #[.func (.func fk) #[] #[], .int .i64 nk] (ed8 ⟨((k : Nat) : Int), cuts, link, at_, key, val, hash, next⟩), W = z.w) 13 (.q 0 (.q 1 (.q 2 (.q 3 (.q 4 (.q 5 (.h 6 (.h 7 (.q 8 (.q 9 (.q 10 (.q 11 (.q 12 .done))))))))))))) (by kernel_rfl) (by kernel_rfl) (by rw [HD2.out]; exact ⟨⟨D2, HX2.out, HS2.out⟩, rfl⟩) ?_
    rw [HD2.out]
    repeat (refine wpMix2_q rfl rfl ?_; go_big_quiet_step (fail); refine wpQuiet_nil ?_)
    refine wpMix2_h rfl fun R' hR' hO => ?_
    go_wp2_with fail
    refine HND.out.mono ?_
    rintro e v1 ⟨rfl, hb⟩
    have HX3 := hid (keep_laid HX2.out hb)
    have HS3 := hid (keep_laid HS2.out hb)
    have HR3 := hid (HR2.out.grow hb)
    have HT3 := hid (HT2.out.trans (Tch.of_below hb))
    have hB3 := Nat.le_trans hB2 hb.size
    clear hb
    go_wp2
    refine hR' _ _ ⟨⟨v1, HX3.out, HS3.out⟩, rfl⟩ ?_
    clear hR' hO R'
    repeat (refine wpMix2_q rfl rfl ?_; go_big_quiet_step (fail); refine wpQuiet_nil ?_)
    refine wpMix2_h rfl fun R' hR' hO => ?_
    go_wp2_with fail
    refine (HAC.out v1 HR3.out hB3).mono ?_
    rintro e v2 ⟨rfl, hr4, ht4⟩
    have hRX : X ≠ R := by obtain ⟨_, _, _, _, k, _⟩ := HR3.out; exact type_ne HX3.out k (by decide)
    have hRS : S ≠ R := by obtain ⟨_, _, _, _, k, _⟩ := HR3.out; exact type_ne HS3.out k (by decide)
    have HX4 := hid (ht4.keep HX3.out hRX)
    have HS4 := hid (ht4.keep HS3.out hRS)
    have HR4 := hid hr4
    have HT4 := hid (HT3.out.trans (ht4.mono fun k h => .inl h))
    clear hr4 ht4
    go_wp2
    refine hR' _ _ ⟨⟨v2, HX4.out, HS4.out⟩, rfl⟩ ?_
    clear hR' hO R'
    repeat (refine wpMix2_q rfl rfl ?_; go_big_quiet_step (fail); refine wpQuiet_nil ?_)
    refine wpMix2_done ?_
    simp only [List.drop_succ_cons, List.drop_nil]
    clear x0 s0 s1 s2 s3 s4 s5 s6 s7
    cases d with
    | true =>
      by_cases hk4 : k = 4
      · skip
        have hXS : X ≠ S := type_ne HX4.out HS4.out (by decide)
        have y0 := cell_laid (i := 0) HS4.out rfl
        have t4 : (((k : Nat) : Int) == 4) = true := by simp; omega
        have hk4i : ((k : Nat) : Int) = 4 := by omega
        clear hk4
        go_upto_region 9 with (fail)
        obtain ⟨D3, hD3⟩ : ∃ DX, v2.drew = DX := ⟨_, rfl⟩
        have hbD3 : Below v2.heap.size v2 D3 := by rw [← hD3]; exact (Below.refl _ _).drew
        have HD3 := hid hD3
        have HX5 := hid (keep_laid HX4.out hbD3)
        have HS5 := hid (keep_laid HS4.out hbD3)
        have HR5 := hid (HR4.out.grow hbD3)
        have HT5 := hid (HT4.out.trans (Tch.of_below hbD3))
        clear hbD3 hD3 y0 t4
        obtain ⟨U1, hU1⟩ : ∃ U, D3.setCell ⟨S, 7, none⟩ (.int .u64 ((x : Nat) : Int)) = U := ⟨_, rfl⟩
        have HS6 : Hid (U1.heap[S]? = some (.cells #[.int .i64 ((k : Nat) : Int), .bool cuts, .int .u64 ((link : Nat) : Int), .int .u64 ((at_ : Nat) : Int), .int .u64 ((key : Nat) : Int), .int .u64 ((val : Nat) : Int), .int .u64 ((hash : Nat) : Int), .int .u64 ((x : Nat) : Int)] 97 (0, 0))) := hid (by rw [← hU1]; exact set_laid (i := 7) HS5.out _)
        have HX6 : Hid (U1.heap[X]? = some (.cells #[.func (.func fk) #[] #[], .int .i64 nk] 166 (0, 0))) := hid (by rw [← hU1]; exact (Tch.set (P := fun k => k = S) rfl _).keep HX5.out hXS)
        obtain ⟨U2, hU2⟩ : ∃ U, U1.setCell ⟨S, 0, none⟩ (.int .i64 nk) = U := ⟨_, rfl⟩
        have HS7 : Hid (U2.heap[S]? = some (.cells #[.int .i64 nk, .bool cuts, .int .u64 ((link : Nat) : Int), .int .u64 ((at_ : Nat) : Int), .int .u64 ((key : Nat) : Int), .int .u64 ((val : Nat) : Int), .int .u64 ((hash : Nat) : Int), .int .u64 ((x : Nat) : Int)] 97 (0, 0))) := hid (by rw [← hU2]; exact set_laid (i := 0) HS6.out _)
        have HX7 : Hid (U2.heap[X]? = some (.cells #[.func (.func fk) #[] #[], .int .i64 nk] 166 (0, 0))) := hid (by rw [← hU2]; exact (Tch.set (P := fun k => k = S) rfl _).keep HX6.out hXS)
        have HT7 : Hid (Tch (fun k => k = S) D3 U2) := hid (by rw [← hU2, ← hU1]; exact (Tch.set (P := fun k => k = S) rfl _).trans (Tch.set (P := fun k => k = S) rfl _))
        have HU1 := hid hU1
        have HU2 := hid hU2
        have yf7 := free_laid (i := 7) HS5.out
        have yf0 := free_laid (i := 0) HS6.out
        have yc7 := cell_laid (i := 7) HS5.out rfl
        have yc0 := cell_laid (i := 0) HS6.out rfl
        clear hU1 hU2
        haveI : Nonempty (RX1 X #[.func (.func fk) #[] #[], .int .i64 nk]) := ⟨⟨D3, HX5.out⟩⟩
        have x1 : ∀ z : RX1 X #[.func (.func fk) #[] #[], .int .i64 nk], z.w.cell? ⟨X, 1, none⟩ = some (.int .i64 nk) := fun z => cell_laid z.bx rfl
        refine wp_region_mix2 (fun W => ∃ z : RX1 X #[.func (.func fk) #[] #[], .int .i64 nk], W = z.w) 11 (.q 0 (.q 1 (.q 2 (.q 3 (.q 4 (.q 5 (.q 6 (.h 7 (.q 8 (.q 9 (.h 10 .done))))))))))) (by kernel_rfl) (by kernel_rfl) (by rw [HD3.out]; exact ⟨⟨D3, HX5.out⟩, rfl⟩) ?_
        rw [HD3.out]
        repeat (refine wpMix2_q rfl rfl ?_; go_big_quiet_step (fail); refine wpQuiet_nil ?_)
        refine wpMix2_h rfl fun R' hR' hO => ?_
        go_wp2
        rw [HU1.out]
        refine hR' _ _ ⟨⟨U1, HX6.out⟩, rfl⟩ ?_
        clear hR' hO R'
        repeat (refine wpMix2_q rfl rfl ?_; go_big_quiet_step (fail); refine wpQuiet_nil ?_)
        refine wpMix2_h rfl fun R' hR' hO => ?_
        go_wp2
        rw [HU2.out]
        refine hR' _ _ ⟨⟨U2, HX7.out⟩, rfl⟩ ?_
        clear hR' hO R'
        refine wpMix2_done ?_
        simp only [List.drop_succ_cons, List.drop_nil]
        go_wp2
        go_ret
        rw [HSE.out, if_pos (by trivial), if_pos hk4i]
        exact ⟨rfl, HR5.out.tch (S := S) HT7.out HS5.out (by decide) (by decide) (by decide), HS7.out, HT5.out.trans (HT7.out.mono fun k h => .inr h)⟩
      · skip
        have t4 : (((k : Nat) : Int) == 4) = false := by simp; omega
        have hk4i : ¬ ((k : Nat) : Int) = 4 := by omega
        clear hk4
        have x1 := cell_laid (i := 1) HX4.out rfl
        have y0 := cell_laid (i := 0) HS4.out rfl
        have yf0 := free_laid (i := 0) HS4.out
        go_wp2
        go_ret
        rw [HSE.out, if_pos (by trivial), if_neg hk4i]
        exact ⟨rfl, HR4.out.tch (S := S) (Tch.set (P := fun k => k = S) rfl _) HS4.out (by decide) (by decide) (by decide), set_laid (i := 0) HS4.out (.int .i64 nk), HT4.out.trans (Tch.set (P := fun k => k = R ∨ k = S) (.inr rfl) _)⟩
    | false =>
      have y0 := cell_laid (i := 0) HS4.out rfl
      have yf0 := free_laid (i := 0) HS4.out
      go_wp2
      go_ret
      rw [HSE.out, if_neg (by simp)]
      exact ⟨rfl, HR4.out.tch (S := S) (Tch.set (P := fun k => k = S) rfl _) HS4.out (by decide) (by decide) (by decide), set_laid (i := 0) HS4.out (.int .i64 7), HT4.out.trans (Tch.set (P := fun k => k = R ∨ k = S) (.inr rfl) _)⟩
set_option maxRecDepth 100000 in
set_option maxHeartbeats 8000000 in
theorem editn_any (k : Nat) (hk : 6 ≤ k) (ix : ∀ W, (Instr.index 167 editV (.int .i64 ((k : Nat) : Int))).run Tryz.prog W = .ok (.agg #[.nilFunc, .int .i64 0]) W) (B R S : Nat) (M : Mem) (n : Nat) (s : Ede) (V : World) (h : RunC B R M n V) (hS : V.heap[S]? = some (.cells (ed8 s) 97 (0, 0))) (hB : B ≤ V.heap.size) (hok : okM M = true) (hs : s.Ok) (hph : s.ph = ((k : Nat) : Int)) (hn : n ≤ 1000000) :
    Calls Tryz.prog 91 #[.pointer (some ⟨R, 0, none⟩), .pointer (some ⟨S, 0, none⟩)] V (GivesEd B R S n (editE M s) V) := by
  obtain ⟨ph, cuts, link, at_, key, val, hash, next⟩ := s
  obtain rfl : ph = ((k : Nat) : Int) := hph
  have HR := hid h
  have HS := hid hS
  have HSK := hid hs
  obtain ⟨TB, hTB⟩ : ∃ T, editV = T := ⟨_, rfl⟩
  have HTB := hid hTB
  have HSG : Hid (∀ W, Calls Tryz.prog 89 #[] W (Ret TB W)) := hid (fun W => by rw [← hTB]; exact edg_any W)
  rw [hTB] at ix
  have r0 : ∀ z : Ext V, z.v.cell? ⟨S, 0, none⟩ = some (.int .i64 ((k : Nat) : Int)) := fun z => cell_laid (keep_laid HS.out z.b) rfl
  have r1 : ∀ z : Ext V, z.v.cell? ⟨S, 1, none⟩ = some (.bool cuts) := fun z => cell_laid (keep_laid HS.out z.b) rfl
  have r2 : ∀ z : Ext V, z.v.cell? ⟨S, 2, none⟩ = some (.int .u64 ((link : Nat) : Int)) := fun z => cell_laid (keep_laid HS.out z.b) rfl
  have r3 : ∀ z : Ext V, z.v.cell? ⟨S, 3, none⟩ = some (.int .u64 ((at_ : Nat) : Int)) := fun z => cell_laid (keep_laid HS.out z.b) rfl
  have r4 : ∀ z : Ext V, z.v.cell? ⟨S, 4, none⟩ = some (.int .u64 ((key : Nat) : Int)) := fun z => cell_laid (keep_laid HS.out z.b) rfl
  have r5 : ∀ z : Ext V, z.v.cell? ⟨S, 5, none⟩ = some (.int .u64 ((val : Nat) : Int)) := fun z => cell_laid (keep_laid HS.out z.b) rfl
  have r6 : ∀ z : Ext V, z.v.cell? ⟨S, 6, none⟩ = some (.int .u64 ((hash : Nat) : Int)) := fun z => cell_laid (keep_laid HS.out z.b) rfl
  have r7 : ∀ z : Ext V, z.v.cell? ⟨S, 7, none⟩ = some (.int .u64 ((next : Nat) : Int)) := fun z => cell_laid (keep_laid HS.out z.b) rfl
  obtain ⟨D, hD⟩ : ∃ DX, V.drew = DX := ⟨_, rfl⟩
  have hbD : Below V.heap.size V D := by rw [← hD]; exact (Below.refl _ _).drew
  have HD := hid hD
  have HBD := hid hbD
  clear h hS hD hbD hTB hs
  go_enter Tryz.func91, Tryz.ntmps91
  go_upto_region 1 with (fail)
  go_cut [5] (fun t5 W => ∃ X : Nat, t5 = .pointer (some ⟨X, 0, none⟩) ∧ Hid (W.heap[X]? = some (.cells #[.nilFunc, .int .i64 0] 166 (0, 0)) ∧ Below V.heap.size V W))
  case first =>
    refine wp_region_mix2 (fun W => ∃ z : Ext V, W = z.v) 8 (.q 1 (.q 2 (.q 3 (.q 4 (.h2 0 (.q 5 (.h 6 (.h 7 .done))) 6 (.h 0 (.q 5 (.h 7 .done)))))))) (by kernel_rfl) (by kernel_rfl) (by rw [HD.out]; exact ⟨⟨D, HBD.out⟩, rfl⟩) ?_
    rw [HD.out]
    repeat (refine wpMix2_q rfl rfl ?_; go_big_quiet_step (fail); refine wpQuiet_nil ?_)
    refine wpMix2_h2 ?_ ?_
    · skip
      refine wpMix2_h rfl fun R' hR' hO => ?_
      go_wp2_with fail
      refine (HSG.out D).mono ?_
      rintro e wc_ ⟨rfl, hbc⟩
      have HBc := hid (HBD.out.trans (hbc.mono HBD.out.size))
      clear hbc
      go_wp2
      refine hR' _ _ ⟨⟨wc_, HBc.out⟩, rfl⟩ ?_
      clear hR' hO R'
      repeat (refine wpMix2_q rfl rfl ?_; go_big_quiet_step (fail); refine wpQuiet_nil ?_)
      have HBwc_ := HBc
      refine wpMix2_h rfl fun R' hR' hO => ?_
      obtain ⟨wa_, hwa_, hba, hsa, hla⟩ := laid wc_ #[.nilFunc, .int .i64 0] 166
      obtain ⟨X, hX⟩ : ∃ X, wc_.heap.size = X := ⟨_, rfl⟩
      rw [hX] at hla
      have LX := hid (show V.heap.size ≤ X from by have := HBwc_.out.size; omega)
      have HBa := hid (HBwc_.out.trans (hba.mono HBwc_.out.size))
      have HXa := hid hla
      clear hba hsa hla
      go_wp2
      refine hR' _ _ ⟨⟨wa_, HBa.out⟩, rfl⟩ ?_
      clear hR' hO R'
      have HBwa_ := HBa
      have x0 := cell_laid (i := 0) HXa.out rfl
      have xf0 := free_laid (i := 0) HXa.out
      have x1 := cell_laid (i := 1) HXa.out rfl
      have xf1 := free_laid (i := 1) HXa.out
      obtain ⟨u1, hu1⟩ : ∃ U, (wa_.setCell ⟨X, 0, none⟩ (.nilFunc)).setCell ⟨X, 1, none⟩ (.int .i64 0) = U := ⟨_, rfl⟩
      have HXu : Hid (u1.heap[X]? = some (.cells #[.nilFunc, .int .i64 0] 166 (0, 0))) := hid (by rw [← hu1]; exact set_laid (i := 1) (set_laid (i := 0) HXa.out _) _)
      have HBu : Hid (Below V.heap.size V u1) := hid (by rw [← hu1]; exact (HBwa_.out.setCell (by exact LX.out) _).setCell (by exact LX.out) _)
      have HU1 := hid hu1
      clear hu1
      refine wpMix2_h rfl fun R' hR' hO => ?_
      go_wp2
      rw [HU1.out]
      refine hR' _ _ ⟨⟨u1, HBu.out⟩, rfl⟩ ?_
      clear hR' hO R' x0 xf0 x1 xf1
      refine wpMix2_done ?_
      simp only [List.drop_succ_cons, List.drop_nil]
      go_wp2
      go_meet
      exact ⟨X, rfl, hid ⟨HXu.out, HBu.out⟩⟩
    · skip
      refine wpMix2_h rfl fun R' hR' hO => ?_
      obtain ⟨wa_, hwa_, hba, hsa, hla⟩ := laid D #[.nilFunc, .int .i64 0] 166
      obtain ⟨X, hX⟩ : ∃ X, D.heap.size = X := ⟨_, rfl⟩
      rw [hX] at hla
      have LX := hid (show V.heap.size ≤ X from by have := HBD.out.size; omega)
      have HBa := hid (HBD.out.trans (hba.mono HBD.out.size))
      have HXa := hid hla
      clear hba hsa hla
      go_wp2
      refine hR' _ _ ⟨⟨wa_, HBa.out⟩, rfl⟩ ?_
      clear hR' hO R'
      have HBwa_ := HBa
      refine wpMix2_h rfl fun R' hR' hO => ?_
      go_wp2_with fail
      refine (HSG.out wa_).mono ?_
      rintro e wc_ ⟨rfl, hbc⟩
      have HBc := hid (HBwa_.out.trans (hbc.mono HBwa_.out.size))
      have HXc := hid (keep_laid HXa.out hbc)
      clear hbc
      go_wp2
      refine hR' _ _ ⟨⟨wc_, HBc.out⟩, rfl⟩ ?_
      clear hR' hO R'
      repeat (refine wpMix2_q rfl rfl ?_; go_big_quiet_step (fail); refine wpQuiet_nil ?_)
      have HBwc_ := HBc
      have x0 := cell_laid (i := 0) HXc.out rfl
      have xf0 := free_laid (i := 0) HXc.out
      have x1 := cell_laid (i := 1) HXc.out rfl
      have xf1 := free_laid (i := 1) HXc.out
      obtain ⟨u1, hu1⟩ : ∃ U, (wc_.setCell ⟨X, 0, none⟩ (.nilFunc)).setCell ⟨X, 1, none⟩ (.int .i64 0) = U := ⟨_, rfl⟩
      have HXu : Hid (u1.heap[X]? = some (.cells #[.nilFunc, .int .i64 0] 166 (0, 0))) := hid (by rw [← hu1]; exact set_laid (i := 1) (set_laid (i := 0) HXc.out _) _)
      have HBu : Hid (Below V.heap.size V u1) := hid (by rw [← hu1]; exact (HBwc_.out.setCell (by exact LX.out) _).setCell (by exact LX.out) _)
      have HU1 := hid hu1
      clear hu1
      refine wpMix2_h rfl fun R' hR' hO => ?_
      go_wp2
      rw [HU1.out]
      refine hR' _ _ ⟨⟨u1, HBu.out⟩, rfl⟩ ?_
      clear hR' hO R' x0 xf0 x1 xf1
      refine wpMix2_done ?_
      simp only [List.drop_succ_cons, List.drop_nil]
      go_wp2
      go_meet
      exact ⟨X, rfl, hid ⟨HXu.out, HBu.out⟩⟩
  case rest =>
    obtain ⟨X, rfl, hcc⟩ := hcut
    obtain ⟨w1, hw1⟩ : ∃ W, W = wc := ⟨_, rfl⟩
    subst hw1
    have HX := hid hcc.out.1
    have HR1 := hid (HR.out.grow hcc.out.2)
    have HS1 := hid (keep_laid HS.out hcc.out.2)
    have HT1 := hid (Tch.of_below (P := fun k => k = R ∨ k = S) hcc.out.2)
    have hBw : B ≤ w1.heap.size := Nat.le_trans hB hcc.out.2.size
    have x0 := cell_laid (i := 0) HX.out rfl
    have q1 := eq_nilE
    clear hcc
    go_wp2
    go_ret
    rw [show editE M ⟨((k : Nat) : Int), cuts, link, at_, key, val, hash, next⟩ = (M, ⟨((k : Nat) : Int), cuts, link, at_, key, val, hash, next⟩, false) from by unfold editE; rw [if_pos (by dsimp only; omega)]]
    exact ⟨rfl, HR1.out, HS1.out, HT1.out⟩
theorem edit_any (B R S : Nat) (M : Mem) (n : Nat) (s : Ede) (V : World) (h : RunC B R M n V) (hS : V.heap[S]? = some (.cells (ed8 s) 97 (0, 0))) (hB : B ≤ V.heap.size) (hok : okM M = true) (hs : s.Ok) (hp : 0 ≤ s.ph) (hp5 : s.ph ≤ 7) (hn : n ≤ 1000000) :
    Calls Tryz.prog 91 #[.pointer (some ⟨R, 0, none⟩), .pointer (some ⟨S, 0, none⟩)] V (GivesEd B R S n (editE M s) V) := by
  rcases (show s.ph = 0 ∨ s.ph = 1 ∨ s.ph = 2 ∨ s.ph = 3 ∨ s.ph = 4 ∨ s.ph = 5 ∨ s.ph = 6 ∨ s.ph = 7 by omega) with e | e | e | e | e | e | e | e
  · exact editk_any 0 105 1 (by decide) edg_at0 (fun _ _ => by kernel_rfl) rfl B R S M n s V (fun W => ned0_any s W hs) h hS hB hok hs e hn
  · exact editk_any 1 107 2 (by decide) edg_at1 (fun _ _ => by kernel_rfl) rfl B R S M n s V (fun W => ned1_any s W hs) h hS hB hok hs e hn
  · exact editk_any 2 108 3 (by decide) edg_at2 (fun _ _ => by kernel_rfl) rfl B R S M n s V (fun W => ned2_any s W hs) h hS hB hok hs e hn
  · exact editk_any 3 109 5 (by decide) edg_at3 (fun _ _ => by kernel_rfl) rfl B R S M n s V (fun W => ned3_any s W hs) h hS hB hok hs e hn
  · exact editk_any 4 110 5 (by decide) edg_at4 (fun _ _ => by kernel_rfl) rfl B R S M n s V (fun W => ned4_any s W hs) h hS hB hok hs e hn
  · exact editk_any 5 112 6 (by decide) edg_at5 (fun _ _ => by kernel_rfl) rfl B R S M n s V (fun W => ned5_any s W hs) h hS hB hok hs e hn
  · exact editn_any 6 (by decide) edg_at6 B R S M n s V h hS hB hok hs e hn
  · exact editn_any 7 (by decide) edg_at7 B R S M n s V h hS hB hok hs e hn
end Go.Proofs.YtahicokokfcieaaGreatDoor
