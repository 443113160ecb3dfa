/- Lists (printed by gen_ls10.py): who edits. -/
import Derived.Test.YtipohagcppfgiaaGreatLs9
namespace Go.Proofs.YtipohagcppfgiaaGreat
open Go.RowKit
open Go.Proofs
set_option linter.unusedVariables false
attribute [local go_sem] Oper.semAt_some
/-- Who edits. -/
structure Ede where
 ph : Int
 cuts : Bool
 link : Nat
 at_ : Nat
 key : Nat
 val : Nat
 hash : Nat
 next : Nat
structure Ede.Ok (s : Ede) : Prop where
 ph : -9223372036854775808 ≤ s.ph ∧ s.ph ≤ 9223372036854775807
 link : s.link < 18446744073709551616
 at_ : s.at_ < 18446744073709551616
 key : s.key < 18446744073709551616
 val : s.val < 18446744073709551616
 hash : s.hash < 18446744073709551616
 next : s.next < 18446744073709551616
abbrev ed8 (s : Ede) : Array Value := #[.int .i64 s.ph, .bool s.cuts, .int .u64 s.link, .int .u64 s.at_, .int .u64 s.key, .int .u64 s.val, .int .u64 s.hash, .int .u64 s.next]
def edV (s : Ede) : Value := .agg #[.int .i64 s.ph, .bool s.cuts, .int .u64 s.link, .int .u64 s.at_, .int .u64 s.key, .int .u64 s.val, .int .u64 s.hash, .int .u64 s.next]
/-- What is asked for: a kind, a place, a word. -/
def needE (s : Ede) : Nat → Int × Nat × Nat
 | 0 => (2, posL s.at_ 0, s.key)
 | 1 => (2, posL s.at_ 1, s.val)
 | 2 => (2, posL s.at_ 3, s.hash)
 | 3 => (2, posL s.at_ 2, s.next)
 | 4 => (1, posL s.at_ 2, 0)
 | _ => (2, posL s.link 0, if s.cuts = true then s.next else s.at_)
abbrev ac4 (x : Int × Nat × Nat) : Array Value := #[.int .i64 x.1, .int .i64 x.2.1, .int .u64 0, .int .u64 x.2.2]
theorem store_result {W : World} {b : Nat} {v0 v1 v2 v3 : Value} {tmps : Array Value} (h : W.heap[b]? = some (.cells #[v0, v1, v2, v3] 112 (0, 0))) (hp : tmps[6]?.getD undef = .pointer (some ⟨b, 0, none⟩)) :
  (results Tryz.f104 tmps).run Tryz.prog W = .ok (.agg #[v0, v1, v2, v3]) W := by
 have h0 := clD (i := 0) (v := v0) h rfl
 have h1 := clD (i := 1) (v := v1) h rfl
 have h2 := clD (i := 2) (v := v2) h rfl
 have h3 := clD (i := 3) (v := v3) h rfl
 simp [results, Tryz.results104, go_sem, hp, h0, h1, h2, h3]
set_option maxRecDepth 100000 in
theorem store_any (a w v : Nat) (V : World) (ha : a < 18446744073709551616) (hw : w ≤ 100) : Calls Tryz.prog 104 #[.int .u64 a, .int .i64 w, .int .u64 v] V (Ret (.agg (ac4 (2, posL a w, v))) V) := by
 obtain ⟨V2, hV2, hb2, hs2, hl2⟩ := laid V #[.int .i64 0, .int .i64 0, .int .u64 0, .int .u64 0] 112
 obtain ⟨Y, hY⟩ := nm (V.heap.size)
 rw [hY] at hl2
 have LY := hid (show V.heap.size ≤ Y from by omega)
 have HA := hid (at_any a w V2 ha (by omega))
 obtain ⟨V3, hV3, hl3, hb3⟩ := put4 hl2 (.int .i64 2) (.int .i64 ((posL a w : Nat) : Int)) (.int .u64 0) (.int .u64 v)
 have HV3 := hid hV3
 have HL3 := hid hl3
 have HB3 := hid (hb3.2 _ _ LY.out hb2)
 have f0 := flD (i := 0) hl2
 have c0 := clD (i := 0) hl2 rfl
 have f1 := flD (i := 1) hl2
 have c1 := clD (i := 1) hl2 rfl
 have f2 := flD (i := 2) hl2
 have c2 := clD (i := 2) hl2 rfl
 have f3 := flD (i := 3) hl2
 have c3 := clD (i := 3) hl2 rfl
 clear hb2 hs2 hl2 hl3 hb3 hV3 ha hw
 go_enter Tryz.func104, Tryz.ntmps104
 go_wp2_with fail
 refine HA.out.mono ?_
 rintro e W ⟨rfl, hw⟩
 subst hw
 go_wp2
 rw [← HV3.out]
 refine bodyPost_ret (store_result HL3.out rfl) rfl ?_
 exact ⟨rfl, HB3.out⟩
theorem ned0_result {W : World} {b : Nat} {v0 v1 v2 v3 : Value} {tmps : Array Value} (h : W.heap[b]? = some (.cells #[v0, v1, v2, v3] 112 (0, 0))) (hp : tmps[2]?.getD undef = .pointer (some ⟨b, 0, none⟩)) :
  (results Tryz.f103 tmps).run Tryz.prog W = .ok (.agg #[v0, v1, v2, v3]) W := by
 have h0 := clD (i := 0) (v := v0) h rfl
 have h1 := clD (i := 1) (v := v1) h rfl
 have h2 := clD (i := 2) (v := v2) h rfl
 have h3 := clD (i := 3) (v := v3) h rfl
 simp [results, Tryz.results103, go_sem, hp, h0, h1, h2, h3]
theorem ned1_result {W : World} {b : Nat} {v0 v1 v2 v3 : Value} {tmps : Array Value} (h : W.heap[b]? = some (.cells #[v0, v1, v2, v3] 112 (0, 0))) (hp : tmps[2]?.getD undef = .pointer (some ⟨b, 0, none⟩)) :
  (results Tryz.f105 tmps).run Tryz.prog W = .ok (.agg #[v0, v1, v2, v3]) W := by
 have h0 := clD (i := 0) (v := v0) h rfl
 have h1 := clD (i := 1) (v := v1) h rfl
 have h2 := clD (i := 2) (v := v2) h rfl
 have h3 := clD (i := 3) (v := v3) h rfl
 simp [results, Tryz.results105, go_sem, hp, h0, h1, h2, h3]
theorem ned2_result {W : World} {b : Nat} {v0 v1 v2 v3 : Value} {tmps : Array Value} (h : W.heap[b]? = some (.cells #[v0, v1, v2, v3] 112 (0, 0))) (hp : tmps[2]?.getD undef = .pointer (some ⟨b, 0, none⟩)) :
  (results Tryz.f106 tmps).run Tryz.prog W = .ok (.agg #[v0, v1, v2, v3]) W := by
 have h0 := clD (i := 0) (v := v0) h rfl
 have h1 := clD (i := 1) (v := v1) h rfl
 have h2 := clD (i := 2) (v := v2) h rfl
 have h3 := clD (i := 3) (v := v3) h rfl
 simp [results, Tryz.results106, go_sem, hp, h0, h1, h2, h3]
theorem ned3_result {W : World} {b : Nat} {v0 v1 v2 v3 : Value} {tmps : Array Value} (h : W.heap[b]? = some (.cells #[v0, v1, v2, v3] 112 (0, 0))) (hp : tmps[2]?.getD undef = .pointer (some ⟨b, 0, none⟩)) :
  (results Tryz.f107 tmps).run Tryz.prog W = .ok (.agg #[v0, v1, v2, v3]) W := by
 have h0 := clD (i := 0) (v := v0) h rfl
 have h1 := clD (i := 1) (v := v1) h rfl
 have h2 := clD (i := 2) (v := v2) h rfl
 have h3 := clD (i := 3) (v := v3) h rfl
 simp [results, Tryz.results107, go_sem, hp, h0, h1, h2, h3]
theorem ned4_result {W : World} {b : Nat} {v0 v1 v2 v3 : Value} {tmps : Array Value} (h : W.heap[b]? = some (.cells #[v0, v1, v2, v3] 112 (0, 0))) (hp : tmps[2]?.getD undef = .pointer (some ⟨b, 0, none⟩)) :
  (results Tryz.f108 tmps).run Tryz.prog W = .ok (.agg #[v0, v1, v2, v3]) W := by
 have h0 := clD (i := 0) (v := v0) h rfl
 have h1 := clD (i := 1) (v := v1) h rfl
 have h2 := clD (i := 2) (v := v2) h rfl
 have h3 := clD (i := 3) (v := v3) h rfl
 simp [results, Tryz.results108, go_sem, hp, h0, h1, h2, h3]
theorem ned5_result {W : World} {b : Nat} {v0 v1 v2 v3 : Value} {tmps : Array Value} (h : W.heap[b]? = some (.cells #[v0, v1, v2, v3] 112 (0, 0))) (hp : tmps[2]?.getD undef = .pointer (some ⟨b, 0, none⟩)) :
  (results Tryz.f109 tmps).run Tryz.prog W = .ok (.agg #[v0, v1, v2, v3]) W := by
 have h0 := clD (i := 0) (v := v0) h rfl
 have h1 := clD (i := 1) (v := v1) h rfl
 have h2 := clD (i := 2) (v := v2) h rfl
 have h3 := clD (i := 3) (v := v3) h rfl
 simp [results, Tryz.results109, go_sem, hp, h0, h1, h2, h3]
set_option maxRecDepth 100000 in
theorem ned0_any (s : Ede) (V : World) (hs : s.Ok) : Calls Tryz.prog 103 #[edV s] V (Ret (.agg (ac4 (needE s 0))) V) := by
 obtain ⟨ph, cuts, link, at_, key, val, hash, next⟩ := s
 have HAT := hid hs.at_
 dsimp only at HAT
 obtain ⟨V1, hV1, hb1, hs1, hl1⟩ := laid V #[.int .i64 ph, .bool cuts, .int .u64 link, .int .u64 at_, .int .u64 key, .int .u64 val, .int .u64 hash, .int .u64 next] 44
 obtain ⟨X, hX⟩ := nm (V.heap.size)
 rw [hX] at hl1
 obtain ⟨V2, hV2, hb2, hs2, hl2⟩ := laid V1 #[.int .i64 0, .int .i64 0, .int .u64 0, .int .u64 0] 112
 obtain ⟨Y, hY⟩ := nm (V1.heap.size)
 rw [hY] at hl2
 have HLX := hid (klD hl1 hb2)
 have LY := hid (show V.heap.size ≤ Y from by have := hb1.size; omega)
 have LY1 := hid (show Y < V2.heap.size from llD hl2)
 have HB2 := hid (hb1.trans (hb2.mono hb1.size))
 have HL2 := hid hl2
 have e0 := clD (i := 0) HLX.out rfl
 have e1 := clD (i := 1) HLX.out rfl
 have e2 := clD (i := 2) HLX.out rfl
 have e3 := clD (i := 3) HLX.out rfl
 have e4 := clD (i := 4) HLX.out rfl
 have e5 := clD (i := 5) HLX.out rfl
 have e6 := clD (i := 6) HLX.out rfl
 have e7 := clD (i := 7) HLX.out rfl
 have HA := hid (store_any at_ 0 key V2 HAT.out (by decide))
 unfold ac4 at HA
 dsimp only at HA
 unfold edV
 clear hb1 hs1 hl1 hb2 hs2 hl2 hs
 dsimp only
 go_enter Tryz.func103, Tryz.ntmps103
 go_wp2_with fail
 refine HA.out.mono ?_
 rintro e W ⟨rfl, hw⟩
 have HW := hid (klD HL2.out hw)
 have HBW := hid (HB2.out.trans (hw.mono HB2.out.size))
 clear hw
 obtain ⟨W3, hW3, hl3, hb3⟩ := put4 HW.out (.int .i64 2) (.int .i64 ((posL at_ 0 : Nat) : Int)) (.int .u64 0) (.int .u64 key)
 have HV3 := hid hW3
 have HL3 := hid hl3
 have HB3 := hid (hb3.2 _ _ LY.out HBW.out)
 have f0 := flD (i := 0) HW.out
 have c0 := clD (i := 0) HW.out rfl
 have f1 := flD (i := 1) HW.out
 have c1 := clD (i := 1) HW.out rfl
 have f2 := flD (i := 2) HW.out
 have c2 := clD (i := 2) HW.out rfl
 have f3 := flD (i := 3) HW.out
 have c3 := clD (i := 3) HW.out rfl
 clear hl3 hb3 hW3
 go_wp2
 rw [← HV3.out]
 refine bodyPost_ret (ned0_result HL3.out rfl) rfl ?_
 exact ⟨rfl, HB3.out⟩
set_option maxRecDepth 100000 in
theorem ned1_any (s : Ede) (V : World) (hs : s.Ok) : Calls Tryz.prog 105 #[edV s] V (Ret (.agg (ac4 (needE s 1))) V) := by
 obtain ⟨ph, cuts, link, at_, key, val, hash, next⟩ := s
 have HAT := hid hs.at_
 dsimp only at HAT
 obtain ⟨V1, hV1, hb1, hs1, hl1⟩ := laid V #[.int .i64 ph, .bool cuts, .int .u64 link, .int .u64 at_, .int .u64 key, .int .u64 val, .int .u64 hash, .int .u64 next] 44
 obtain ⟨X, hX⟩ := nm (V.heap.size)
 rw [hX] at hl1
 obtain ⟨V2, hV2, hb2, hs2, hl2⟩ := laid V1 #[.int .i64 0, .int .i64 0, .int .u64 0, .int .u64 0] 112
 obtain ⟨Y, hY⟩ := nm (V1.heap.size)
 rw [hY] at hl2
 have HLX := hid (klD hl1 hb2)
 have LY := hid (show V.heap.size ≤ Y from by have := hb1.size; omega)
 have LY1 := hid (show Y < V2.heap.size from llD hl2)
 have HB2 := hid (hb1.trans (hb2.mono hb1.size))
 have HL2 := hid hl2
 have e0 := clD (i := 0) HLX.out rfl
 have e1 := clD (i := 1) HLX.out rfl
 have e2 := clD (i := 2) HLX.out rfl
 have e3 := clD (i := 3) HLX.out rfl
 have e4 := clD (i := 4) HLX.out rfl
 have e5 := clD (i := 5) HLX.out rfl
 have e6 := clD (i := 6) HLX.out rfl
 have e7 := clD (i := 7) HLX.out rfl
 have HA := hid (store_any at_ 1 val V2 HAT.out (by decide))
 unfold ac4 at HA
 dsimp only at HA
 unfold edV
 clear hb1 hs1 hl1 hb2 hs2 hl2 hs
 dsimp only
 go_enter Tryz.func105, Tryz.ntmps105
 go_wp2_with fail
 refine HA.out.mono ?_
 rintro e W ⟨rfl, hw⟩
 have HW := hid (klD HL2.out hw)
 have HBW := hid (HB2.out.trans (hw.mono HB2.out.size))
 clear hw
 obtain ⟨W3, hW3, hl3, hb3⟩ := put4 HW.out (.int .i64 2) (.int .i64 ((posL at_ 1 : Nat) : Int)) (.int .u64 0) (.int .u64 val)
 have HV3 := hid hW3
 have HL3 := hid hl3
 have HB3 := hid (hb3.2 _ _ LY.out HBW.out)
 have f0 := flD (i := 0) HW.out
 have c0 := clD (i := 0) HW.out rfl
 have f1 := flD (i := 1) HW.out
 have c1 := clD (i := 1) HW.out rfl
 have f2 := flD (i := 2) HW.out
 have c2 := clD (i := 2) HW.out rfl
 have f3 := flD (i := 3) HW.out
 have c3 := clD (i := 3) HW.out rfl
 clear hl3 hb3 hW3
 go_wp2
 rw [← HV3.out]
 refine bodyPost_ret (ned1_result HL3.out rfl) rfl ?_
 exact ⟨rfl, HB3.out⟩
set_option maxRecDepth 100000 in
theorem ned2_any (s : Ede) (V : World) (hs : s.Ok) : Calls Tryz.prog 106 #[edV s] V (Ret (.agg (ac4 (needE s 2))) V) := by
 obtain ⟨ph, cuts, link, at_, key, val, hash, next⟩ := s
 have HAT := hid hs.at_
 dsimp only at HAT
 obtain ⟨V1, hV1, hb1, hs1, hl1⟩ := laid V #[.int .i64 ph, .bool cuts, .int .u64 link, .int .u64 at_, .int .u64 key, .int .u64 val, .int .u64 hash, .int .u64 next] 44
 obtain ⟨X, hX⟩ := nm (V.heap.size)
 rw [hX] at hl1
 obtain ⟨V2, hV2, hb2, hs2, hl2⟩ := laid V1 #[.int .i64 0, .int .i64 0, .int .u64 0, .int .u64 0] 112
 obtain ⟨Y, hY⟩ := nm (V1.heap.size)
 rw [hY] at hl2
 have HLX := hid (klD hl1 hb2)
 have LY := hid (show V.heap.size ≤ Y from by have := hb1.size; omega)
 have LY1 := hid (show Y < V2.heap.size from llD hl2)
 have HB2 := hid (hb1.trans (hb2.mono hb1.size))
 have HL2 := hid hl2
 have e0 := clD (i := 0) HLX.out rfl
 have e1 := clD (i := 1) HLX.out rfl
 have e2 := clD (i := 2) HLX.out rfl
 have e3 := clD (i := 3) HLX.out rfl
 have e4 := clD (i := 4) HLX.out rfl
 have e5 := clD (i := 5) HLX.out rfl
 have e6 := clD (i := 6) HLX.out rfl
 have e7 := clD (i := 7) HLX.out rfl
 have HA := hid (store_any at_ 3 hash V2 HAT.out (by decide))
 unfold ac4 at HA
 dsimp only at HA
 unfold edV
 clear hb1 hs1 hl1 hb2 hs2 hl2 hs
 dsimp only
 go_enter Tryz.func106, Tryz.ntmps106
 go_wp2_with fail
 refine HA.out.mono ?_
 rintro e W ⟨rfl, hw⟩
 have HW := hid (klD HL2.out hw)
 have HBW := hid (HB2.out.trans (hw.mono HB2.out.size))
 clear hw
 obtain ⟨W3, hW3, hl3, hb3⟩ := put4 HW.out (.int .i64 2) (.int .i64 ((posL at_ 3 : Nat) : Int)) (.int .u64 0) (.int .u64 hash)
 have HV3 := hid hW3
 have HL3 := hid hl3
 have HB3 := hid (hb3.2 _ _ LY.out HBW.out)
 have f0 := flD (i := 0) HW.out
 have c0 := clD (i := 0) HW.out rfl
 have f1 := flD (i := 1) HW.out
 have c1 := clD (i := 1) HW.out rfl
 have f2 := flD (i := 2) HW.out
 have c2 := clD (i := 2) HW.out rfl
 have f3 := flD (i := 3) HW.out
 have c3 := clD (i := 3) HW.out rfl
 clear hl3 hb3 hW3
 go_wp2
 rw [← HV3.out]
 refine bodyPost_ret (ned2_result HL3.out rfl) rfl ?_
 exact ⟨rfl, HB3.out⟩
set_option maxRecDepth 100000 in
theorem ned3_any (s : Ede) (V : World) (hs : s.Ok) : Calls Tryz.prog 107 #[edV s] V (Ret (.agg (ac4 (needE s 3))) V) := by
 obtain ⟨ph, cuts, link, at_, key, val, hash, next⟩ := s
 have HAT := hid hs.at_
 dsimp only at HAT
 obtain ⟨V1, hV1, hb1, hs1, hl1⟩ := laid V #[.int .i64 ph, .bool cuts, .int .u64 link, .int .u64 at_, .int .u64 key, .int .u64 val, .int .u64 hash, .int .u64 next] 44
 obtain ⟨X, hX⟩ := nm (V.heap.size)
 rw [hX] at hl1
 obtain ⟨V2, hV2, hb2, hs2, hl2⟩ := laid V1 #[.int .i64 0, .int .i64 0, .int .u64 0, .int .u64 0] 112
 obtain ⟨Y, hY⟩ := nm (V1.heap.size)
 rw [hY] at hl2
 have HLX := hid (klD hl1 hb2)
 have LY := hid (show V.heap.size ≤ Y from by have := hb1.size; omega)
 have LY1 := hid (show Y < V2.heap.size from llD hl2)
 have HB2 := hid (hb1.trans (hb2.mono hb1.size))
 have HL2 := hid hl2
 have e0 := clD (i := 0) HLX.out rfl
 have e1 := clD (i := 1) HLX.out rfl
 have e2 := clD (i := 2) HLX.out rfl
 have e3 := clD (i := 3) HLX.out rfl
 have e4 := clD (i := 4) HLX.out rfl
 have e5 := clD (i := 5) HLX.out rfl
 have e6 := clD (i := 6) HLX.out rfl
 have e7 := clD (i := 7) HLX.out rfl
 have HA := hid (store_any at_ 2 next V2 HAT.out (by decide))
 unfold ac4 at HA
 dsimp only at HA
 unfold edV
 clear hb1 hs1 hl1 hb2 hs2 hl2 hs
 dsimp only
 go_enter Tryz.func107, Tryz.ntmps107
 go_wp2_with fail
 refine HA.out.mono ?_
 rintro e W ⟨rfl, hw⟩
 have HW := hid (klD HL2.out hw)
 have HBW := hid (HB2.out.trans (hw.mono HB2.out.size))
 clear hw
 obtain ⟨W3, hW3, hl3, hb3⟩ := put4 HW.out (.int .i64 2) (.int .i64 ((posL at_ 2 : Nat) : Int)) (.int .u64 0) (.int .u64 next)
 have HV3 := hid hW3
 have HL3 := hid hl3
 have HB3 := hid (hb3.2 _ _ LY.out HBW.out)
 have f0 := flD (i := 0) HW.out
 have c0 := clD (i := 0) HW.out rfl
 have f1 := flD (i := 1) HW.out
 have c1 := clD (i := 1) HW.out rfl
 have f2 := flD (i := 2) HW.out
 have c2 := clD (i := 2) HW.out rfl
 have f3 := flD (i := 3) HW.out
 have c3 := clD (i := 3) HW.out rfl
 clear hl3 hb3 hW3
 go_wp2
 rw [← HV3.out]
 refine bodyPost_ret (ned3_result HL3.out rfl) rfl ?_
 exact ⟨rfl, HB3.out⟩
set_option maxRecDepth 100000 in
theorem ned4_any (s : Ede) (V : World) (hs : s.Ok) : Calls Tryz.prog 108 #[edV s] V (Ret (.agg (ac4 (needE s 4))) V) := by
 obtain ⟨ph, cuts, link, at_, key, val, hash, next⟩ := s
 have HAT := hid hs.at_
 dsimp only at HAT
 obtain ⟨V1, hV1, hb1, hs1, hl1⟩ := laid V #[.int .i64 ph, .bool cuts, .int .u64 link, .int .u64 at_, .int .u64 key, .int .u64 val, .int .u64 hash, .int .u64 next] 44
 obtain ⟨X, hX⟩ := nm (V.heap.size)
 rw [hX] at hl1
 obtain ⟨V2, hV2, hb2, hs2, hl2⟩ := laid V1 #[.int .i64 0, .int .i64 0, .int .u64 0, .int .u64 0] 112
 obtain ⟨Y, hY⟩ := nm (V1.heap.size)
 rw [hY] at hl2
 have HLX := hid (klD hl1 hb2)
 have LY := hid (show V.heap.size ≤ Y from by have := hb1.size; omega)
 have LY1 := hid (show Y < V2.heap.size from llD hl2)
 have HB2 := hid (hb1.trans (hb2.mono hb1.size))
 have HL2 := hid hl2
 have e0 := clD (i := 0) HLX.out rfl
 have e1 := clD (i := 1) HLX.out rfl
 have e2 := clD (i := 2) HLX.out rfl
 have e3 := clD (i := 3) HLX.out rfl
 have e4 := clD (i := 4) HLX.out rfl
 have e5 := clD (i := 5) HLX.out rfl
 have e6 := clD (i := 6) HLX.out rfl
 have e7 := clD (i := 7) HLX.out rfl
 have HA := hid (at_any at_ 2 V2 HAT.out (by decide))
 unfold edV
 clear hb1 hs1 hl1 hb2 hs2 hl2 hs
 dsimp only
 go_enter Tryz.func108, Tryz.ntmps108
 go_wp2_with fail
 refine HA.out.mono ?_
 rintro e W ⟨rfl, hw⟩
 subst hw
 have HW := hid HL2.out
 have HBW := hid HB2.out
 obtain ⟨W3, hW3, hl3, hb3⟩ := put4 HW.out (.int .i64 1) (.int .i64 ((posL at_ 2 : Nat) : Int)) (.int .u64 0) (.int .u64 0)
 have HV3 := hid hW3
 have HL3 := hid hl3
 have HB3 := hid (hb3.2 _ _ LY.out HBW.out)
 have f0 := flD (i := 0) HW.out
 have c0 := clD (i := 0) HW.out rfl
 have f1 := flD (i := 1) HW.out
 have c1 := clD (i := 1) HW.out rfl
 have f2 := flD (i := 2) HW.out
 have c2 := clD (i := 2) HW.out rfl
 have f3 := flD (i := 3) HW.out
 have c3 := clD (i := 3) HW.out rfl
 clear hl3 hb3 hW3
 go_wp2
 rw [← HV3.out]
 refine bodyPost_ret (ned4_result HL3.out rfl) rfl ?_
 exact ⟨rfl, HB3.out⟩
set_option maxRecDepth 100000 in
theorem ned5t_any (s : Ede) (V : World) (hs : s.Ok) (hc : s.cuts = true) : Calls Tryz.prog 109 #[edV s] V (Ret (.agg (ac4 (needE s 5))) V) := by
 obtain ⟨ph, cuts, link, at_, key, val, hash, next⟩ := s
 obtain rfl : cuts = true := hc
 have HAT := hid hs.link
 dsimp only at HAT
 obtain ⟨V1, hV1, hb1, hs1, hl1⟩ := laid V #[.int .i64 ph, .bool true, .int .u64 link, .int .u64 at_, .int .u64 key, .int .u64 val, .int .u64 hash, .int .u64 next] 44
 obtain ⟨X, hX⟩ := nm (V.heap.size)
 rw [hX] at hl1
 obtain ⟨V2, hV2, hb2, hs2, hl2⟩ := laid V1 #[.int .i64 0, .int .i64 0, .int .u64 0, .int .u64 0] 112
 obtain ⟨Y, hY⟩ := nm (V1.heap.size)
 rw [hY] at hl2
 have HLX := hid (klD hl1 hb2)
 have LY := hid (show V.heap.size ≤ Y from by have := hb1.size; omega)
 have LY1 := hid (show Y < V2.heap.size from llD hl2)
 have HB2 := hid (hb1.trans (hb2.mono hb1.size))
 have HL2 := hid hl2
 have e0 := clD (i := 0) HLX.out rfl
 have e1 := clD (i := 1) HLX.out rfl
 have e2 := clD (i := 2) HLX.out rfl
 have e3 := clD (i := 3) HLX.out rfl
 have e4 := clD (i := 4) HLX.out rfl
 have e5 := clD (i := 5) HLX.out rfl
 have e6 := clD (i := 6) HLX.out rfl
 have e7 := clD (i := 7) HLX.out rfl
 have HA := hid (store_any link 0 next V2 HAT.out (by decide))
 unfold ac4 at HA
 dsimp only at HA
 unfold edV
 clear hb1 hs1 hl1 hb2 hs2 hl2 hs
 dsimp only
 go_enter Tryz.func109, Tryz.ntmps109
 go_wp2_with fail
 refine HA.out.mono ?_
 rintro e W ⟨rfl, hw⟩
 have HW := hid (klD HL2.out hw)
 have HBW := hid (HB2.out.trans (hw.mono HB2.out.size))
 clear hw
 obtain ⟨W3, hW3, hl3, hb3⟩ := put4 HW.out (.int .i64 2) (.int .i64 ((posL link 0 : Nat) : Int)) (.int .u64 0) (.int .u64 next)
 have HV3 := hid hW3
 have HL3 := hid hl3
 have HB3 := hid (hb3.2 _ _ LY.out HBW.out)
 have f0 := flD (i := 0) HW.out
 have c0 := clD (i := 0) HW.out rfl
 have f1 := flD (i := 1) HW.out
 have c1 := clD (i := 1) HW.out rfl
 have f2 := flD (i := 2) HW.out
 have c2 := clD (i := 2) HW.out rfl
 have f3 := flD (i := 3) HW.out
 have c3 := clD (i := 3) HW.out rfl
 clear hl3 hb3 hW3
 go_wp2
 rw [← HV3.out]
 refine bodyPost_ret (ned5_result HL3.out rfl) rfl ?_
 exact ⟨rfl, HB3.out⟩
set_option maxRecDepth 100000 in
theorem ned5f_any (s : Ede) (V : World) (hs : s.Ok) (hc : s.cuts = false) : Calls Tryz.prog 109 #[edV s] V (Ret (.agg (ac4 (needE s 5))) V) := by
 obtain ⟨ph, cuts, link, at_, key, val, hash, next⟩ := s
 obtain rfl : cuts = false := hc
 have HAT := hid hs.link
 dsimp only at HAT
 obtain ⟨V1, hV1, hb1, hs1, hl1⟩ := laid V #[.int .i64 ph, .bool false, .int .u64 link, .int .u64 at_, .int .u64 key, .int .u64 val, .int .u64 hash, .int .u64 next] 44
 obtain ⟨X, hX⟩ := nm (V.heap.size)
 rw [hX] at hl1
 obtain ⟨V2, hV2, hb2, hs2, hl2⟩ := laid V1 #[.int .i64 0, .int .i64 0, .int .u64 0, .int .u64 0] 112
 obtain ⟨Y, hY⟩ := nm (V1.heap.size)
 rw [hY] at hl2
 have HLX := hid (klD hl1 hb2)
 have LY := hid (show V.heap.size ≤ Y from by have := hb1.size; omega)
 have LY1 := hid (show Y < V2.heap.size from llD hl2)
 have HB2 := hid (hb1.trans (hb2.mono hb1.size))
 have HL2 := hid hl2
 have e0 := clD (i := 0) HLX.out rfl
 have e1 := clD (i := 1) HLX.out rfl
 have e2 := clD (i := 2) HLX.out rfl
 have e3 := clD (i := 3) HLX.out rfl
 have e4 := clD (i := 4) HLX.out rfl
 have e5 := clD (i := 5) HLX.out rfl
 have e6 := clD (i := 6) HLX.out rfl
 have e7 := clD (i := 7) HLX.out rfl
 have HA := hid (store_any link 0 at_ V2 HAT.out (by decide))
 unfold ac4 at HA
 dsimp only at HA
 unfold edV
 clear hb1 hs1 hl1 hb2 hs2 hl2 hs
 dsimp only
 go_enter Tryz.func109, Tryz.ntmps109
 go_wp2_with fail
 refine HA.out.mono ?_
 rintro e W ⟨rfl, hw⟩
 have HW := hid (klD HL2.out hw)
 have HBW := hid (HB2.out.trans (hw.mono HB2.out.size))
 clear hw
 obtain ⟨W3, hW3, hl3, hb3⟩ := put4 HW.out (.int .i64 2) (.int .i64 ((posL link 0 : Nat) : Int)) (.int .u64 0) (.int .u64 at_)
 have HV3 := hid hW3
 have HL3 := hid hl3
 have HB3 := hid (hb3.2 _ _ LY.out HBW.out)
 have f0 := flD (i := 0) HW.out
 have c0 := clD (i := 0) HW.out rfl
 have f1 := flD (i := 1) HW.out
 have c1 := clD (i := 1) HW.out rfl
 have f2 := flD (i := 2) HW.out
 have c2 := clD (i := 2) HW.out rfl
 have f3 := flD (i := 3) HW.out
 have c3 := clD (i := 3) HW.out rfl
 clear hl3 hb3 hW3
 go_wp2
 rw [← HV3.out]
 refine bodyPost_ret (ned5_result HL3.out rfl) rfl ?_
 exact ⟨rfl, HB3.out⟩
theorem ned5_any (s : Ede) (V : World) (hs : s.Ok) : Calls Tryz.prog 109 #[edV s] V (Ret (.agg (ac4 (needE s 5))) V) := by
 cases h : s.cuts with
 | true => exact ned5t_any s V hs h
 | false => exact ned5f_any s V hs h
end Go.Proofs.YtipohagcppfgiaaGreat
