/- The document's lists (printed by gen_lsref5.py): Words, Find, Edit. -/
import Derived.Test.YtipohagcppfgiaaGreatLsRef4
import Derived.Test.YtipohagcppfgiaaGreatLsZ
namespace Go.Proofs.YtipohagcppfgiaaGreat
open Go.RowKit
open Go.Proofs
set_option linter.unusedVariables false
attribute [local go_sem] Oper.semAt_some
structure Wd (V : World) (tk : List Nat) (v5 : Value) (W : World) : Prop where
 r5 : W.ownsRow V.heap.size 3 1 v5 tk.length (ncells tk)
 below : Below V.heap.size V W
theorem Wd.grow {V W W' : World} {tk : List Nat} {v5 : Value} (h : Wd V tk v5 W) (hb : Below W.heap.size W W') : Wd V tk v5 W' := ⟨ogr h.r5 hb, h.below.trans (hb.mono h.below.size)⟩
theorem Wd.app {V W W' : World} {q : Nat} {tk : List Nat} {v5 v5' : Value} (h : Wd V tk v5 W) (ho : W'.ownsRow V.heap.size 3 1 v5' (tk.length + 1) (ncells tk ++ [.int .i64 q])) (hg : W.grownBy W' v5.ownBlock) : Wd V (tk ++ [q]) v5' W' := by
 refine ⟨?_, h.below.trans (own_below h.r5 hg h.below.size)⟩
 rw [List.length_append, ncells_app]
 exact ho
set_option maxRecDepth 100000 in
set_option maxHeartbeats 8000000 in
theorem Words_any (head : Nat) (xs : List Nd) (a : Option Addr) (n cap : Nat) (V : World) (hh : head < 18446744073709551616) (hl : Leads V a n cap (ndcells xs)) (hn : xs.length = n) (hn5 : n ≤ 5000) (hx : ∀ x ∈ xs, x.1 < 18446744073709551616) :
  Calls Tryz.prog 27 #[.int .u64 head, .slice a n cap] V (Fresh 3 1 (wordsL head xs).length (ncells (wordsL head xs)) V) := by
 have HN := hid hn
 have HL := hid hl
 have HXS := hid hx
 have hnl := hl.len
 obtain ⟨H0, hH0⟩ := nm (posL head 0)
 have HH0 := hid hH0
 have HAH := hid (rat_any head 0 V hh (by decide))
 rw [hH0] at HAH
 clear hl hn hx hH0
 go_enter Tryz.func27, Tryz.ntmps27
 go_wp2_with fail
 refine HAH.out.mono ?_
 rintro e wq ⟨rfl, hwq⟩
 rw [hwq]
 clear hwq wq HAH
 obtain ⟨w3, hw3, hb3, hs3, hl3⟩ := laid V #[.int .i64 H0] 3
 obtain ⟨Z, hZ⟩ := nm (V.heap.size)
 rw [hZ] at hl3
 have HF4 : Hid (Wd V [H0] (.slice (some ⟨Z, 0, none⟩) 1 1) w3) := hid ⟨row_new hl3 rfl (by decide) (by omega), hb3⟩
 clear hb3 hs3 hl3
 go_upto_region 2 with (fail)
 clear hZ
 go_wp2
 go_loopg [5, 14] n (fun g t5 t14 wr => ∃ (k : Nat) (v5 : Value), g + k = n ∧ t14 = .int .i64 k ∧ v5 = t5 ∧ Hid (Wd V (wordsL head (xs.take k)) v5 wr))
 case atStart => exact ⟨0, _, rfl, rfl, rfl, hid (by have := HF4.out; unfold wordsL; rw [HH0.out]; exact this)⟩
 case round =>
  clear HF4
  obtain ⟨k, v5, hk, rfl, rfl, hF⟩ := hrel
  have HK := hid hk
  clear hk
  by_cases hlt : k < n
  ·obtain ⟨⟨p0, p1, p2, p3⟩, hp⟩ : ∃ x, xs[k]? = some x := ⟨_, List.getElem?_eq_getElem (by rw [HN.out]; exact hlt)⟩
   obtain ⟨b, off, rfl, -, hcc⟩ := HL.out.nd hlt hp
   obtain ⟨c0, c1, c2, c3⟩ := hcc wr hF.out.below
   have hp0 : p0 < 18446744073709551616 := HXS.out _ (List.mem_of_getElem? hp)
   obtain ⟨w5, hw5, hb5, hs5, hl5⟩ := laid wr #[.int .u64 0, .int .u64 0, .int .u64 0, .int .u64 0] 42
   obtain ⟨B, hB⟩ := nm (wr.heap.size)
   rw [hB] at hl5
   obtain ⟨w6, hw6, a1, a2, a3⟩ := put4 hl5 (.int .u64 p0) (.int .u64 p1) (.int .u64 p2) (.int .u64 p3)
   obtain ⟨z0, zf0, z1, zf1, z2, zf2, z3, zf3⟩ := fcl4 hl5
   have HB6 := hid a1
   have HF6 : Hid (Wd V (wordsL head (xs.take k)) v5 w6) := hid (by
    have g := hF.out.grow hb5
    exact ⟨okp g.r5 fun j o hj ho => a2 j o (by have := own_lt hF.out.r5 j hj; omega) ho, a3 _ _ (by have := hF.out.below.size; omega) g.below⟩)
   have HW6 := hid hw6
   have HTK : Hid (wordsL head (xs.take (k + 1)) = wordsL head (xs.take k) ++ [posL p0 0, posL p0 1, posL p0 2, posL p0 3]) := hid (by unfold wordsL; rw [take_snoc hp, List.flatMap_append]; simp)
   have hlen : Hid ((wordsL head (xs.take k)).length ≤ 30000) := hid (by unfold wordsL; rw [List.length_cons, flat4_len, List.length_take, HN.out]; omega)
   clear hw6 a1 a2 a3 hb5 hs5 hl5 hcc hp hF
   obtain ⟨G, hG⟩ : ∃ G, G = gk - 1 := ⟨_, rfl⟩
   have HG := hid hG
   clear hG
   go_upto_region 5 with (fail)
   rw [← HW6.out]
   clear c0 c1 c2 c3 z0 z1 z2 z3 zf0 zf1 zf2 zf3 HW6
   go_wp2
   go_loopg [5, 18] 4 (fun g t5 t18 wr => ∃ (j : Nat) (v5 : Value), g + j = 4 ∧ t18 = .int .i64 j ∧ v5 = t5 ∧ Hid (Wd V (wordsL head (xs.take k) ++ [posL p0 0, posL p0 1, posL p0 2, posL p0 3].take j) v5 wr) ∧ Hid (wr.heap[B]? = some (.cells #[.int .u64 p0, .int .u64 p1, .int .u64 p2, .int .u64 p3] 42 (0, 0))))
   case atStart => exact ⟨0, _, rfl, rfl, rfl, hid (by have := HF6.out; simpa using this), HB6⟩
   case round =>
    clear HF6 HB6
    obtain ⟨j, v5, hj, rfl, rfl, hF, hBB⟩ := hrel
    have HJ := hid hj
    clear hj
    by_cases hjt : j < 4
    ·obtain ⟨m, hm⟩ := nm ((wordsL head (xs.take k) ++ [posL p0 0, posL p0 1, posL p0 2, posL p0 3].take j).length)
     have hm6 : m ≤ 40000 := by rw [← hm, List.length_append, List.length_take]; have := hlen.out; omega
     obtain ⟨x9, y9, e9, -⟩ := Leads.of_own hF.out.r5
     rw [hm] at e9
     subst e9
     have b0 := clD (i := 0) hBB.out rfl
     obtain ⟨P, hP⟩ := nm (posL p0 j)
     have HAP := hid (fun W => rat_any p0 j W hp0 (by omega))
     rw [hP] at HAP
     have HPJ := hid (four_snoc p0 j hjt)
     rw [hP] at HPJ
     have HM := hid hm
     clear hP hm
     go_wp2_with fail
     refine (HAP.out _).mono ?_
     rintro e wq ⟨rfl, hwq⟩
     rw [hwq]
     clear hwq wq HAP
     obtain ⟨w7, hw7, hb7, hs7, hl7⟩ := laid wr #[.int .i64 P] 3
     obtain ⟨Z, hZ⟩ := nm (wr.heap.size)
     rw [hZ] at hl7
     have HLZ := hid hl7
     have HFZ := hid (hF.out.grow hb7)
     have HBZ := hid (klD hBB.out hb7)
     have HOW : Hid (w7.ownsRow V.heap.size 3 1 (.slice x9 m y9) m (ncells (wordsL head (xs.take k) ++ [posL p0 0, posL p0 1, posL p0 2, posL p0 3].take j))) := hid (by have := HFZ.out.r5; rw [HM.out] at this; exact this)
     clear hb7 hs7 hl7 b0
     go_wp2_with ((with_reducible show wpList _ _ _ _ _ _); refine waM elemInts rfl (.tmp 21) (.tmp 26) rfl V.heap.size (.slice x9 m y9) m (ncells (wordsL head (xs.take k) ++ [posL p0 0, posL p0 1, posL p0 2, posL p0 3].take j)) rfl HOW.out ⟨Z, 0, none⟩ 1 1 [.int .i64 P] rfl rfl ?c1 ?c2 ?c3 ?c4 ?c5)
     case c1 => intro j u hj; refine cell_add (o := 0) (by rw [Nat.zero_add]; exact clD HLZ.out (by simpa using hj))
     case c2 => first | (intro u hu; simp at hu; subst hu; rfl) | omega
     try (case c3 => omega)
     try (case c4 => exact HFZ.out.below.size)
     case c5 =>
      intro v' w8 ho hg hmv
      have HF8 := hid (HFZ.out.app (q := P) (v5' := v') (by rw [HM.out]; exact ho) hg)
      have HB8 := hid (kgr HBZ.out hg (own_ne HOW.out HBZ.out (by decide)))
      obtain ⟨x9', y9', e9, -⟩ := Leads.of_own ho
      subst e9
      clear ho hg hmv HFZ HLZ HOW HBZ hF hBB
      go_wp2
      go_roundg (gk - 1)
      case measure => have := HJ.out; omega
      case rel => exact ⟨j + 1, _, by have := HJ.out; omega, by go_num, rfl, hid (by have := HF8.out; rw [HPJ.out, ← List.append_assoc]; exact this), HB8⟩
    ·have e4 : j = 4 := by have := HJ.out; omega
     subst e4
     have HF9 : Hid (Wd V (wordsL head (xs.take (k + 1))) v5 wr) := hid (by have := hF.out; rw [HTK.out]; exact this)
     clear hF
     go_wp2
     go_roundg G
     case measure => have := HK.out; have := HG.out; omega
     case rel => exact ⟨k + 1, _, by have := HK.out; have := HG.out; omega, by go_num, rfl, HF9⟩
  ·have e := HK.out
   obtain rfl : k = n := by omega
   have HF5 : Hid (Wd V (wordsL head xs) v5 wr) := hid (by have := hF.out; rw [List.take_of_length_le (by rw [HN.out]; exact Nat.le_refl _)] at this; exact this)
   clear hF e HK
   go_wp2
   go_ret
   exact ⟨_, rfl, HF5.out.r5, HF5.out.below⟩
end Go.Proofs.YtipohagcppfgiaaGreat
