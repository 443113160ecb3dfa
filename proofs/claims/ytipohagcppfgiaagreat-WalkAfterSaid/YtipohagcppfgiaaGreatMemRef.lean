/- The document's answer for layer 2: which memories may be, and which are the same. -/
import Derived.Test.YtipohagcppfgiaaGreatMemClone
namespace Go.Proofs.YtipohagcppfgiaaGreat
open Go.RowKit
open Go.Proofs
set_option linter.unusedVariables false
def sameM (A B : Mem) : Bool := decide (A.W = B.W) && (decide (A.L = B.L) && decide (A.F = B.F))
theorem eq_take {α : Type} (xs ys : List α) (k : Nat) (x y : α) (h : xs.take k = ys.take k) (hx : xs[k]? = some x) (hy : ys[k]? = some y) (e : x = y) : xs.take (k + 1) = ys.take (k + 1) := by
 obtain ⟨h1, rfl⟩ := List.getElem?_eq_some_iff.1 hx
 obtain ⟨h2, rfl⟩ := List.getElem?_eq_some_iff.1 hy
 rw [List.take_succ_eq_append_getElem h1, List.take_succ_eq_append_getElem h2, h, e]
theorem ne_at {α : Type} (xs ys : List α) (k : Nat) (x y : α) (hx : xs[k]? = some x) (hy : ys[k]? = some y) (e : x ≠ y) : xs ≠ ys := by
 rintro rfl
 rw [hx] at hy
 cases hy
 exact e rfl
set_option maxRecDepth 100000 in
set_option maxHeartbeats 4000000 in
theorem RefRight_any (M : Mem) (wa la : Option Addr) (wc lc : Nat) (V : World) (h : MemL V wa wc la lc M) :
  Calls Tryz.prog 25 #[memV wa wc la lc M] V (Ret (.bool (okM M)) V) := by
 obtain ⟨V1, hV1, hb1, hs1, hl1⟩ := laid V #[.slice wa M.W.length wc, .slice la M.L.length lc, .bool M.F] 25
 obtain ⟨X, hX⟩ := nm (V.heap.size)
 rw [hX] at hl1
 obtain ⟨x0, x1, -⟩ := cells3 hl1
 have hW := h.w.grow hb1
 have hL := h.l.grow hb1
 have HB1 := hid hb1
 have hwl := h.w.len
 have hll := h.l.len
 unfold memV
 obtain ⟨n, hn⟩ := nm (M.W.length)
 obtain ⟨m, hm⟩ := nm (M.L.length)
 obtain ⟨ZZ, hZZ⟩ := nm (M.W.zip M.L)
 obtain ⟨R, hR⟩ := nm (okM M)
 have hOK : (decide (1 ≤ n) && (decide (n ≤ 4096) && (decide (m = n) && ZZ.all wordOk))) = R := by rw [← hR]; unfold okM; rw [hn, hm, hZZ]
 rw [hR]
 rw [hn] at hV1 x0 hwl hW ⊢
 rw [hm] at hV1 x1 hll hL ⊢
 have HW := hid hW
 have HL := hid hL
 have HN := hid hn
 have HM := hid hm
 have HZ := hid hZZ
 have HOK := hid hOK
 clear h hl1 hs1 hb1 hn hm hZZ hR hOK hW hL
 go_enter Tryz.func25, Tryz.ntmps25
 by_cases c1 : 1 ≤ n
 ·have t1 : decide (((n : Nat) : Int) < 1) = false := decide_eq_false (by omega)
  by_cases c2 : n ≤ 4096
  ·have t2 : decide ((4096 : Int) < ((n : Nat) : Int)) = false := decide_eq_false (by omega)
   by_cases c3 : m = n
   ·subst c3
    have t3 : (((m : Nat) : Int) != ((m : Nat) : Int)) = false := by simp
    have HR : Hid (ZZ.all wordOk = R) := hid (by rw [← HOK.out, decide_eq_true c1, decide_eq_true c2, decide_eq_true rfl]; rfl)
    have HZL : Hid (ZZ.length = m) := hid (by rw [← HZ.out, List.length_zip, HN.out, HM.out]; omega)
    go_wp2
    go_loopg [27] m (fun g i wr => ∃ k : Nat, g + k = m ∧ i = .int .i64 (k : Nat) ∧ Hid ((ZZ.take k).all wordOk = true) ∧ wr = V1)
    case atStart => exact ⟨0, rfl, rfl, hid (by simp), rfl⟩
    case round =>
     obtain ⟨k, hk, rfl, hs, hwr⟩ := hrel
     subst hwr
     have HK := hid hk
     clear hk
     by_cases hlt : k < m
     ·obtain ⟨x, hxk⟩ : ∃ x, M.W[k]? = some x := ⟨_, List.getElem?_eq_getElem (by rw [HN.out]; exact hlt)⟩
      obtain ⟨b, hbk⟩ : ∃ x, M.L[k]? = some x := ⟨_, List.getElem?_eq_getElem (by rw [HM.out]; exact hlt)⟩
      obtain ⟨b1, o1, rfl, -, hc1⟩ := HW.out.at hlt (wcell_at hxk)
      obtain ⟨b2, o2, rfl, -, hc2⟩ := HL.out.at hlt (bcell_at hbk)
      have f1 := hc1 _ (Below.refl _ _)
      have f2 := hc2 _ (Below.refl _ _)
      have hz : ZZ[k]? = some (x, b) := by rw [← HZ.out, List.getElem?_zip_eq_some]; exact ⟨hxk, hbk⟩
      have HTK : Hid ((ZZ.take (k + 1)).all wordOk = wordOk (x, b)) := hid (by rw [take_snoc hz, List.all_append, hs.out]; simp)
      have HMEM : Hid ((x, b) ∈ ZZ) := hid (List.mem_of_getElem? hz)
      clear hc1 hc2 hxk hbk hz
      by_cases hB : wordOk (x, b) = true
      ·have HN1 := hid (HTK.out.trans hB)
       unfold wordOk at hB
       dsimp only at hB
       cases b
       case' true =>
        go_wp2
       case' false =>
        by_cases h0 : x = 0
        case' pos =>
         subst h0
         go_wp2
        case' neg =>
         have t0 : (((x : Nat) : Int) != 0) = true := by simp; omega
         have hp : x = poison := by simpa [h0] using hB
         have t4 : (((x : Nat) : Int) != 18369900232523579118) = false := by rw [hp]; rfl
         clear hp h0
         go_wp2
       all_goals
        go_roundg (gk - 1)
        case measure => have := HK.out; omega
        case rel => exact ⟨k + 1, by have := HK.out; omega, by go_num, HN1, rfl⟩
      ·have hBf : wordOk (x, b) = false := by simpa using hB
       have HE : Hid (R = false) := hid (by
        rw [← HR.out, Bool.eq_false_iff]
        intro h
        have := List.all_eq_true.1 h _ HMEM.out
        rw [hBf] at this
        cases this)
       unfold wordOk at hBf
       dsimp only at hBf
       simp only [Bool.or_eq_false_iff, decide_eq_false_iff_not] at hBf
       obtain ⟨rfl, h0, hp⟩ := hBf
       have t0 : (((x : Nat) : Int) != 0) = true := by simp; omega
       have t4 : (((x : Nat) : Int) != 18369900232523579118) = true := by simp; unfold poison at hp; omega
       clear hB h0 hp
       go_wp2
       go_ret
       exact ⟨retb HE.out.symm, HB1.out⟩
     ·have HE : Hid (R = true) := hid (by
       have := hs.out
       rw [List.take_of_length_le (by rw [HZL.out]; omega)] at this
       rw [← HR.out, this])
      clear hs
      go_wp2
      go_ret
      exact ⟨retb HE.out.symm, HB1.out⟩
   ·have t3 : (((m : Nat) : Int) != ((n : Nat) : Int)) = true := by simp; omega
    have HE : Hid (R = false) := hid (by rw [← HOK.out, decide_eq_true c1, decide_eq_true c2, decide_eq_false c3]; rfl)
    go_wp2
    go_ret
    exact ⟨retb HE.out.symm, HB1.out⟩
  ·have t2 : decide ((4096 : Int) < ((n : Nat) : Int)) = true := decide_eq_true (by omega)
   have HE : Hid (R = false) := hid (by rw [← HOK.out, decide_eq_true c1, decide_eq_false c2]; rfl)
   go_wp2
   go_ret
   exact ⟨retb HE.out.symm, HB1.out⟩
 ·have t1 : decide (((n : Nat) : Int) < 1) = true := decide_eq_true (by omega)
  have HE : Hid (R = false) := hid (by rw [← HOK.out, decide_eq_false c1]; rfl)
  go_wp2
  go_ret
  exact ⟨retb HE.out.symm, HB1.out⟩
set_option maxRecDepth 100000 in
set_option maxHeartbeats 4000000 in
theorem RefSame_any (M N : Mem) (wa la wa' la' : Option Addr) (wc lc wc' lc' : Nat) (V : World) (h : MemL V wa wc la lc M) (h' : MemL V wa' wc' la' lc' N) :
  Calls Tryz.prog 41 #[memV wa wc la lc M, memV wa' wc' la' lc' N] V (Ret (.bool (sameM M N)) V) := by
 obtain ⟨V1, hV1, hb1, hs1, hl1⟩ := laid V #[.slice wa M.W.length wc, .slice la M.L.length lc, .bool M.F] 25
 obtain ⟨V2, hV2, hb2, hs2, hl2⟩ := laid V1 #[.slice wa' N.W.length wc', .slice la' N.L.length lc', .bool N.F] 25
 obtain ⟨X, hX⟩ := nm (V.heap.size)
 obtain ⟨Y, hY⟩ := nm (V1.heap.size)
 rw [hX] at hl1
 rw [hY] at hl2
 obtain ⟨x0, x1, x2⟩ := cells3 (klD hl1 hb2)
 obtain ⟨y0, y1, y2⟩ := cells3 hl2
 have HB2 := hid (step hb1 hb2)
 have hMW := h.w.grow HB2.out
 have hML := h.l.grow HB2.out
 have hNW := h'.w.grow HB2.out
 have hNL := h'.l.grow HB2.out
 unfold memV
 obtain ⟨n, hn⟩ := nm (M.W.length)
 obtain ⟨m, hm⟩ := nm (M.L.length)
 obtain ⟨n', hn'⟩ := nm (N.W.length)
 obtain ⟨m', hm'⟩ := nm (N.L.length)
 obtain ⟨F, hF⟩ := nm (M.F)
 obtain ⟨F', hF'⟩ := nm (N.F)
 rw [hn] at hV1 x0 hMW ⊢
 rw [hm] at hV1 x1 hML ⊢
 rw [hF] at hV1 x2 ⊢
 rw [hn'] at hV2 y0 hNW ⊢
 rw [hm'] at hV2 y1 hNL ⊢
 rw [hF'] at hV2 y2 ⊢
 have l1 := hMW.len
 have l2 := hML.len
 have l3 := hNW.len
 have l4 := hNL.len
 obtain ⟨R, hR⟩ := nm (sameM M N)
 have hOK : (decide (M.W = N.W) && (decide (M.L = N.L) && decide (F = F'))) = R := by rw [← hR]; unfold sameM; rw [hF, hF']
 rw [hR]
 have HMW := hid hMW
 have HML := hid hML
 have HNW := hid hNW
 have HNL := hid hNL
 have HN := hid hn
 have HM := hid hm
 have HN' := hid hn'
 have HM' := hid hm'
 have HOK := hid hOK
 clear h h' hl1 hl2 hs1 hs2 hb1 hb2 hn hm hn' hm' hF hF' hR hOK hMW hML hNW hNL
 go_enter Tryz.func41, Tryz.ntmps41
 by_cases c1 : n = n'
 ·subst c1
  have t1 : (((n : Nat) : Int) != ((n : Nat) : Int)) = false := by simp
  by_cases c2 : m = m'
  ·subst c2
   have t2 : (((m : Nat) : Int) != ((m : Nat) : Int)) = false := by simp
   by_cases c3 : F = F'
   ·subst c3
    have t3 : (F != F) = false := by simp
    have HR : Hid ((decide (M.W = N.W) && decide (M.L = N.L)) = R) := hid (by rw [← HOK.out]; simp)
    go_wp2
    go_loopg [35] n (fun g i wr => ∃ k : Nat, g + k = n ∧ i = .int .i64 (k : Nat) ∧ Hid (M.W.take k = N.W.take k) ∧ wr = V2)
    case atStart => exact ⟨0, rfl, rfl, hid rfl, rfl⟩
    case round =>
     obtain ⟨k, hk, rfl, hs, hwr⟩ := hrel
     subst hwr
     have HK := hid hk
     clear hk
     by_cases hlt : k < n
     ·obtain ⟨x, hxk⟩ : ∃ x, M.W[k]? = some x := ⟨_, List.getElem?_eq_getElem (by rw [HN.out]; exact hlt)⟩
      obtain ⟨y, hyk⟩ : ∃ x, N.W[k]? = some x := ⟨_, List.getElem?_eq_getElem (by rw [HN'.out]; exact hlt)⟩
      obtain ⟨b1, o1, rfl, -, hc1⟩ := HMW.out.at hlt (wcell_at hxk)
      obtain ⟨b2, o2, rfl, -, hc2⟩ := HNW.out.at hlt (wcell_at hyk)
      have f1 := hc1 _ (Below.refl _ _)
      have f2 := hc2 _ (Below.refl _ _)
      by_cases he : x = y
      ·have HT := hid (eq_take _ _ k _ _ hs.out hxk hyk he)
       subst he
       have t4 : (((x : Nat) : Int) != ((x : Nat) : Int)) = false := by simp
       clear hc1 hc2 hxk hyk hs
       go_wp2
       go_roundg (gk - 1)
       case measure => have := HK.out; omega
       case rel => exact ⟨k + 1, by have := HK.out; omega, by go_num, HT, rfl⟩
      ·have HE : Hid (R = false) := hid (by rw [← HR.out, decide_eq_false (ne_at _ _ k _ _ hxk hyk he)]; rfl)
       have t4 : (((x : Nat) : Int) != ((y : Nat) : Int)) = true := by simp; omega
       clear hc1 hc2 hxk hyk hs he
       go_wp2
       go_ret
       exact ⟨retb HE.out.symm, HB2.out⟩
     ·have HWE : Hid (M.W = N.W) := hid (by
       have := hs.out
       rwa [List.take_of_length_le (by rw [HN.out]; omega), List.take_of_length_le (by rw [HN'.out]; omega)] at this)
      clear hs
      go_wp2
      go_loopg [51] m (fun g i W => ∃ j : Nat, g + j = m ∧ i = .int .i64 (j : Nat) ∧ Hid (M.L.take j = N.L.take j) ∧ W = wr)
      case atStart => exact ⟨0, rfl, rfl, hid rfl, rfl⟩
      case round =>
       obtain ⟨j, hj, rfl, hs, hwr⟩ := hrel
       subst hwr
       have HJ := hid hj
       clear hj
       by_cases hlj : j < m
       ·obtain ⟨x, hxk⟩ : ∃ x, M.L[j]? = some x := ⟨_, List.getElem?_eq_getElem (by rw [HM.out]; exact hlj)⟩
        obtain ⟨y, hyk⟩ : ∃ x, N.L[j]? = some x := ⟨_, List.getElem?_eq_getElem (by rw [HM'.out]; exact hlj)⟩
        obtain ⟨b1, o1, rfl, -, hc1⟩ := HML.out.at hlj (bcell_at hxk)
        obtain ⟨b2, o2, rfl, -, hc2⟩ := HNL.out.at hlj (bcell_at hyk)
        have f1 := hc1 _ (Below.refl _ _)
        have f2 := hc2 _ (Below.refl _ _)
        by_cases he : x = y
        ·have HT := hid (eq_take _ _ j _ _ hs.out hxk hyk he)
         subst he
         have t4 : (x != x) = false := by simp
         clear hc1 hc2 hxk hyk hs
         go_wp2
         go_roundg (gk - 1)
         case measure => have := HJ.out; omega
         case rel => exact ⟨j + 1, by have := HJ.out; omega, by go_num, HT, rfl⟩
        ·have HE : Hid (R = false) := hid (by rw [← HR.out, decide_eq_false (ne_at _ _ j _ _ hxk hyk he), Bool.and_false])
         have t4 : (!x == y) = true := by simpa using he
         clear hc1 hc2 hxk hyk hs he
         go_wp2
         go_ret
         exact ⟨retb HE.out.symm, HB2.out⟩
       ·have HE : Hid (R = true) := hid (by
         have := hs.out
         rw [List.take_of_length_le (by rw [HM.out]; omega), List.take_of_length_le (by rw [HM'.out]; omega)] at this
         rw [← HR.out, decide_eq_true HWE.out, decide_eq_true this]; rfl)
        clear hs
        go_wp2
        go_ret
        exact ⟨retb HE.out.symm, HB2.out⟩
   ·have t3 : (!F == F') = true := by simpa using c3
    have HE : Hid (R = false) := hid (by rw [← HOK.out, decide_eq_false c3]; simp)
    go_wp2
    go_ret
    exact ⟨retb HE.out.symm, HB2.out⟩
  ·have t2 : (((m : Nat) : Int) != ((m' : Nat) : Int)) = true := by simp; omega
   have HE : Hid (R = false) := hid (by rw [← HOK.out, decide_eq_false (show ¬ M.L = N.L from fun e => c2 (by rw [← HM.out, ← HM'.out, e]))]; simp)
   go_wp2
   go_ret
   exact ⟨retb HE.out.symm, HB2.out⟩
 ·have t1 : (((n : Nat) : Int) != ((n' : Nat) : Int)) = true := by simp; omega
  have HE : Hid (R = false) := hid (by rw [← HOK.out, decide_eq_false (show ¬ M.W = N.W from fun e => c1 (by rw [← HN.out, ← HN'.out, e]))]; simp)
  go_wp2
  go_ret
  exact ⟨retb HE.out.symm, HB2.out⟩
end Go.Proofs.YtipohagcppfgiaaGreat
