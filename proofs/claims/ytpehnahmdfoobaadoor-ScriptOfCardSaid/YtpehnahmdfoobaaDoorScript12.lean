/- Scripts that lie in memory; Same. -/
import Derived.Test.YtpehnahmdfoobaaDoorScript11
namespace Go.Proofs.YtpehnahmdfoobaaDoor
open Go.RowKit
open Go.Proofs
set_option linter.unusedVariables false

structure Scr where
  C : Int
  P : Int
  ls : List (List (List Nat))
  ps : List Int
/-- Numbers of a script that any has. -/
structure Scr.Ok (S : Scr) : Prop where
  five : ∀ cs ∈ S.ls, ∀ q ∈ cs, q.length = 5
  word : ∀ cs ∈ S.ls, ∀ q ∈ cs, ∀ v ∈ q, v < 18446744073709551616
  C : -9223372036854775808 ≤ S.C ∧ S.C ≤ 9223372036854775807
  P : -9223372036854775808 ≤ S.P ∧ S.P ≤ 9223372036854775807
  picks : ∀ z ∈ S.ps, -9223372036854775808 ≤ z ∧ z ≤ 9223372036854775807
/-- A row of calls. -/
def CallsL (w : World) (v : Value) (cs : List (List Nat)) : Prop := ∃ a c, v = .slice a cs.length c ∧ Leads w a cs.length c (wcells cs.flatten)
structure ScrL (w : World) (la : Option Addr) (lc : Nat) (vs : List Value) (pa : Option Addr) (pc : Nat) (S : Scr) : Prop where
  lists : Leads w la S.ls.length lc vs
  len : vs.length = S.ls.length
  rows : ∀ (i : Nat) (v : Value) (cs : List (List Nat)), vs[i]? = some v → S.ls[i]? = some cs → CallsL w v cs
  picks : Leads w pa S.ps.length pc (icells S.ps)
def scrV (la : Option Addr) (lc : Nat) (pa : Option Addr) (pc : Nat) (S : Scr) : Value := .agg #[.int .i64 S.C, .int .i64 S.P, .slice la S.ls.length lc, .slice pa S.ps.length pc]
theorem CallsL.grow {w w' : World} {v : Value} {cs : List (List Nat)} (h : CallsL w v cs) (hb : Below w.heap.size w w') : CallsL w' v cs := by
  obtain ⟨a, c, e, hl⟩ := h
  exact ⟨a, c, e, hl.grow hb⟩
theorem ScrL.grow {w w' : World} {la : Option Addr} {lc : Nat} {vs : List Value} {pa : Option Addr} {pc : Nat} {S : Scr} (h : ScrL w la lc vs pa pc S) (hb : Below w.heap.size w w') : ScrL w' la lc vs pa pc S :=
  ⟨h.lists.grow hb, h.len, fun i v cs hi hc => (h.rows i v cs hi hc).grow hb, h.picks.grow hb⟩

theorem likeC_any (xs ys : List (List Nat)) (v v' : Value) (w : World) (h : CallsL w v xs) (h' : CallsL w v' ys) (hx5 : ∀ q ∈ xs, q.length = 5) (hy5 : ∀ q ∈ ys, q.length = 5) (hxb : ∀ q ∈ xs, ∀ v ∈ q, v < 18446744073709551616) (hyb : ∀ q ∈ ys, ∀ v ∈ q, v < 18446744073709551616) :
    Calls Tryd.prog 36 #[v, v'] w (Ret (.bool (decide (xs = ys))) w) := by
  obtain ⟨a, c, rfl, hl⟩ := h
  obtain ⟨a', c', rfl, hl'⟩ := h'
  have H := hid (EqC_any xs ys a a' _ _ c c' w rfl rfl hx5 hy5 hxb hyb hl hl')
  clear hl hl' hx5 hy5 hxb hyb
  go_enter Tryd.func36, Tryd.ntmps36
  go_wp2_with fail
  refine H.out.mono ?_
  rintro e w2 ⟨rfl, hb2⟩
  go_wp2
  go_ret
  exact ⟨rfl, hb2⟩
theorem likeI_any (xs ys : List Int) (a a' : Option Addr) (n n' c c' : Nat) (w : World) (hx : xs.length = n) (hy : ys.length = n') (h : Leads w a n c (icells xs)) (h' : Leads w a' n' c' (icells ys)) :
    Calls Tryd.prog 37 #[.slice a n c, .slice a' n' c'] w (Ret (.bool (decide (xs = ys))) w) := by
  have H := hid (EqI_any xs ys a a' n n' c c' w hx hy h h')
  clear hx hy h h'
  go_enter Tryd.func37, Tryd.ntmps37
  go_wp2_with fail
  refine H.out.mono ?_
  rintro e w2 ⟨rfl, hb2⟩
  go_wp2
  go_ret
  exact ⟨rfl, hb2⟩

set_option maxRecDepth 100000 in
set_option maxHeartbeats 1000000 in
theorem EqL_any (xs ys : List (List (List Nat))) (vs us : List Value) (a a' : Option Addr) (n n' c c' : Nat) (w : World) (hx : xs.length = n) (hy : ys.length = n') (hvx : vs.length = n) (huy : us.length = n') (h : Leads w a n c vs) (h' : Leads w a' n' c' us)
    (hrx : ∀ (i : Nat) (v : Value) (cs : List (List Nat)), vs[i]? = some v → xs[i]? = some cs → CallsL w v cs) (hry : ∀ (i : Nat) (v : Value) (cs : List (List Nat)), us[i]? = some v → ys[i]? = some cs → CallsL w v cs)
    (hx5 : ∀ cs ∈ xs, ∀ q ∈ cs, q.length = 5) (hy5 : ∀ cs ∈ ys, ∀ q ∈ cs, q.length = 5) (hxb : ∀ cs ∈ xs, ∀ q ∈ cs, ∀ v ∈ q, v < 18446744073709551616) (hyb : ∀ cs ∈ ys, ∀ q ∈ cs, ∀ v ∈ q, v < 18446744073709551616) :
    Calls Tryd.prog 35 #[.slice a n c, .slice a' n' c', .func (.func 36) #[] #[]] w (Ret (.bool (decide (xs = ys))) w) := by
  have hn := h.len.1
  have hn' := h'.len.1
  by_cases hnn : n = n'
  · subst hnn
    have H := hid h
    have H' := hid h'
    have HX := hid hx
    have HY := hid hy
    have HVX := hid hvx
    have HUY := hid huy
    have HRX := hid hrx
    have HRY := hid hry
    have HX5 := hid hx5
    have HY5 := hid hy5
    have HXB := hid hxb
    have HYB := hid hyb
    clear h h' hx hy hvx huy hrx hry hx5 hy5 hxb hyb
    go_enter Tryd.func35, Tryd.ntmps35
    go_wp2
    go_loopg [7, 8, 9, 17] n (fun g _ _ _ i wr => ∃ k : Nat, g + k = n ∧ i = .int .i64 (k : Nat) ∧ Hid (xs.take k = ys.take k) ∧ Below w.heap.size w wr)
    case atStart => exact ⟨0, rfl, rfl, rfl, Below.refl _ _⟩
    case round =>
      obtain ⟨k, hk, rfl, hs, hb⟩ := hrel
      have HK := hid hk
      clear hk
      by_cases hlt : k < n
      · obtain ⟨x, hxk⟩ : ∃ x, xs[k]? = some x := ⟨_, List.getElem?_eq_getElem (by rw [HX.out]; exact hlt)⟩
        obtain ⟨y, hyk⟩ : ∃ x, ys[k]? = some x := ⟨_, List.getElem?_eq_getElem (by rw [HY.out]; exact hlt)⟩
        obtain ⟨v, hvk⟩ : ∃ x, vs[k]? = some x := ⟨_, List.getElem?_eq_getElem (by rw [HVX.out]; exact hlt)⟩
        obtain ⟨u, huk⟩ : ∃ x, us[k]? = some x := ⟨_, List.getElem?_eq_getElem (by rw [HUY.out]; exact hlt)⟩
        obtain ⟨b, off, rfl, -, hc⟩ := H.out.at hlt hvk
        obtain ⟨b', off', rfl, -, hc'⟩ := H'.out.at hlt huk
        have hL := hid (likeC_any x y v u wr ((HRX.out k v x hvk hxk).grow hb) ((HRY.out k u y huk hyk).grow hb) (HX5.out x (List.mem_of_getElem? hxk)) (HY5.out y (List.mem_of_getElem? hyk)) (HXB.out x (List.mem_of_getElem? hxk)) (HYB.out y (List.mem_of_getElem? hyk)))
        obtain ⟨va, vc, rfl, -⟩ := HRX.out k v x hvk hxk
        obtain ⟨ua, uc, rfl, -⟩ := HRY.out k u y huk hyk
        have f1 := hc wr hb
        have f2 := hc' wr hb
        clear hc hc' hvk huk
        by_cases he : x = y
        · have HT := hid (eq_take _ _ k _ _ hs.out hxk hyk he)
          have hL2 := hL.out
          rw [decide_eq_true he] at hL2
          have HL := hid hL2
          clear hL hL2 he hxk hyk hs
          go_wp2_with fail
          refine HL.out.mono ?_
          rintro e w2 ⟨rfl, hb2⟩
          go_wp2
          go_roundg (gk - 1)
          case measure => have := HK.out; omega
          case rel => exact ⟨k + 1, by have := HK.out; omega, by go_num, HT, step hb hb2⟩
        · have HE := hid (ne_at _ _ k _ _ hxk hyk he)
          have hL2 := hL.out
          rw [decide_eq_false he] at hL2
          have HL := hid hL2
          clear hL hL2 he hxk hyk hs
          go_wp2_with fail
          refine HL.out.mono ?_
          rintro e w2 ⟨rfl, hb2⟩
          go_wp2
          go_ret
          exact ⟨retb (decide_eq_false HE.out).symm, step hb hb2⟩
      · have e := HK.out
        obtain rfl : k = n := by omega
        have HE : Hid (xs = ys) := hid (by
          have := hs.out
          rwa [List.take_of_length_le (by rw [HX.out]; exact Nat.le_refl _), List.take_of_length_le (by rw [HY.out]; exact Nat.le_refl _)] at this)
        clear hs e HK
        go_wp2
        go_ret
        exact ⟨retb (decide_eq_true HE.out).symm, hb⟩
  · have HE : Hid (¬ xs = ys) := hid (by
      intro e
      have := congrArg List.length e
      omega)
    have hne : (((n : Nat) : Int) != ((n' : Nat) : Int)) = true := by simp; omega
    clear h h' hx hy hnn hvx huy hrx hry hx5 hy5 hxb hyb
    go_enter Tryd.func35, Tryd.ntmps35
    go_wp2
    go_ret
    exact ⟨retb (decide_eq_false HE.out).symm, Below.refl _ _⟩

/-- Same: all four parts. -/
def sameS (S T : Scr) : Bool := decide (S.C = T.C) && decide (S.P = T.P) && decide (S.ls = T.ls) && decide (S.ps = T.ps)
set_option maxRecDepth 100000 in
set_option maxHeartbeats 1000000 in
theorem Same_any (S T : Scr) (la lb pa pb : Option Addr) (lc ld pc pd : Nat) (vs us : List Value) (w : World) (hS : S.Ok) (hT : T.Ok) (h : ScrL w la lc vs pa pc S) (h' : ScrL w lb ld us pb pd T) :
    Calls Tryd.prog 19 #[scrV la lc pa pc S, scrV lb ld pb pd T] w (Ret (.bool (sameS S T)) w) := by
  obtain ⟨w1, hw1, hb1, hs1, hl1⟩ := laid w #[.int .i64 S.C, .int .i64 S.P, .slice la S.ls.length lc, .slice pa S.ps.length pc] 35
  obtain ⟨w2, hw2, hb2, hs2, hl2⟩ := laid w1 #[.int .i64 T.C, .int .i64 T.P, .slice lb T.ls.length ld, .slice pb T.ps.length pd] 35
  have hl1' := keep_laid hl1 hb2
  have hb02 := step hb1 hb2
  have HE := hid (fun W (hb : Below w.heap.size w W) => EqL_any S.ls T.ls vs us la lb _ _ lc ld W rfl rfl h.len h'.len (h.grow hb).lists (h'.grow hb).lists (h.grow hb).rows (h'.grow hb).rows hS.five hT.five hS.word hT.word)
  have HI := hid (fun W (hb : Below w.heap.size w W) => likeI_any S.ps T.ps pa pb _ _ pc pd W rfl rfl (h.grow hb).picks (h'.grow hb).picks)
  obtain ⟨X, hX⟩ : ∃ X, w.heap.size = X := ⟨_, rfl⟩
  obtain ⟨Y, hY⟩ : ∃ Y, w1.heap.size = Y := ⟨_, rfl⟩
  rw [hX] at hl1'
  rw [hY] at hl2
  have a0 := cell_laid (i := 0) hl1' rfl
  have a1 := cell_laid (i := 1) hl1' rfl
  have a2 := cell_laid (i := 2) hl1' rfl
  have b0 := cell_laid (i := 0) hl2 rfl
  have b1 := cell_laid (i := 1) hl2 rfl
  have b2 := cell_laid (i := 2) hl2 rfl
  have HL1 := hid hl1'
  have HL2 := hid hl2
  have HB2 := hid hb02
  have a3 := cell_laid (i := 3) hl1' rfl
  have b3 := cell_laid (i := 3) hl2 rfl
  obtain ⟨C1, P1, ls1, ps1⟩ := S
  obtain ⟨C2, P2, ls2, ps2⟩ := T
  dsimp only at *
  unfold scrV sameS
  dsimp only
  clear h h' hl1 hl1' hl2 hS hT hs1 hs2
  by_cases hC : C1 = C2
  · have hCe : (C1 == C2) = true := by simpa using hC
    rw [decide_eq_true hC, Bool.true_and]
    clear hC
    by_cases hP : P1 = P2
    · have hPe : (P1 == P2) = true := by simpa using hP
      rw [decide_eq_true hP, Bool.true_and]
      clear hP
      obtain ⟨E1, hE1⟩ : ∃ E, decide (ls1 = ls2) = E := ⟨_, rfl⟩
      obtain ⟨E2, hE2⟩ : ∃ E, decide (ps1 = ps2) = E := ⟨_, rfl⟩
      rw [hE1] at HE
      rw [hE2] at HI
      rw [hE1, hE2]
      clear hE1 hE2
      cases E1 with
      | true =>
        rw [Bool.true_and]
        go_enter Tryd.func19, Tryd.ntmps19
        go_wp2_with fail
        refine (HE.out _ HB2.out).mono ?_
        rintro e w3 ⟨rfl, hb3⟩
        have hb03 := step HB2.out hb3
        have a3' := cell_laid (i := 3) (keep_laid HL1.out hb3) rfl
        have b3' := cell_laid (i := 3) (keep_laid HL2.out hb3) rfl
        go_wp2_with fail
        refine (HI.out _ hb03).mono ?_
        rintro e w4 ⟨rfl, hb4⟩
        go_wp2
        go_ret
        exact ⟨rfl, step hb03 hb4⟩
      | false =>
        rw [Bool.false_and]
        go_enter Tryd.func19, Tryd.ntmps19
        go_wp2_with fail
        refine (HE.out _ HB2.out).mono ?_
        rintro e w3 ⟨rfl, hb3⟩
        go_wp2
        go_ret
        exact ⟨rfl, step HB2.out hb3⟩
    · have hPe : (P1 == P2) = false := by simpa using hP
      rw [decide_eq_false hP, Bool.false_and, Bool.false_and]
      clear hP
      go_enter Tryd.func19, Tryd.ntmps19
      go_wp2
      go_ret
      exact ⟨rfl, HB2.out⟩
  · have hCe : (C1 == C2) = false := by simpa using hC
    rw [decide_eq_false hC, Bool.false_and, Bool.false_and, Bool.false_and]
    clear hC
    go_enter Tryd.func19, Tryd.ntmps19
    go_wp2
    go_ret
    exact ⟨rfl, HB2.out⟩
end Go.Proofs.YtpehnahmdfoobaaDoor
