/- Scripts: Of, of a script that may be. -/
import Derived.Test.YtpehnahmdfoobaaDoorScript17
import Derived.Laws.EntriesVeiled
namespace Go.Proofs.YtpehnahmdfoobaaDoor
open Go.RowKit Go.Shelf
open Go.Proofs
set_option linter.unusedVariables false
attribute [local go_sem] Oper.semAt_some

theorem fok2 (l : List FieldI) (h : l.all (fun f => decide (0 ≤ f.1 ∧ f.1 ≤ 64 ∧ 0 ≤ f.2 ∧ f.2 ≤ 64)) = true) : fok l := by
  intro f hf
  have := of_decide_eq_true (List.all_eq_true.1 h f hf)
  omega

theorem OutJ.setOther {D base b i : Nat} {out : List Nat} {v : Value} {w W : World} (h : OutJ D base out v w W) (cur : Array Value) (e : TypeId) (hb : W.heap[b]? = some (.cells cur e (0, 0))) (he : e ≠ 32) (hD : b ≠ D) (hw : w.heap.size ≤ b) (u : Value) : OutJ D base out v w (W.setCell ⟨b, i, none⟩ u) := by
  refine ⟨other_laid h.blk (by omega) _, own_keep h.row (fun k o hk hh => other_laid hh ?_ _), h.below.setCell (by show w.heap.size ≤ b; exact hw) _, ?_⟩
  · obtain ⟨cur', hc⟩ := own_type h.row k hk
    exact type_ne hc hb (by intro e'; exact he e'.symm)
  · have := h.lo
    have hs : (W.setCell ⟨b, i, none⟩ u).heap.size = W.heap.size := by simp [World.setCell]
    omega
theorem own_abide2 {A B : World} {row : Option Nat} {Bs B0 base n size : Nat} {e : TypeId} {v : Value} {xs : List Value} (h : A.ownsRow base e size v n xs) (hg : A.grownBy B row)
    (hr : ∀ r, row = some r → r = Bs ∨ (B0 ≤ r ∧ ∃ o, A.heap[r]? = some o ∧ o.isCells = false)) (hne : v.ownBlock ≠ some Bs) : B.ownsRow base e size v n xs :=
  own_keep h fun k o hk hh => keep_grown hh hg fun er => by
    rcases hr k er with rfl | ⟨_, o', h1, h2⟩
    · exact hne hk
    · obtain ⟨cur, hc⟩ := own_type h k hk
      rw [hc] at h1
      cases h1
      cases h2
theorem OfK.abide {D E base : Nat} {out : List Nat} {v : Value} {w A B : World} {row : Option Nat} {Bs B0 : Nat} (h : OfK D E base out v w A) (hg : A.grownBy B row) (hr : ∀ r, row = some r → r = Bs ∨ (B0 ≤ r ∧ ∃ o, A.heap[r]? = some o ∧ o.isCells = false))
    (hne : v.ownBlock ≠ some Bs) (hD : D ≠ Bs) (hE : E ≠ Bs) (hw : w.heap.size ≤ Bs) (hB0 : w.heap.size ≤ B0) : OfK D E base out v w B :=
  ⟨⟨cells_abide h.o.blk hg hr hD, own_abide2 h.o.row hg hr hne, below_abide h.o.below hg hr hw hB0, by have := h.o.lo; have := hg.size; omega⟩, cells_abide h.e hg hr hE⟩
/-- The word that is packed, whether the numbers fit or not. -/
def wordN (fs : List FieldI) (vs : List Nat) : Nat := (packGo 0 (fs.zip vs)).getD 0
theorem word_gen (fs : List FieldI) (vs : List Nat) (a : Option Addr) (n cap : Nat) (a' : Option Addr) (cap' : Nat) (w : World) (hfl : fs.length = n) (hvl : vs.length = n) (hl : Leads w a n cap (fcells fs)) (hf : fok fs) (hn : n ≤ 1000) (hl' : Leads w a' n cap' (wcells vs)) (hv : wok vs) (hap : apGo [] fs = true) :
    Calls Tryd.prog 33 #[.slice a n cap, .slice a' n cap'] w (Ret (.int .u64 ((wordN fs vs : Nat) : Int)) w) := by
  have H := Pack_any fs vs a cap a' cap' w (by rw [hfl]; exact hl) hf (by omega) (by rw [hvl]; exact hl') hv
  obtain ⟨E2, hE2⟩ : ∃ E2, packV fs vs = .tuple #[.int .u64 ((wordN fs vs : Nat) : Int), .int .i64 E2] := by
    unfold packV wordN
    rw [hap, if_pos rfl, if_pos (by omega)]
    cases packGo 0 (fs.zip vs) with
    | some p => exact ⟨0, rfl⟩
    | none => exact ⟨111, rfl⟩
  rw [hE2, hfl, hvl] at H
  have HH := hid H
  clear H hE2 hl hl' hf hv hap hfl hvl
  go_enter Tryd.func33, Tryd.ntmps33
  go_wp2_with fail
  refine HH.out.mono ?_
  rintro e w2 ⟨rfl, hb2⟩
  go_wp2
  go_ret
  exact ⟨rfl, hb2⟩
def runV (p : Int × Nat) : List Nat := [2, (IntKind.u64.wrap p.1).toNat, (IntKind.u64.wrap (IntKind.i64.wrap (((p.2 : Nat) : Int) - 1))).toNat]
def runN (p : Int × Nat) : Nat := wordN [(0, 2), (8, 3), (16, 8)] (runV p)
theorem u64_nat (z : Int) : ∃ n : Nat, IntKind.u64.wrap z = (n : Int) ∧ n < 18446744073709551616 := by
  rw [IntKind.wrap_u64]
  exact ⟨(z % 18446744073709551616).toNat, by omega, by omega⟩
theorem runs_mem : ∀ (f : Nat) (l : List Int) (p : Int × Nat), p ∈ runsF f l → 1 ≤ p.2 ∧ p.2 ≤ 256 ∧ p.1 ∈ l
  | 0, _, p, h => by cases h
  | _ + 1, [], p, h => by cases h
  | f + 1, x :: r, p, h => by
    rcases List.mem_cons.1 h with rfl | h
    · exact ⟨(runLen_pos x r).1, (runLen_pos x r).2, List.mem_cons_self ..⟩
    · obtain ⟨h1, h2, h3⟩ := runs_mem f _ p h
      exact ⟨h1, h2, List.mem_of_mem_drop h3⟩
theorem runN_eq (p : Int × Nat) (h0 : 0 ≤ p.1) (h8 : p.1 < 8) (h1 : 1 ≤ p.2) (h2 : p.2 ≤ 256) : runN p = wdR p.1.toNat (p.2 - 1) := by
  have e1 : (IntKind.u64.wrap p.1).toNat = p.1.toNat := by rw [IntKind.wrap_u64]; omega
  have e2 : (IntKind.u64.wrap (IntKind.i64.wrap (((p.2 : Nat) : Int) - 1))).toNat = p.2 - 1 := by
    rw [IntKind.wrap_u64, IntKind.wrap_i64]
    omega
  unfold runN runV wordN
  rw [e1, e2, pack_R p.1.toNat (p.2 - 1) (by omega) (by omega)]
  rfl
structure R13 (D E : Nat) where
  v : World
  e0 : v.cell? ⟨E, 0, none⟩ = some (.func (.func 34) #[] #[.pointer (some ⟨D, 0, none⟩)])
structure R12 (D E F q0 : Nat) where
  v : World
  e0 : v.cell? ⟨E, 0, none⟩ = some (.func (.func 34) #[] #[.pointer (some ⟨D, 0, none⟩)])
  f0 : v.cell? ⟨F, 0, none⟩ = some (.int .u64 ((q0 : Nat) : Int))
theorem wok2 {a b : Nat} (ha : a < 18446744073709551616) (hb : b < 18446744073709551616) : wok [a, b] := fun x hx => by
  simp only [List.mem_cons, List.not_mem_nil, or_false] at hx
  rcases hx with rfl | rfl <;> assumption
theorem cell_add {w : World} {b o j : Nat} {v : Value} (h : w.cell? ⟨b, o + j, none⟩ = some v) : w.cell? ((⟨b, o, none⟩ : Addr).add j) = some v := by
  rcases j with _ | j
  · simpa [Addr.add] using h
  · simpa [Addr.add] using h

set_option maxRecDepth 100000 in
set_option maxHeartbeats 4000000 in
theorem Of_ok (S : Scr) (la pa : Option Addr) (lc pc : Nat) (vs : List Value) (w : World) (h : ScrL w la lc vs pa pc S) (hS : S.Ok) (hG : Glob w) (hyes : okS S = true) :
    Calls Tryd.prog 18 #[scrV la lc pa pc S] w (fun e W => ∃ v base, e = .returned (.tuple #[v, .int .i64 0]) ∧ W.ownsRow base 32 1 v (ofW S).length (wcells (ofW S)) ∧ w.heap.size ≤ base ∧ Below w.heap.size w W) := by
  obtain ⟨C, P, eC, eP, hC1, hC8, hP1, hP64, hnl, hnp, hsum, hpk⟩ := okS_spec hyes
  have hnl8 : S.ls.length ≤ 8 := by omega
  have hlen : ∀ cs ∈ S.ls, cs.length ≤ 64 := fun cs hc => by
    obtain ⟨i, hi⟩ := List.getElem?_of_mem hc
    have h1 := sum_take S.ls i cs hi
    have h2 : sumS (S.ls.take (i + 1)) ≤ sumS S.ls := by
      have e := congrArg sumS (List.take_append_drop (i + 1) S.ls)
      unfold sumS at *
      rw [List.map_append, List.sum_append] at e
      omega
    omega
  obtain ⟨w1, hw1, hb1, hs1, hl1⟩ := laid w #[.int .i64 S.C, .int .i64 S.P, .slice la S.ls.length lc, .slice pa S.ps.length pc] 35
  obtain ⟨X, hX⟩ : ∃ X, w.heap.size = X := ⟨_, rfl⟩
  rw [hX] at hl1
  have a0 := cell_laid (i := 0) hl1 rfl
  have a1 := cell_laid (i := 1) hl1 rfl
  have a2 := cell_laid (i := 2) hl1 rfl
  have a3 := cell_laid (i := 3) hl1 rfl
  have HC := hid (fun W h => Check_any S la pa lc pc vs W h (by omega) (fun cs hc => by have := hlen cs hc; omega))
  have HS := hid h
  have HOK := hid hS
  have HYES := hid hyes
  have HB1 := hid hb1
  have HG := hid hG
  have HL1 := hid hl1
  have HX := hid hX
  have HS1 := hid hs1
  have HOF : Hid (ofW S = wdA (C - 1) (P - 1) :: listW 0 S.ls ++ runW (runsL S.ps)) := hid (by
    unfold ofW
    rw [eC, eP, show ((C : Int) - 1).toNat = C - 1 by omega, show ((P : Int) - 1).toNat = P - 1 by omega])
  have HLEN := hid hlen
  have HPK := hid hpk
  have HSUM := hid hsum
  clear h hS hyes hl1 hs1 hG hlen hpk hsum
  obtain ⟨C0, P0, ls, ps⟩ := S
  dsimp only at *
  subst eC
  subst eP
  unfold scrV at *
  dsimp only at *
  obtain ⟨nl, hnl'⟩ : ∃ nl, ls.length = nl := ⟨_, rfl⟩
  obtain ⟨np, hnp'⟩ : ∃ np, ps.length = np := ⟨_, rfl⟩
  rw [hnl'] at hw1 a2 HL1 hnl hnl8 HC ⊢
  rw [hnp'] at hw1 a3 HL1 hnp HC ⊢
  have HNL := hid hnl'
  have HNP := hid hnp'
  clear hnl' hnp'
  obtain rfl : C = nl := hnl.symm
  clear hnl
  obtain ⟨C1, hC1'⟩ : ∃ C1, C - 1 = C1 := ⟨_, rfl⟩
  obtain ⟨P1, hP1'⟩ : ∃ P1, P - 1 = P1 := ⟨_, rfl⟩
  have hC1i : ((C : Nat) : Int) - 1 = ((C1 : Nat) : Int) := by omega
  have hP1i : ((P : Nat) : Int) - 1 = ((P1 : Nat) : Int) := by omega
  have HC1 := hid hC1'
  have HP1 := hid hP1'
  have hC1b : C1 < 8 := by omega
  have hP1b : P1 < 64 := by omega
  clear hC1' hP1'
  refine calls_of_wp_marks Tryd.func18 rfl ?_
  simp only [Tryd.ntmps18, List.size_toArray, List.length_cons, List.length_nil, Nat.reduceAdd, Nat.reduceSub, Array.replicate_succ, Array.replicate_zero, List.push_toArray, List.append_toArray, List.nil_append, List.cons_append]
  go_wp2_with fail
  refine (HC.out _ (HS.out.grow HB1.out)).mono ?_
  rintro e w2 ⟨rfl, hb2⟩
  rw [HYES.out, if_pos rfl]
  have HB2 := hid (step HB1.out hb2)
  have HL2 := hid (keep_laid HL1.out hb2)
  have HG2 := hid (HG.out.grow HB2.out)
  have b0 := cell_laid (i := 0) HL2.out rfl
  have b1 := cell_laid (i := 1) HL2.out rfl
  have g0 := HG2.out.c0
  have g1 := HG2.out.c1
  have g6 := HG2.out.p6
  have g7 := HG2.out.p7
  obtain ⟨w3, hw3, hb3, hs3, hl3⟩ := laid w2 #[.int .i64 0, .int .i64 3, .int .i64 8, .int .i64 6] 65
  obtain ⟨M1, hM1⟩ : ∃ M1, w2.heap.size = M1 := ⟨_, rfl⟩
  rw [hM1] at hl3 hs3
  have b0' := cell_laid (i := 0) (keep_laid HL2.out hb3) rfl
  have b1' := cell_laid (i := 1) (keep_laid HL2.out hb3) rfl
  obtain ⟨w4, hw4, hb4, hs4, hl4⟩ := laid w3 #[.int .u64 ((C1 : Nat) : Int), .int .u64 ((P1 : Nat) : Int)] 32
  rw [hs3] at hl4 hs4
  have HL3 := hid (keep_laid hl3 hb4)
  have HL4 := hid hl4
  have HB4 := hid (step HB2.out (step hb3 hb4))
  have HS4 := hid hs4
  clear hl3 hl4 hb2
  go_wp2_with fail
  refine (word_any [(0, 3), (8, 6)] [C1, P1] (wdA C1 P1) _ 2 2 _ 2 _ rfl rfl ⟨by decide, by decide, .inr ⟨M1, 0, rfl, lt_laid HL3.out, fun i v hv => cell_laid HL3.out (by simpa [fcells] using hv)⟩⟩ (fok2 _ (by decide)) (by decide) ⟨by decide, by decide, .inr ⟨M1 + 1, 0, rfl, lt_laid HL4.out, fun i v hv => cell_laid HL4.out (by simpa [wcells] using hv)⟩⟩ (fun x hx => by
    simp only [List.mem_cons, List.not_mem_nil, or_false] at hx
    omega) (by decide) (pack_A C1 P1 hC1b hP1b)).mono ?_
  rintro e w5 ⟨rfl, hb5⟩
  have HB5 := hid (step HB4.out hb5)
  have HAB : Hid (wdA C1 P1 < 18446744073709551616) := hid (by unfold wdA; omega)
  obtain ⟨WA, hWA⟩ : ∃ WA, wdA C1 P1 = WA := ⟨_, rfl⟩
  rw [hWA] at HAB ⊢
  have HWA := hid hWA
  clear hWA
  obtain ⟨w6, hw6, hb6, hs6, hl6⟩ := laid w5 #[.int .u64 ((WA : Nat) : Int)] 32
  obtain ⟨M3, hM3⟩ : ∃ M3, w5.heap.size = M3 := ⟨_, rfl⟩
  rw [hM3] at hl6 hs6
  obtain ⟨w7, hw7, hb7, hs7, hl7⟩ := laid w6 #[.slice none 0 0] 30
  rw [hs6] at hl7 hs7
  have d0 := cell_laid (i := 0) hl7 rfl
  have d0f := free_laid (i := 0) hl7
  have hs7s : (w7.setCell ⟨M3 + 1, 0, none⟩ (.slice (some ⟨M3, 0, none⟩) 1 1)).heap.size = M3 + 1 + 1 := by simp [World.setCell, hs7]
  have hO7 : OutJ (M3 + 1) M3 [WA] (.slice (some ⟨M3, 0, none⟩) 1 1) w5 (w7.setCell ⟨M3 + 1, 0, none⟩ (.slice (some ⟨M3, 0, none⟩) 1 1)) := by
    refine ⟨set_laid hl7 _, ?_, ?_, ?_⟩
    · exact ⟨rfl, .inr ⟨M3, 1, _, rfl, Nat.le_refl _, other_laid (keep_laid hl6 hb7) (by omega) _, Nat.le_refl _, by decide, rfl, rfl⟩⟩
    · exact (step hb6 hb7).setCell (by show w5.heap.size ≤ M3 + 1; omega) _
    · omega
  obtain ⟨w8, hw8, hb8, hs8, hl8⟩ := laid (w7.setCell ⟨M3 + 1, 0, none⟩ (.slice (some ⟨M3, 0, none⟩) 1 1)) #[.nilFunc] 73
  rw [hs7s] at hl8 hs8
  have e0 := cell_laid (i := 0) hl8 rfl
  have e0f := free_laid (i := 0) hl8
  have HO8 := hid (hO7.grow hb8)
  have HE9 := hid (set_laid (i := 0) hl8 (.func (.func 34) #[] #[.pointer (some ⟨M3 + 1, 0, none⟩)]))
  have HL8 := hid hl8
  have HM3 := hid hM3
  have hm6 := @run_mkf Tryd.prog
  clear hl6 hl7 hl8 hO7 hs8 hs7s
  have HO9 : Hid (OutJ (M3 + 1) M3 [WA] (.slice (some ⟨M3, 0, none⟩) 1 1) w5 (w8.setCell ⟨M3 + 1 + 1, 0, none⟩ (.func (.func 34) #[] #[.pointer (some ⟨M3 + 1, 0, none⟩)]))) := hid (HO8.out.setOther _ _ HL8.out (by decide) (by omega) (by omega) _)
  have HLX := hid (keep_laid (keep_laid (keep_laid (keep_laid HL2.out hb3) hb4) hb5) HO9.out.below)
  have x2 := cell_laid (i := 2) HLX.out rfl
  have HS5 := hid (HS.out.grow HB5.out)
  have HG5 := hid (HG.out.grow HB5.out)
  have HLX5 := hid (keep_laid (keep_laid (keep_laid HL2.out hb3) hb4) hb5)
  have HW5 := hid (lt_laid HLX5.out)
  go_upto_region 6 with (fail)
  obtain ⟨w9, hw9⟩ : ∃ w9, w9 = w8.setCell ⟨M3 + 1 + 1, 0, none⟩ (.func (.func 34) #[] #[.pointer (some ⟨M3 + 1, 0, none⟩)]) := ⟨_, rfl⟩
  rw [← hw9] at HO9 HE9 x2 ⊢
  clear hw9 d0 d0f e0 e0f a0 a1 a2 a3 b0 b1 b0' b1' g0 g1 g6 g7 HLX HL8 HO8
  go_wp2
  go_loopg [7, 8, 37] C (fun g _ _ i wr => ∃ (k : Nat) (v : Value), g + k = C ∧ i = .int .i64 (k : Nat) ∧ OfK (M3 + 1) (M3 + 1 + 1) M3 (WA :: listW 0 (ls.take k)) v w5 wr)
  case atStart => exact ⟨0, _, rfl, rfl, ⟨HO9.out, HE9.out⟩⟩
  case round =>
    obtain ⟨k, v, hk, rfl, hO⟩ := hrel
    have HK := hid hk
    have HOR := hid hO
    clear hk hO x2
    by_cases hlt : k < C
    · obtain ⟨cs, hck⟩ : ∃ x, ls[k]? = some x := ⟨_, List.getElem?_eq_getElem (by rw [HNL.out]; exact hlt)⟩
      obtain ⟨rv, hvk⟩ : ∃ x, vs[k]? = some x := ⟨_, List.getElem?_eq_getElem (by rw [HS5.out.len]; dsimp only; rw [HNL.out]; exact hlt)⟩
      have hHSl := HS5.out.lists
      dsimp only at hHSl
      rw [HNL.out] at hHSl
      obtain ⟨b', off, rfl, -, hc⟩ := hHSl.at hlt hvk
      obtain ⟨va, vc, rfl, hvl⟩ := HS5.out.rows k rv cs hvk hck
      have f1 := hc wr HOR.out.o.below
      have HCK := hid hck
      have HVL := hid hvl
      have HC5 := hid (HOK.out.five cs (List.mem_of_getElem? hck))
      have HCW := hid (HOK.out.word cs (List.mem_of_getElem? hck))
      have hcl := HLEN.out cs (List.mem_of_getElem? hck)
      obtain ⟨nc, hnc⟩ : ∃ nc, cs.length = nc := ⟨_, rfl⟩
      rw [hnc] at f1 hcl HVL
      have HNC := hid hnc
      have hkc := hlt
      have hC0 := hC8
      have hk8 : k < 8 := by omega
      obtain ⟨OUT, hOUT⟩ : ∃ OUT, WA :: listW 0 (ls.take k) = OUT := ⟨_, rfl⟩
      rw [hOUT] at HOR
      have HOUT := hid hOUT
      have hoL : OUT.length ≤ 1 + 64 * 6 := by
        rw [← hOUT, List.length_cons, listW_len (ls.take k) 0 (fun cs hc => HOK.out.five cs (List.mem_of_mem_take hc))]
        have h2 : sumS (ls.take k) ≤ sumS ls := by
          have e := congrArg sumS (List.take_append_drop k ls)
          unfold sumS at *
          rw [List.map_append, List.sum_append] at e
          omega
        have hs := HSUM.out
        omega
      clear hHSl hc hvk hck hvl hnc hOUT
      obtain ⟨G, hG'⟩ : ∃ G, G = gk - 1 := ⟨_, rfl⟩
      have HGG := hid hG'
      obtain ⟨wo, hwo⟩ : ∃ wo, wo = wr := ⟨_, rfl⟩
      subst hwo
      clear hG'
      go_wp2
      go_loopg [10, 44] nc (fun g _ i wr => ∃ (j : Nat) (v : Value), g + j = nc ∧ i = .int .i64 (j : Nat) ∧ OfK (M3 + 1) (M3 + 1 + 1) M3 (OUT ++ (cs.take j).flatMap fun q => wdC k :: q) v w5 wr)
      case atStart => exact ⟨0, _, rfl, rfl, by simpa using HOR.out⟩
      case round =>
        obtain ⟨j, v2, hj, rfl, hO2⟩ := hrel
        have HJ := hid hj
        have HO2 := hid hO2
        clear hj hO2 HOR f1
        by_cases hlj : j < nc
        · obtain ⟨q, hqj⟩ : ∃ x, cs[j]? = some x := ⟨_, List.getElem?_eq_getElem (by rw [HNC.out]; exact hlj)⟩
          obtain ⟨q0, q1, q2, q3, q4, rfl⟩ := five_ex (HC5.out q (List.mem_of_getElem? hqj))
          have hqw := HCW.out _ (List.mem_of_getElem? hqj)
          have HQW := hid hqw
          have hwx : ∃ b off, va = some ⟨b, off, none⟩ ∧ ∀ (V : World), Below w5.heap.size w5 V → ∀ i v, [q0, q1, q2, q3, q4][i]? = some v → V.cell? ⟨b, off + j * 5 + i, none⟩ = some (.int .u64 ((v : Nat) : Int)) := by
            obtain ⟨_, _, ⟨h0, _⟩ | ⟨b, off, ea, hlt, hc⟩⟩ := HVL.out
            · omega
            · exact ⟨b, off, ea, fun V hV i v hj => (hV.cell (p := ⟨b, off + j * 5 + i, none⟩) hlt).trans (by rw [Nat.add_assoc]; exact hc _ _ (wflat_at HC5.out hqj hj))⟩
          obtain ⟨b, off, rfl, hcx⟩ := hwx
          have hbel := HO2.out.o.below
          have c0 := hcx wr hbel 0 q0 rfl
          have c1 := hcx wr hbel 1 q1 rfl
          have c2 := hcx wr hbel 2 q2 rfl
          have c3 := hcx wr hbel 3 q3 rfl
          have c4 := hcx wr hbel 4 q4 rfl
          rw [Nat.add_zero] at c0
          obtain ⟨wa, hwa, hba, hsa, hla⟩ := laid wr #[.int .u64 0, .int .u64 0, .int .u64 0, .int .u64 0, .int .u64 0] 53
          obtain ⟨F, hF⟩ : ∃ F, wr.heap.size = F := ⟨_, rfl⟩
          rw [hF] at hla hsa
          have k0 := free_laid (i := 0) hla
          have k1 := free_laid (i := 1) hla
          have k2 := free_laid (i := 2) hla
          have k3 := free_laid (i := 3) hla
          have k4 := free_laid (i := 4) hla
          have m0 := cell_laid (i := 0) hla rfl
          have m1 := cell_laid (i := 1) hla rfl
          have m2 := cell_laid (i := 2) hla rfl
          have m3 := cell_laid (i := 3) hla rfl
          have m4 := cell_laid (i := 4) hla rfl
          have HFB := hid (set_laid (i := 4) (set_laid (i := 3) (set_laid (i := 2) (set_laid (i := 1) (set_laid (i := 0) hla (.int .u64 ((q0 : Nat) : Int))) (.int .u64 ((q1 : Nat) : Int))) (.int .u64 ((q2 : Nat) : Int))) (.int .u64 ((q3 : Nat) : Int))) (.int .u64 ((q4 : Nat) : Int)))
          have hNW : ∀ i, wr.heap.size ≤ (⟨F, i, none⟩ : Addr).block := fun i => by show wr.heap.size ≤ F; omega
          have HBW := hid (((((hba.setCell (hNW 0) (.int .u64 ((q0 : Nat) : Int))).setCell (hNW 1) (.int .u64 ((q1 : Nat) : Int))).setCell (hNW 2) (.int .u64 ((q2 : Nat) : Int))).setCell (hNW 3) (.int .u64 ((q3 : Nat) : Int))).setCell (hNW 4) (.int .u64 ((q4 : Nat) : Int)))
          have HQJ := hid hqj
          clear hla hNW hcx hqj hbel hqw
          go_upto_region 12 with (fail)
          obtain ⟨wS, hwS⟩ : ∃ wS, wS = (((((wa.setCell ⟨F, 0, none⟩ (.int .u64 ((q0 : Nat) : Int))).setCell ⟨F, 1, none⟩ (.int .u64 ((q1 : Nat) : Int))).setCell ⟨F, 2, none⟩ (.int .u64 ((q2 : Nat) : Int))).setCell ⟨F, 3, none⟩ (.int .u64 ((q3 : Nat) : Int))).setCell ⟨F, 4, none⟩ (.int .u64 ((q4 : Nat) : Int))) := ⟨_, rfl⟩
          rw [← hwS] at HFB HBW ⊢
          clear hwS c0 c1 c2 c3 c4 k0 k1 k2 k3 k4 m0 m1 m2 m3 m4 hwa hba hsa wa
          have HOS := hid (HO2.out.o.grow HBW.out)
          have HES := hid (keep_laid HO2.out.e HBW.out)
          have hFD : F ≠ M3 + 1 := by rintro rfl; have h1 := HFB.out; rw [HOS.out.blk] at h1; cases h1
          have HFD := hid hFD
          have hne1 : ∀ V : World, V.heap[M3 + 1 + 1]? = wS.heap[M3 + 1 + 1]? → V.heap[F]? = wS.heap[F]? → ∃ z : R12 (M3 + 1) (M3 + 1 + 1) F q0, V = z.v := fun V e1 e2 => ⟨⟨V, cell_laid (e1.trans HES.out) rfl, cell_laid (e2.trans HFB.out) rfl⟩, rfl⟩
          have HCL := hid hne1
          have hdr := hne1 wS.drew rfl rfl
          haveI : Nonempty (R12 (M3 + 1) (M3 + 1 + 1) F q0) := hdr.elim fun z _ => ⟨z⟩
          have r1 : ∀ z : R12 (M3 + 1) (M3 + 1 + 1) F q0, z.v.cell? ⟨M3 + 1 + 1, 0, none⟩ = some (.func (.func 34) #[] #[.pointer (some ⟨M3 + 1, 0, none⟩)]) := fun z => z.e0
          have r2 : ∀ z : R12 (M3 + 1) (M3 + 1 + 1) F q0, z.v.cell? ⟨F, 0, none⟩ = some (.int .u64 ((q0 : Nat) : Int)) := fun z => z.f0
          have hElt := lt_laid HES.out
          have hFlt := lt_laid HFB.out
          clear hne1 hFD
          refine wp_region_mix2 (fun w' => ∃ z : R12 (M3 + 1) (M3 + 1 + 1) F q0, w' = z.v) 10 (.q 0 (.q 1 (.q 2 (.q 3 (.q 6 (.q 7 (.h 4 (.h 5 (.h 8 (.h 9 .done)))))))))) (by kernel_rfl) (by kernel_rfl) hdr ?_
          repeat (refine wpMix2_q rfl rfl ?_; go_big_quiet_step (fail); refine wpQuiet_nil ?_)
          refine wpMix2_h rfl fun R' hR' hO => ?_
          obtain ⟨wb, hwb, hbb, hsb, hlb⟩ := laid wS.drew #[.int .u64 1, .int .u64 ((k : Nat) : Int)] 32
          have hbb1 : Below wS.heap.size wS wb := (Below.refl _ _).drew.trans hbb
          obtain ⟨Q1, hQ1⟩ : ∃ Q1, wS.heap.size = Q1 := ⟨_, rfl⟩
          have hQ1' : wS.drew.heap.size = Q1 := hQ1
          rw [hQ1'] at hlb hsb
          have HLB := hid hlb
          have HBB := hid hbb1
          clear hlb hbb hbb1
          go_wp2
          refine hR' _ _ (HCL.out _ (HBB.out.block _ hElt) (HBB.out.block _ hFlt)) ?_
          refine wpMix2_h rfl fun R' hR' hO => ?_
          have hgw := HG5.out.grow (step HOS.out.below HBB.out)
          go_wp2_with fail
          refine (word_any [(0, 2), (8, 3)] [1, k] (wdC k) _ 2 4 _ 2 _ rfl rfl ⟨by decide, by decide, .inr ⟨1, 0, rfl, by have := hgw.two; omega, fun i v hv => by
            match i, hv with
            | 0, hv => cases hv; exact hgw.p0
            | 1, hv => cases hv; exact hgw.p1
            | 2, hv => cases hv; exact hgw.p2
            | 3, hv => cases hv; exact hgw.p3⟩⟩ (fok2 _ (by decide)) (by decide) ⟨by decide, by decide, .inr ⟨Q1, 0, rfl, lt_laid HLB.out, fun i v hv => cell_laid HLB.out (by simpa [wcells] using hv)⟩⟩ (wok2 (by decide) (by omega)) (by decide) (pack_C k hk8)).mono ?_
          rintro e wc ⟨rfl, hbc⟩
          have HBC := hid (step HBB.out hbc)
          obtain ⟨WC, hWC⟩ : ∃ WC, wdC k = WC := ⟨_, rfl⟩
          rw [hWC]
          have HWC := hid hWC
          clear hWC hgw hsb hwb hQ1 hQ1'
          go_wp2
          refine hR' _ _ (HCL.out _ (HBC.out.block _ hElt) (HBC.out.block _ hFlt)) ?_
          refine wpMix2_h rfl fun R' hR' hO => ?_
          obtain ⟨wd, hwd, hbd, hsd, hld⟩ := laid wc #[.int .u64 ((WC : Nat) : Int), .int .u64 ((q0 : Nat) : Int)] 32
          obtain ⟨Q2, hQ2⟩ : ∃ Q2, wc.heap.size = Q2 := ⟨_, rfl⟩
          rw [hQ2] at hld hsd
          have HLD := hid hld
          have HBD := hid (step HBC.out hbd)
          clear hld
          go_wp2
          refine hR' _ _ (HCL.out _ (HBD.out.block _ hElt) (HBD.out.block _ hFlt)) ?_
          refine wpMix2_h rfl fun R' hR' hO => ?_
          have HOD := hid (HOS.out.grow HBD.out)
          have HLL : Hid ((OUT ++ (cs.take j).flatMap fun q => wdC k :: q).length ≤ 1000) := hid (by
            rw [List.length_append, flatW_len k _ (fun q hq => HC5.out q (List.mem_of_mem_take hq)), List.length_take, HNC.out]
            omega)
          go_wp2_with fail
          refine (put_any (M3 + 1) M3 _ [WC, q0] v2 ⟨Q2, 0, none⟩ 2 2 w5 wd HOD.out rfl (fun i u hu => cell_add (by rw [Nat.zero_add]; exact cell_laid HLD.out (by simpa [wcells] using hu))) (by have := HLL.out; omega)).mono ?_
          rintro e we ⟨⟨rv, rfl⟩, v3, hOe, hKe⟩
          have hEe := hKe.typed HOD.out (keep_laid HES.out HBD.out) (by omega) (by decide)
          have hFe := hKe.typed HOD.out (keep_laid HFB.out HBD.out) HFD.out (by decide)
          have HOE := hid hOe
          have HEE := hid hEe
          have HFE := hid hFe
          have hce := HCL.out we (hEe.trans HES.out.symm) (hFe.trans HFB.out.symm)
          clear hOe hKe hEe hFe hsd hwd hQ2
          go_wp2
          refine hR' _ _ hce ?_
          refine wpMix2_done ?_
          simp only [List.drop_succ_cons, List.drop_nil]
          go_upto_region 13 with (fail)
          have hdr2 := HCL.out we.drew (HEE.out.trans HES.out.symm) (HFE.out.trans HFB.out.symm)
          refine wp_region_mix2 (fun w' => ∃ z : R12 (M3 + 1) (M3 + 1 + 1) F q0, w' = z.v) 4 (.q 0 (.q 1 (.q 2 (.h 3 .done)))) (by kernel_rfl) (by kernel_rfl) hdr2 ?_
          repeat (refine wpMix2_q rfl rfl ?_; go_big_quiet_step (fail); refine wpQuiet_nil ?_)
          refine wpMix2_h rfl fun R' hR' hO => ?_
          have HQE : Hid (OUT ++ ((cs.take (j + 1)).flatMap fun q => wdC k :: q) = ((OUT ++ ((cs.take j).flatMap fun q => wdC k :: q)) ++ [WC, q0]) ++ [q1, q2, q3, q4]) := hid (by
            obtain ⟨h1, h2⟩ := List.getElem?_eq_some_iff.1 HQJ.out
            rw [List.take_succ_eq_append_getElem h1, List.flatMap_append, h2, ← HWC.out]
            simp)
          go_wp2_with fail
          refine (put_any (M3 + 1) M3 _ [q1, q2, q3, q4] v3 ⟨F, 1, none⟩ 4 4 w5 we.drew (HOE.out.grow (Below.refl _ _).drew) rfl (fun i u hu => cell_add (by
            rw [Nat.add_comm]
            exact cell_laid (i := i + 1) HFE.out (by simpa [wcells] using hu))) (by rw [List.length_append]; have := HLL.out; simp only [List.length_cons, List.length_nil]; omega)).mono ?_
          rintro e wf ⟨⟨rv, rfl⟩, v4, hOf, hKf⟩
          have hEf := hKf.typed (HOE.out.grow (Below.refl _ _).drew) (keep_laid HEE.out (Below.refl _ _).drew) (by omega) (by decide)
          have hFf := hKf.typed (HOE.out.grow (Below.refl _ _).drew) (keep_laid HFE.out (Below.refl _ _).drew) HFD.out (by decide)
          have HOF2 := hid hOf
          have HEF := hid hEf
          have hcf := HCL.out wf (hEf.trans HES.out.symm) (hFf.trans HFB.out.symm)
          clear hOf hKf hEf hFf
          go_wp2
          refine hR' _ _ hcf ?_
          refine wpMix2_done ?_
          simp only [List.drop_succ_cons, List.drop_nil]
          go_wp2
          go_roundg (gk - 1)
          case measure => have := HJ.out; omega
          case rel => exact ⟨j + 1, v4, by have := HJ.out; omega, by go_num, by rw [HQE.out]; exact ⟨HOF2.out, HEF.out⟩⟩
        · have e := HJ.out
          obtain rfl : j = nc := by omega
          have HFIN : Hid (WA :: listW 0 (ls.take (k + 1)) = OUT ++ ((cs.take j).flatMap fun q => wdC k :: q)) := hid (by
            obtain ⟨h1, h2⟩ := List.getElem?_eq_some_iff.1 HCK.out
            have hl : (ls.take k).length = k := by rw [List.length_take, HNL.out]; omega
            have ht : cs.take j = cs := List.take_of_length_le (by rw [HNC.out]; exact Nat.le_refl _)
            rw [List.take_succ_eq_append_getElem h1, h2, listW_snoc, hl, Nat.zero_add, ht, ← List.cons_append, HOUT.out])
          clear e HJ
          go_wp2
          go_roundg G
          case measure => have := HGG.out; have := HK.out; omega
          case rel => exact ⟨k + 1, v2, by have := HK.out; have := HGG.out; omega, by go_num, by rw [HFIN.out]; exact HO2.out⟩
    · have e := HK.out
      obtain rfl : k = C := by omega
      obtain ⟨OUT, hOUT⟩ : ∃ OUT, WA :: listW 0 (ls.take k) = OUT := ⟨_, rfl⟩
      rw [hOUT] at HOR
      have HOUT : Hid (WA :: listW 0 ls = OUT) := hid (by rw [← hOUT, List.take_of_length_le (by rw [HNL.out]; exact Nat.le_refl _)])
      have hoL : OUT.length ≤ 1000 := by
        rw [← HOUT.out, List.length_cons, listW_len ls 0 HOK.out.five]
        have hs := HSUM.out
        omega
      have HLR := hid (keep_laid HLX5.out HOR.out.o.below)
      have x3 := cell_laid (i := 3) HLR.out rfl
      have hWR := HOR.out.o.below.size
      have hDl := lt_laid HOR.out.o.blk
      have hEl := lt_laid HOR.out.e
      obtain ⟨w10, hw10, hb10, hs10, hl10⟩ := laid wr #[.slice pa np pc] 22
      have HRN := hid fun W => runs_any pa np pc W
      obtain ⟨b, hbb⟩ : ∃ b, wr.heap.size = b := ⟨_, rfl⟩
      have hrow : v.ownBlock ≠ some b := fun e => by have := own_lt HOR.out.o.row b e; omega
      clear hOUT e HK
      go_wp2_with fail
      refine (HRN.out _).mono ?_
      rintro e w11 ⟨rfl, hw11⟩
      rw [hw10] at hw11
      rw [hw11]
      clear hw11 w11
      rw [hbb] at hs10 hl10 ⊢
      have HO10 : Hid (OfK (M3 + 1) (M3 + 1 + 1) M3 OUT v w5 w10) := hid ⟨HOR.out.o.grow hb10, keep_laid HOR.out.e hb10⟩
      have hww : w.heap.size ≤ wr.heap.size := Nat.le_trans HB5.out.size hWR
      have HSP := HS.out.picks
      dsimp only at HSP
      rw [HNP.out] at HSP
      have HSPH := hid HSP
      clear HSP
      go_wp2
      refine wp_range (Bs := b) (gf := 40) (lb := #[.pointer (some ⟨b, 0, none⟩)]) rfl (enters_of Tryd.func40 (by kernel_rfl) rfl)
        (runs_seq b _ w ps pa np pc HNP.out (by omega) HSPH.out (by omega)) (fun k hk => by omega) (by omega)
        (fun o o' => ?hR) (fun _ => rfl)
        (fun pre W => ∃ v, OfK (M3 + 1) (M3 + 1 + 1) M3 (OUT ++ pre.map runN) v w5 W ∧ v.ownBlock ≠ some b ∧ b < W.heap.size)
        (fun c pre W => False)
        ?hI ?hIx ?h0 (fun t p => (t.setIfInBounds 67 (.int .i64 p.1)).setIfInBounds 68 (.int .i64 ((p.2 : Nat) : Int)) |>.setIfInBounds 11 (.int .i64 p.1) |>.setIfInBounds 12 (.int .i64 ((p.2 : Nat) : Int))) ?assign ?body ?done ?stop
      case hR =>
        have g1 := (Below.refl w10.heap.size w10).alloc (Nat.le_refl _) o
        have g2 : Below w10.heap.size w10 ((w10.alloc o).alloc o') := g1.alloc (Nat.le_of_lt (by simp)) o'
        refine ⟨fun k hk => ((HB5.out.trans ((HO10.out.o.below).mono HB5.out.size)).trans (g2.mono (by omega))).block k hk, keep_laid hl10 g2⟩
      case hI =>
        rintro s A B row ⟨v, hs, hne, hbA⟩ hg hr
        exact ⟨v, hs.abide hg hr hne (by omega) (by omega) (by omega) (by omega), hne, Nat.lt_of_lt_of_le hbA hg.size⟩
      case hIx => exact fun c s A B row hs hg hr => hs
      case h0 => exact ⟨v, by simpa using HO10.out, hrow, by omega⟩
      case assign =>
        rintro lb ⟨p1, p2⟩ W K hK
        gi_wp2
        exact hK
      case body =>
        rintro lb pre ⟨p1, p2⟩ W ⟨v2, hO2, hne2, hbW⟩ hlen
        have HO2 := hid hO2
        have HNE2 := hid hne2
        have hDW := lt_laid hO2.o.blk
        have hEW := lt_laid hO2.e
        have hWW := hO2.o.below.size
        obtain ⟨x1, hx1, hx1b⟩ := u64_nat p1
        obtain ⟨y2, hy2⟩ : ∃ y2, IntKind.i64.wrap (((p2 : Nat) : Int) - 1) = y2 := ⟨_, rfl⟩
        obtain ⟨x2, hx2, hx2b⟩ := u64_nat y2
        have HRV : Hid (runV (p1, p2) = [2, x1, x2]) := hid (by
          unfold runV
          dsimp only
          rw [hx1, hy2, hx2]
          rfl)
        have hne1 : ∀ V : World, V.heap[M3 + 1 + 1]? = W.heap[M3 + 1 + 1]? → ∃ z : R13 (M3 + 1) (M3 + 1 + 1), V = z.v := fun V e1 => ⟨⟨V, cell_laid (e1.trans HO2.out.e) rfl⟩, rfl⟩
        have HCL := hid hne1
        have hdr := hne1 W.drew rfl
        haveI : Nonempty (R13 (M3 + 1) (M3 + 1 + 1)) := hdr.elim fun z _ => ⟨z⟩
        have r1 : ∀ z : R13 (M3 + 1) (M3 + 1 + 1), z.v.cell? ⟨M3 + 1 + 1, 0, none⟩ = some (.func (.func 34) #[] #[.pointer (some ⟨M3 + 1, 0, none⟩)]) := fun z => z.e0
        have HLL : Hid ((OUT ++ pre.map runN).length ≤ 10000) := hid (by rw [List.length_append, List.length_map]; omega)
        clear hO2 hne2 hne1
        refine wpIn_block ?_
        simp only [List.setIfInBounds_toArray, List.set_cons_succ, List.set_cons_zero]
        refine wpIn_region_mix2 (fun w' => ∃ z : R13 (M3 + 1) (M3 + 1 + 1), w' = z.v) 11 (.q 0 (.q 1 (.q 2 (.q 3 (.q 4 (.q 5 (.q 6 (.h 7 (.h 8 (.h 9 (.h 10 .done))))))))))) (fun hq => hq.elim fun a h => h.elim fun w h => h) (by kernel_rfl) (by kernel_rfl) (by kernel_rfl) hdr ?_
        repeat (refine wpMix2_q rfl rfl ?_; go_big_quiet_step (fail); refine wpQuiet_nil ?_)
        have hbe : M3 + 1 + 1 < W.heap.size := hEW
        refine wpMix2_h rfl fun R' hR' hO => ?_
        obtain ⟨wb, hwb, hbb2, hsb, hlb⟩ := laid W.drew #[.int .u64 2, .int .u64 ((x1 : Nat) : Int), .int .u64 ((x2 : Nat) : Int)] 32
        have hbb1 : Below W.heap.size W wb := (Below.refl _ _).drew.trans hbb2
        obtain ⟨Q1, hQ1⟩ : ∃ Q1, W.heap.size = Q1 := ⟨_, rfl⟩
        have hQ1' : W.drew.heap.size = Q1 := hQ1
        rw [hQ1'] at hlb hsb
        have HLB := hid hlb
        have HBB := hid hbb1
        clear hlb hbb2 hbb1
        go_wp2
        refine hR' _ _ (HCL.out _ (HBB.out.block _ hbe)) ?_
        refine wpMix2_h rfl fun R' hR' hO => ?_
        have hgw := HG5.out.grow (step HO2.out.o.below HBB.out)
        go_wp2_with fail
        refine (word_gen [(0, 2), (8, 3), (16, 8)] [2, x1, x2] _ 3 4 _ 3 _ rfl rfl ⟨by decide, by decide, .inr ⟨1, 0, rfl, by have := hgw.two; omega, fun i v hv => by
          match i, hv with
          | 0, hv => cases hv; exact hgw.p0
          | 1, hv => cases hv; exact hgw.p1
          | 2, hv => cases hv; exact hgw.p2
          | 3, hv => cases hv; exact hgw.p3
          | 4, hv => cases hv; exact hgw.p4
          | 5, hv => cases hv; exact hgw.p5⟩⟩ (fok2 _ (by decide)) (by decide) ⟨by decide, by decide, .inr ⟨Q1, 0, rfl, lt_laid HLB.out, fun i v hv => cell_laid HLB.out (by simpa [wcells] using hv)⟩⟩ (fun x hx => by
            simp only [List.mem_cons, List.not_mem_nil, or_false] at hx
            rcases hx with rfl | rfl | rfl
            · decide
            · exact hx1b
            · exact hx2b) (by decide)).mono ?_
        rintro e wc ⟨rfl, hbc⟩
        have HBC := hid (step HBB.out hbc)
        obtain ⟨WC, hWC⟩ : ∃ WC, wordN [(0, 2), (8, 3), (16, 8)] [2, x1, x2] = WC := ⟨_, rfl⟩
        rw [hWC]
        have HWC : Hid (runN (p1, p2) = WC) := hid (by unfold runN; rw [HRV.out, hWC])
        clear hWC hgw hsb hwb hQ1 hQ1'
        go_wp2
        refine hR' _ _ (HCL.out _ (HBC.out.block _ hbe)) ?_
        refine wpMix2_h rfl fun R' hR' hO => ?_
        obtain ⟨wd, hwd, hbd, hsd, hld⟩ := laid wc #[.int .u64 ((WC : Nat) : Int)] 32
        obtain ⟨Q2, hQ2⟩ : ∃ Q2, wc.heap.size = Q2 := ⟨_, rfl⟩
        rw [hQ2] at hld hsd
        have HLD := hid hld
        have HBD := hid (step HBC.out hbd)
        clear hld
        go_wp2
        refine hR' _ _ (HCL.out _ (HBD.out.block _ hbe)) ?_
        refine wpMix2_h rfl fun R' hR' hO => ?_
        have HOD := hid (HO2.out.o.grow HBD.out)
        go_wp2_with fail
        refine (put_any (M3 + 1) M3 _ [WC] v2 ⟨Q2, 0, none⟩ 1 1 w5 wd HOD.out rfl (fun i u hu => cell_add (by rw [Nat.zero_add]; exact cell_laid HLD.out (by simpa [wcells] using hu))) (by have := HLL.out; omega)).mono ?_
        rintro e we ⟨⟨rv, rfl⟩, v3, hOe, hKe⟩
        have hEe := hKe.typed HOD.out (keep_laid HO2.out.e HBD.out) (by omega) (by decide)
        have hce := HCL.out we (hEe.trans HO2.out.e.symm)
        have HPOST : Hid (KeepsOthers W we ∧ Keeps (fun k => k < w.heap.size ∨ k = b) W we ∧ ∃ v, OfK (M3 + 1) (M3 + 1 + 1) M3 (OUT ++ (pre ++ [(p1, p2)]).map runN) v w5 we ∧ v.ownBlock ≠ some b ∧ b < we.heap.size) := hid (by
          refine ⟨(keepsOthers_of_below HBD.out).trans (hKe.others HOD.out), ?_, v3, ⟨?_, hEe⟩, ?_, ?_⟩
          · rintro k (hk | rfl)
            · exact (hOe.below.block k (Nat.lt_of_lt_of_le hk HB5.out.size)).trans (HO2.out.o.below.block k (Nat.lt_of_lt_of_le hk HB5.out.size)).symm
            · obtain ⟨o, ho⟩ : ∃ o, W.heap[k]? = some o := ⟨_, Array.getElem?_eq_getElem hbW⟩
              rw [hKe.same k o (keep_laid ho HBD.out) (by omega) HNE2.out, ho]
          · rw [List.map_append, ← List.append_assoc, List.map_cons, List.map_nil, HWC.out]
            exact hOe
          · rcases hKe.moved with hm | hm
            · rw [hm]; exact HNE2.out
            · intro e
              have := hm b e
              have := HBD.out.size
              omega
          · have := hKe.size
            have := HBD.out.size
            omega)
        clear hOe hKe hEe hsd hwd hQ2
        go_wp2
        refine hR' _ _ hce ?_
        refine wpMix2_done ?_
        simp only [List.drop_succ_cons, List.drop_nil]
        go_wp2
        exact HPOST.out
      case done =>
        rintro D xs W hD rfl ⟨v2, hO2, -, -⟩ hK
        have hc5 := cell_laid (i := 0) hO2.o.blk rfl
        obtain ⟨a9, c9, rfl, -⟩ := Leads.of_own hO2.o.row
        have KK := hid hK
        have HO := hid hO2
        clear hK hO2
        go_wp2
        refine leaves_mark KK.out (results_tmp2 rfl _ _ _) ⟨_, M3, rfl, ?_, by rw [← HM3.out]; exact HB5.out.size, below_mark (HB5.out.trans (HO.out.o.below.mono HB5.out.size)) (by omega) KK.out⟩
        have hEQ : OUT ++ (runsL ps).map runN = ofW ⟨((k : Nat) : Int), ((P : Nat) : Int), ls, ps⟩ := by
          rw [HOF.out, HC1.out, HP1.out, HWA.out, HOUT.out]
          congr 1
          unfold runW
          refine List.map_congr_left fun p hp => ?_
          obtain ⟨h1, h2, h3⟩ := runs_mem _ _ p hp
          have h4 := HPK.out p.1 h3
          exact runN_eq p (by omega) (by omega) h1 h2
        have := own_mark HO.out.o.row KK.out (.deferred none)
        rw [show (Value.slice a9 (OUT ++ (runsL ps).map runN).length c9) = .slice a9 (OUT.length + (runsL ps).length) c9 by simp, hEQ] at this
        exact this
      case stop =>
        rintro D c pre W hD hS hF
        exact hF.elim
end Go.Proofs.YtpehnahmdfoobaaDoor
