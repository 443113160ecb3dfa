/- Lists linked both ways: the iterator over nodes. -/
import Derived.Test.YtoihjmdpbbcbjaaDbl4
import Derived.RangeFuncNested
import Derived.RangeFuncCalls
import Derived.TacticsInMore
import Derived.LoopNIn
import Derived.LoopIn
import Derived.OneCell
namespace Go.Proofs.Ytoihjmdpbbcbjaa
open Go.RowKit
open Go.Proofs
set_option linter.unusedVariables false
attribute [local go_sem] Oper.semAt_some

/-- What the iterator reads of its variables. -/
structure RN (X Lb head : Nat) where
  v : World
  x0 : v.cell? ⟨X, 0, none⟩ = some (.pointer (some ⟨Lb, 0, none⟩))
  b3 : v.cell? ⟨Lb, 3, none⟩ = some (.int .u64 ((head : Nat) : Int))
theorem Turn.grown {mb s0 : Nat} {A B : World} (h : A.grownBy B (some mb)) : Turn mb s0 A B := ⟨some mb, h, fun r e => by cases e; exact .inl rfl⟩
theorem wAt_eq {M : Mem} {p k x : Nat} (h : M.W[posN p k]? = some x) : wAt M p k = x := by unfold wAt; rw [List.getD_eq_getElem?_getD, h]; rfl
theorem w_ex {M : Mem} {n p k : Nat} (hn : M.W.length = n) (hm : M.L.length = n) (h : liveN M (posN p k) = true) : M.W[posN p k]? = some (wAt M p k) := by
  have := live_lt h
  rw [hm, ← hn] at this
  rw [wAt_eq (List.getElem?_eq_getElem this)]
  exact List.getElem?_eq_getElem this

def endN (M : Mem) (head : Nat) : Option (List Tw × List Nat × Nat) → Option (List Tw × List Nat)
  | none => none
  | some (out, met, ahead) => if wAt M head 1 = ahead then some (out, met) else none
theorem nodesN_none {M : Mem} {head : Nat} (h : takeP M head (List.range 2) [] = none) : nodesN M head = none := by unfold nodesN; rw [h]
theorem nodesN_some {M : Mem} {head : Nat} {m0 : List Nat} (h : takeP M head (List.range 2) [] = some m0) : nodesN M head = endN M head (goN M 4101 0 (wAt M head 0) m0 []) := by
  unfold nodesN
  simp only [h]
  generalize goN M 4101 0 (wAt M head 0) m0 [] = r
  cases r <;> rfl
theorem goN_zero {M : Mem} {f ahead : Nat} {met : List Nat} {out : List Tw} : goN M (f + 1) ahead 0 met out = some (out, met, ahead) := by unfold goN; rw [if_pos rfl]
theorem goN_none {M : Mem} {f ahead place : Nat} {met : List Nat} {out : List Tw} (hp : place ≠ 0) (h : takeP M place (List.range 4) met = none) : goN M (f + 1) ahead place met out = none := by unfold goN; rw [if_neg hp, h]
theorem goN_some {M : Mem} {f ahead place : Nat} {met met' : List Nat} {out : List Tw} (hp : place ≠ 0) (h : takeP M place (List.range 4) met = some met') :
    goN M (f + 1) ahead place met out = if wAt M place 3 = ahead then goN M f place (wAt M place 2) met' (out ++ [(place, wAt M place 0, wAt M place 1)]) else none := by
  conv => lhs; unfold goN
  rw [if_neg hp, h]
theorem wAt_lt {M : Mem} (hW : ∀ x ∈ M.W, x < 18446744073709551616) (p k : Nat) : wAt M p k < 18446744073709551616 := by
  unfold wAt
  rw [List.getD_eq_getElem?_getD]
  cases h : M.W[posN p k]? with
  | none => simp
  | some x => exact hW x (List.mem_of_getElem? h)

theorem wpIn_scope_wide {P : Program} {n : Nat} {c : Code} {Q : Exit → Act → World → Prop} {a : Act} {w : World} (h : c.wpIn Fence.wide n P (Exit.noGoto Q) a w) : (Code.scope c).wpIn Fence.wide n P Q a w := wpIn_wide.2 (wp_scope_straight (wpIn_wide.1 h))

set_option maxRecDepth 100000 in
set_option maxHeartbeats 4000000 in
theorem nodes_seq (Lb mb X s0 head n : Nat) (wa : Option Addr) (wc : Nat) (la : Option Addr) (lc : Nat) (M : Mem) (kept : Nat → Prop) (hn : M.W.length = n) (hm : M.L.length = n) (hn4 : n ≤ 4096) (hh : head < 18446744073709551616) (hW : ∀ x ∈ M.W, x < 18446744073709551616)
    (k1 : kept Lb) (k2 : kept mb) (k3 : kept X) (k4 : ∀ b off, wa = some ⟨b, off, none⟩ → kept b) (k5 : ∀ b off, la = some ⟨b, off, none⟩ → kept b) (hXm : mb ≠ X) :
    SeqP (Turn mb s0) Fence.wide 4 Try.prog 63 #[.pointer (some ⟨X, 0, none⟩)] (fun t : Tw => #[twV t]) (Keeps kept)
      (fun xs W => ∃ met, nodesN M head = some (xs, met) ∧ Lst Lb mb wa wc la lc n head M met W) (fun pre c W => nodesN M head = none ∧ c = brk) 5000
      (fun W => Lst Lb mb wa wc la lc n head M [] W ∧ W.heap[X]? = some (.cells #[.pointer (some ⟨Lb, 0, none⟩)] 102 (0, 0))) := by
  intro l J W hR hJ hY h0
  obtain ⟨hL, hX⟩ := hR
  have HN := hid hn
  have HM := hid hm
  have HXM := hid hXm
  have HL := hid hL
  have HX := hid hX
  have HJ0 := hid h0
  have HJ := hid hJ
  have HY := hid hY
  have HK := hid (show ∀ (met : List Nat) (A B : World), Lst Lb mb wa wc la lc n head M met A → A.heap[X]? = some (.cells #[.pointer (some ⟨Lb, 0, none⟩)] 102 (0, 0)) → Keeps kept A B → Lst Lb mb wa wc la lc n head M met B ∧ B.heap[X]? = some (.cells #[.pointer (some ⟨Lb, 0, none⟩)] 102 (0, 0)) from
    fun met A B h hx hk => ⟨h.keeps hk k1 k2 k4 k5, (hk _ k3).trans hx⟩)
  have HW := hid hW
  obtain ⟨RES, hRES⟩ : ∃ R, nodesN M head = R := ⟨_, rfl⟩
  rw [hRES]
  have HRES := hid hRES
  have hcl : ∀ (met : List Nat) (V : World), Lst Lb mb wa wc la lc n head M met V → V.heap[X]? = some (.cells #[.pointer (some ⟨Lb, 0, none⟩)] 102 (0, 0)) → ∃ z : RN X Lb head, V = z.v := fun met V h hx => ⟨⟨V, cell_laid hx rfl, cell_laid h.blk rfl⟩, rfl⟩
  have HCL := hid hcl
  have hdr := hcl [] W.drew (hL.grow (Below.refl _ _).drew) (keep_laid hX (Below.refl _ _).drew)
  haveI : Nonempty (RN X Lb head) := hdr.elim fun z _ => ⟨z⟩
  have q0 : ∀ z : RN X Lb head, z.v.cell? ⟨X, 0, none⟩ = some (.pointer (some ⟨Lb, 0, none⟩)) := fun z => z.x0
  have q3 : ∀ z : RN X Lb head, z.v.cell? ⟨Lb, 3, none⟩ = some (.int .u64 ((head : Nat) : Int)) := fun z => z.b3
  clear hL hX h0 hJ hY hn hm hXm hRES hcl k1 k2 k3 k4 k5 hW
  refine callsIn_of_wp Try.func63 rfl trivial ?_ rfl
  simp only [Try.ntmps63, List.size_toArray, List.length_cons, List.length_nil, Nat.reduceAdd, Nat.reduceSub, Array.replicate_succ, Array.replicate_zero, List.push_toArray, List.append_toArray, List.nil_append, List.cons_append]
  gi_wp2
  refine wpIn_scope_wide ?_
  gi_wp2
  have HTK := hid (fun V h => takes_any head 2 V h HM.out hn4 hh (by decide) (by decide) (met := []) (Lb := Lb) (mb := mb) (wa := wa) (wc := wc) (la := la) (lc := lc) (head := head) (M := M))
  refine wpIn_region_mixT (fun V => ∃ z : RN X Lb head, V = z.v) 5 (.q 0 (.q 1 (.q 2 (.q 3 (.q 4 .done))))) (fun ⟨a, w, h⟩ => by rcases h with ⟨v, xs, e, -⟩ | ⟨c, pre, e, -⟩ <;> cases e) (by kernel_rfl) (by kernel_rfl) hdr ?_
  clear hdr
  repeat (refine wpMix2_q rfl rfl ?_; go_big_quiet_step (fail); refine wpQuiet_nil ?_)
  refine wpMix2_done ?_
  simp only [List.drop_succ_cons, List.drop_zero]
  gi_wp2_with fail
  refine ⟨trivial, ?_⟩
  refine (callsIn_wide.2 (HTK.out _ (HL.out.grow (Below.refl _ _).drew))).mono ?_
  rintro e w2 ⟨hg2, ⟨m0, hm0, rfl, hL2⟩ | ⟨hno, rfl⟩⟩
  case' inr =>
    have HE : Hid (RES = none) := hid (by rw [← HRES.out]; exact nodesN_none hno)
    exact ⟨rfl, .inr ⟨brk, [], rfl, ⟨HE.out, rfl⟩, HJ.out _ _ _ (HJ.out _ _ _ HJ0.out (Turn.grow ((Below.refl _ _).drew))) (Turn.grown hg2)⟩⟩
  case' inl =>
    have HL2 := hid hL2
    have HX2 := hid (keep_grown (keep_laid HX.out ((Below.refl _ W).drew)) hg2 (fun e => HXM.out (Option.some.inj e)))
    have HJ2 := hid (HJ.out _ _ _ (HJ.out _ _ _ HJ0.out (Turn.grow ((Below.refl _ W).drew))) (Turn.grown (s0 := s0) hg2))
    obtain ⟨s1, s2, s3, s4⟩ := takeP_spec M head _ _ _ hm0
    have HM0 := hid (show m0.Nodup ∧ ∀ x ∈ m0, x < n from ⟨s2 List.nodup_nil, fun x hx => (s4 x hx).elim (fun h => nomatch h) (fun h => by have := live_lt h; rwa [HM.out] at this)⟩)
    have HM2 : Hid (m0.length = 2) := hid (by rw [s3]; rfl)
    obtain ⟨P0, hP0⟩ : ∃ P, wAt M head 0 = P := ⟨_, rfl⟩
    have HP0 : Hid (M.W[posN head 0]? = some P0) := hid (by rw [← hP0]; exact w_ex HN.out HM.out (s1 0 (by decide)))
    have hP0l : P0 < 18446744073709551616 := by rw [← hP0]; exact wAt_lt HW.out _ _
    obtain ⟨P1, hP1⟩ : ∃ P, wAt M head 1 = P := ⟨_, rfl⟩
    have HP1 : Hid (M.W[posN head 1]? = some P1) := hid (by rw [← hP1]; exact w_ex HN.out HM.out (s1 1 (by decide)))
    have HP1e := hid hP1
    have HR2 : Hid (endN M head (goN M 4101 0 P0 m0 []) = RES) := hid (by rw [← HRES.out, nodesN_some hm0, hP0])
    have HH := hid (fun (met : List Nat) (p k x : Nat) (V : World) (h : Lst Lb mb wa wc la lc n head M met V) (hp : p < 18446744073709551616) (hk : k ≤ 1000) (hx : M.W[posN p k]? = some x) => holds_any p k x V h HN.out hp hk hx)
    have hdr := HCL.out _ _ (hL2.grow (Below.refl _ _).drew) (keep_laid HX2.out (Below.refl _ _).drew)
    clear hg2 hm0 hL2 s1 s2 s3 s4 hP0 hP1 HTK
    gi_wp2
    refine wpIn_region_mixT (fun V => ∃ z : RN X Lb head, V = z.v) 8 (.q 0 (.q 1 (.q 2 (.q 3 (.q 4 (.h 5 (.q 6 (.q 7 .done)))))))) (fun ⟨a, w, h⟩ => by rcases h with ⟨v, xs, e, -⟩ | ⟨c, pre, e, -⟩ <;> cases e) (by kernel_rfl) (by kernel_rfl) hdr ?_
    clear hdr
    repeat (refine wpMix2_q rfl rfl ?_; go_big_quiet_step (fail); refine wpQuiet_nil ?_)
    refine wpMix2_h rfl fun R' hR' hO => ?_
    go_wp2_with fail
    refine (HH.out _ head 0 P0 _ (HL2.out.grow (Below.refl _ _).drew) hh (by decide) HP0.out).mono ?_
    rintro e w3 ⟨rfl, hb3⟩
    have HL3 := hid ((HL2.out.grow (Below.refl _ _).drew).grow hb3)
    have HX3 := hid (keep_laid (keep_laid HX2.out (Below.refl _ _).drew) hb3)
    have HJ3 := hid (HJ.out _ _ _ (HJ.out _ _ _ HJ2.out (Turn.grow ((Below.refl _ _).drew))) (Turn.grow hb3))
    go_wp2
    refine hR' _ _ (HCL.out _ _ HL3.out HX3.out) ?_
    clear hR' hO R' hb3
    repeat (refine wpMix2_q rfl rfl ?_; go_big_quiet_step (fail); refine wpQuiet_nil ?_)
    refine wpMix2_done ?_
    simp only [List.drop_succ_cons, List.drop_zero]
    gi_wp2
    refine wpIn_label ?_
    gi_wp2
    gi_loopw [3, 4] (fun t3 t4 wr => ∃ (f ahead place : Nat) (met : List Nat) (pre : List Tw), t3 = .int .u64 ((ahead : Nat) : Int) ∧ t4 = .int .u64 ((place : Nat) : Int) ∧ place < 18446744073709551616 ∧ ahead < 18446744073709551616 ∧ Hid (Lst Lb mb wa wc la lc n head M met wr) ∧ Hid (wr.heap[X]? = some (.cells #[.pointer (some ⟨Lb, 0, none⟩)] 102 (0, 0))) ∧ Hid (J pre wr) ∧ Hid (endN M head (goN M f ahead place met pre) = RES) ∧ Hid (met.Nodup ∧ ∀ x ∈ met, x < n) ∧ Hid (4101 ≤ f + met.length) ∧ Hid (4 * pre.length + 2 ≤ met.length)) (fun _ _ wr => 5000 - metLen mb wr)
    case atStart => exact ⟨4101, 0, P0, m0, [], rfl, rfl, hP0l, by omega, HL3, HX3, HJ3, HR2, HM0, hid (by omega), hid (by rw [HM2.out]; simp)⟩
    case round =>
      obtain ⟨f, ahead, place, met, pre, rfl, rfl, hpl, hal, hL, hX, hJs, hR, hmet, hf, hpre⟩ := hrel
      have hlen := nodup_lt hmet.out.1 hmet.out.2
      obtain ⟨f1, hf1⟩ : ∃ f1, f = f1 + 1 := ⟨f - 1, by have := hf.out; omega⟩
      have HLEN := hid hlen
      clear hlen
      by_cases h0 : place = 0
      · subst h0
        have HR3 : Hid ((if P1 = ahead then some (pre, met) else none) = RES) := hid (by rw [← hR.out, hf1, goN_zero]; unfold endN; rw [HP1e.out])
        have hdr := HCL.out _ _ (hL.out.grow (Below.refl _ _).drew) (keep_laid hX.out (Below.refl _ _).drew)
        have HHP := hid (HH.out _ head 1 P1 _ (hL.out.grow (Below.refl _ _).drew) hh (by decide) HP1.out)
        clear hf1
        by_cases he : P1 = ahead
        case' pos =>
          subst he
          rw [if_pos rfl] at HR3
          have tq : (((P1 : Nat) : Int) == ((P1 : Nat) : Int)) = true := by simp
        case' neg =>
          rw [if_neg he] at HR3
          have tq : (((P1 : Nat) : Int) == ((ahead : Nat) : Int)) = false := by simp; omega
        all_goals
          gi_wp2
          refine wpIn_region_mixT (fun V => ∃ z : RN X Lb head, V = z.v) 8 (.q 0 (.q 1 (.q 2 (.q 3 (.q 4 (.q 6 (.h 5 (.q 7 .done)))))))) (fun ⟨a, w, h⟩ => by rcases h with ⟨v, xs, e, -⟩ | ⟨c, pre, e, -⟩ <;> cases e) (by kernel_rfl) (by kernel_rfl) hdr ?_
          clear hdr
          repeat (refine wpMix2_q rfl rfl ?_; go_big_quiet_step (fail); refine wpQuiet_nil ?_)
          refine wpMix2_h rfl fun R' hR' hO => ?_
          go_wp2_with fail
          refine HHP.out.mono ?_
          rintro e w4 ⟨rfl, hb4⟩
          have HL4 := hid ((hL.out.grow (Below.refl _ _).drew).grow hb4)
          have HX4 := hid (keep_laid (keep_laid hX.out (Below.refl _ _).drew) hb4)
          have HJ4 := hid (HJ.out _ _ _ (HJ.out _ _ _ hJs.out (Turn.grow ((Below.refl _ _).drew))) (Turn.grow hb4))
          go_wp2
          refine hR' _ _ (HCL.out _ _ HL4.out HX4.out) ?_
          clear hR' hO R' hb4
          repeat (refine wpMix2_q rfl rfl ?_; go_big_quiet_step (fail); refine wpQuiet_nil ?_)
          refine wpMix2_done ?_
          simp only [List.drop_succ_cons, List.drop_zero]
          gi_wp2_with fail
          refine ⟨trivial, ?_⟩
        · refine (callsIn_wide.2 (need_no _)).mono ?_
          rintro e w5 ⟨rfl, rfl⟩
          exact ⟨rfl, .inr ⟨brk, pre, rfl, ⟨HR3.out.symm, rfl⟩, HJ4.out⟩⟩
        · refine (callsIn_wide.2 (need_yes _)).mono ?_
          rintro e w5 ⟨rfl, rfl⟩
          gi_wp2
          rw [Exit.noGoto_normal]
          go_end0
          exact .inl ⟨_, pre, rfl, ⟨met, HR3.out.symm, HL4.out⟩, HJ4.out⟩
      · have t0 : (((place : Nat) : Int) != 0) = true := by simp; omega
        have x0 := cell_laid (i := 0) hX.out rfl
        have HTK := hid (takes_any place 4 _ hL.out HM.out hn4 hpl (by decide) (by have := HLEN.out; omega))
        have HP0n := hid h0
        have HF1 := hid hf1
        clear hf1 h0
        gi_wp2_with fail
        refine ⟨trivial, ?_⟩
        refine (callsIn_wide.2 HTK.out).mono ?_
        rintro e w4 ⟨hg4, ⟨met', hmet', rfl, hL4⟩ | ⟨hno, rfl⟩⟩
        case' inr =>
          have HE : Hid (RES = none) := hid (by rw [← hR.out, HF1.out, goN_none HP0n.out hno]; rfl)
          exact ⟨rfl, .inr ⟨brk, pre, rfl, ⟨HE.out, rfl⟩, HJ.out _ _ _ hJs.out (Turn.grown hg4)⟩⟩
        case' inl =>
          have HL4 := hid hL4
          have HX4 := hid (keep_grown hX.out hg4 (fun e => HXM.out (Option.some.inj e)))
          have HJ4 := hid (HJ.out _ _ _ hJs.out (Turn.grown (s0 := s0) hg4))
          obtain ⟨s1, s2, s3, s4⟩ := takeP_spec M place _ _ _ hmet'
          have HM4 := hid (show met'.Nodup ∧ ∀ x ∈ met', x < n from ⟨s2 hmet.out.1, fun x hx => (s4 x hx).elim (fun h => hmet.out.2 x h) (fun h => by have := live_lt h; rwa [HM.out] at this)⟩)
          have HLEN4 : Hid (met'.length = met.length + 4) := hid (by rw [s3]; rfl)
          obtain ⟨A0, hA0⟩ : ∃ P, wAt M place 0 = P := ⟨_, rfl⟩
          have HA0 : Hid (M.W[posN place 0]? = some A0) := hid (by rw [← hA0]; exact w_ex HN.out HM.out (s1 0 (by decide)))
          obtain ⟨A1, hA1⟩ : ∃ P, wAt M place 1 = P := ⟨_, rfl⟩
          have HA1 : Hid (M.W[posN place 1]? = some A1) := hid (by rw [← hA1]; exact w_ex HN.out HM.out (s1 1 (by decide)))
          obtain ⟨A2, hA2⟩ : ∃ P, wAt M place 2 = P := ⟨_, rfl⟩
          have HA2 : Hid (M.W[posN place 2]? = some A2) := hid (by rw [← hA2]; exact w_ex HN.out HM.out (s1 2 (by decide)))
          have hA2l : A2 < 18446744073709551616 := by rw [← hA2]; exact wAt_lt HW.out _ _
          obtain ⟨A3, hA3⟩ : ∃ P, wAt M place 3 = P := ⟨_, rfl⟩
          have HA3 : Hid (M.W[posN place 3]? = some A3) := hid (by rw [← hA3]; exact w_ex HN.out HM.out (s1 3 (by decide)))
          have HR4 : Hid (endN M head (if A3 = ahead then goN M f1 place A2 met' (pre ++ [(place, A0, A1)]) else none) = RES) := hid (by rw [← hR.out, HF1.out, goN_some HP0n.out hmet', hA0, hA1, hA2, hA3])
          have x4 := cell_laid (i := 0) HX4.out rfl
          clear hg4 hmet' hL4 s1 s2 s3 s4 hA0 hA1 hA2 hA3 HTK x0
          by_cases he : A3 = ahead
          case' neg =>
            rw [if_neg he] at HR4
            have tq : (((A3 : Nat) : Int) == ((ahead : Nat) : Int)) = false := by simp; omega
            gi_wp2_with fail
            refine ⟨trivial, ?_⟩
            refine (callsIn_wide.2 (HH.out _ place 3 A3 _ HL4.out hpl (by decide) HA3.out)).mono ?_
            rintro e w5 ⟨rfl, hb5⟩
            have HJ5 := hid (HJ.out _ _ _ HJ4.out (Turn.grow (Bs := mb) (s0 := s0) hb5))
            gi_wp2_with fail
            refine ⟨trivial, ?_⟩
            refine (callsIn_wide.2 (need_no _)).mono ?_
            rintro e w6 ⟨rfl, rfl⟩
            exact ⟨rfl, .inr ⟨brk, pre, rfl, ⟨HR4.out.symm, rfl⟩, HJ5.out⟩⟩
          case' pos =>
            subst he
            rw [if_pos rfl] at HR4
            have tq : (((A3 : Nat) : Int) == ((A3 : Nat) : Int)) = true := by simp
            gi_wp2_with fail
            refine ⟨trivial, ?_⟩
            refine (callsIn_wide.2 (HH.out _ place 3 A3 _ HL4.out hpl (by decide) HA3.out)).mono ?_
            rintro e w5 ⟨rfl, hb5⟩
            have HL5 := hid (HL4.out.grow hb5)
            have HX5 := hid (keep_laid HX4.out hb5)
            have HJ5 := hid (HJ.out _ _ _ HJ4.out (Turn.grow (Bs := mb) (s0 := s0) hb5))
            clear hb5 x4
            gi_wp2_with fail
            refine ⟨trivial, ?_⟩
            refine (callsIn_wide.2 (need_yes _)).mono ?_
            rintro e w6 ⟨rfl, hw6⟩
            subst hw6
            have hdr := HCL.out _ _ (HL5.out.grow (Below.refl _ _).drew) (keep_laid HX5.out (Below.refl _ _).drew)
            gi_wp2
            refine wpIn_region_mixT (fun V => ∃ z : RN X Lb head, V = z.v) 9 (.q 0 (.q 1 (.q 2 (.q 3 (.q 5 (.q 6 (.h 4 (.h 7 (.q 8 .done))))))))) (fun ⟨a, w, h⟩ => by rcases h with ⟨v, xs, e, -⟩ | ⟨c, pre, e, -⟩ <;> cases e) (by kernel_rfl) (by kernel_rfl) hdr ?_
            clear hdr
            repeat (refine wpMix2_q rfl rfl ?_; go_big_quiet_step (fail); refine wpQuiet_nil ?_)
            refine wpMix2_h rfl fun R' hR' hO => ?_
            go_wp2_with fail
            refine (HH.out _ place 0 A0 _ (HL5.out.grow (Below.refl _ _).drew) hpl (by decide) HA0.out).mono ?_
            rintro e w7 ⟨rfl, hb7⟩
            have HL7 := hid ((HL5.out.grow (Below.refl _ _).drew).grow hb7)
            have HX7 := hid (keep_laid (keep_laid HX5.out (Below.refl _ _).drew) hb7)
            have HJ7 := hid (HJ.out _ _ _ (HJ.out _ _ _ HJ5.out (Turn.grow ((Below.refl _ _).drew))) (Turn.grow hb7))
            go_wp2
            refine hR' _ _ (HCL.out _ _ HL7.out HX7.out) ?_
            clear hR' hO R' hb7
            refine wpMix2_h rfl fun R' hR' hO => ?_
            go_wp2_with fail
            refine (HH.out _ place 1 A1 _ HL7.out hpl (by decide) HA1.out).mono ?_
            rintro e w8 ⟨rfl, hb8⟩
            have HL8 := hid (HL7.out.grow hb8)
            have HX8 := hid (keep_laid HX7.out hb8)
            have HJ8 := hid (HJ.out _ _ _ HJ7.out (Turn.grow hb8))
            go_wp2
            refine hR' _ _ (HCL.out _ _ HL8.out HX8.out) ?_
            clear hR' hO R' hb8
            repeat (refine wpMix2_q rfl rfl ?_; go_big_quiet_step (fail); refine wpQuiet_nil ?_)
            refine wpMix2_done ?_
            simp only [List.drop_succ_cons, List.drop_zero]
            obtain ⟨fn, tmps, assign, body, hy, hRR⟩ := HY.out pre (place, A0, A1) w8 HJ8.out (by have := hpre.out; have := HLEN.out; omega)
            have hy' : (Instr.yield l #[.agg #[.int .u64 ((place : Nat) : Int), .int .u64 ((A0 : Nat) : Int), .int .u64 ((A1 : Nat) : Int)]]).run Try.prog w8 = _ := hy
            clear hy
            gi_wp2
            refine hRR.mono ?_
            rintro e w9 ⟨rfl, hJ9, hk9⟩
            obtain ⟨hL9, hX9⟩ := HK.out _ _ _ HL8.out HX8.out hk9
            have x9 := cell_laid (i := 0) hX9 rfl
            have HL9 := hid hL9
            have HX9 := hid hX9
            have HJ9 := hid hJ9
            clear hL9 hX9 hJ9 hk9 hy' hRR
            gi_wp2_with fail
            refine ⟨trivial, ?_⟩
            refine (callsIn_wide.2 (HH.out _ place 2 A2 _ HL9.out hpl (by decide) HA2.out)).mono ?_
            rintro e w10 ⟨rfl, hb10⟩
            have HL10 := hid (HL9.out.grow hb10)
            have HX10 := hid (keep_laid HX9.out hb10)
            have HJ10 := hid (HJ.out _ _ _ HJ9.out (Turn.grow (Bs := mb) (s0 := s0) hb10))
            clear hb10 x9
            gi_wp2
            go_roundw
            case rel => exact ⟨f1, place, A2, met', _, rfl, rfl, hA2l, hpl, HL10, HX10, HJ10, HR4, HM4, hid (by have := hf.out; have := HF1.out; have := HLEN4.out; omega), hid (by have := hpre.out; have := HLEN4.out; simp only [List.length_append, List.length_singleton]; omega)⟩
            case measure =>
              have e1 := metLen_eq HL10.out.ids HM4.out.1 (fun x hx => by have := HM4.out.2 x hx; omega)
              have e2 := metLen_eq hL.out.ids hmet.out.1 (fun x hx => by have := hmet.out.2 x hx; omega)
              have e3 := nodup_lt HM4.out.1 HM4.out.2
              have e4 := HLEN4.out
              rw [e1, e2]
              omega
end Go.Proofs.Ytoihjmdpbbcbjaa
