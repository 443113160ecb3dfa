/- Lists (printed by gen_ls3.py): the iterator's word. -/
import Derived.Test.YtipohagcppfgiaaGreatLs2
namespace Go.Proofs.YtipohagcppfgiaaGreat
open Go.RowKit
open Go.Proofs
set_option linter.unusedVariables false
attribute [local go_sem] Oper.semAt_some
/-- Worlds in which the iterator's variables lie so. -/
structure RIt (X H : Nat) (wa : Option Addr) (wc : Nat) (la : Option Addr) (lc n head : Nat) (M : Mem) where
 v : World
 i : Itr X H wa wc la lc n head M v
theorem Itr.word {X H wb wo wc lc n head : Nat} {la : Option Addr} {M : Mem} {V : World} (h : Itr X H (some ⟨wb, wo, none⟩) wc la lc n head M V) {q x : Nat} (hx : M.W[q]? = some x) : V.cell? ⟨wb, wo + q, none⟩ = some (.int .u64 x) := by
 have hlt := (List.getElem?_eq_some_iff.1 hx).1
 obtain ⟨b, off, e, -, hc⟩ := h.mem.w.at hlt (wcell_at hx)
 simp only [Option.some.injEq, Addr.mk.injEq, and_true] at e
 obtain ⟨rfl, rfl⟩ := e
 exact hc _ (Below.refl _ _)
theorem ids_keep {V V' : World} {mb s0 : Nat} {l : List (Nat × Nat)} {kept : Nat → Prop} (h : IdsJ V mb l) (hk : KeepsM kept s0 V V') (hs : s0 ≤ mb) : IdsJ V' mb l := by
 obtain ⟨es, clock, hb, F, hq, hD⟩ := h
 exact ⟨es, clock, hk.2 _ _ hs hb rfl, F, hq, hD⟩
theorem posL_add (p k : Nat) : posL p k = posL p 0 + k := by unfold posL; omega
set_option maxRecDepth 100000 in
set_option maxHeartbeats 8000000 in
theorem nodes_seq (X H Bs s0 head n : Nat) (wa : Option Addr) (wc : Nat) (la : Option Addr) (lc : Nat) (M : Mem) (kept : Nat → Prop) (hn : M.W.length = n) (hm : M.L.length = n) (hn1 : 1 ≤ n) (hn4 : n ≤ 4096) (hh : head < 18446744073709551616) (hW : ∀ x ∈ M.W, x < 18446744073709551616)
  (k1 : kept X) (k2 : kept H) (k4 : ∀ b off, wa = some ⟨b, off, none⟩ → kept b) (k5 : ∀ b off, la = some ⟨b, off, none⟩ → kept b) :
  SeqQ (Turn Bs s0) Fence.wide 4 Tryz.prog 97 #[.pointer (some ⟨X, 0, none⟩), .pointer (some ⟨H, 0, none⟩)] (fun t : Nd => #[ndV t]) (KeepsM kept s0)
   (fun xs => nodesW M head = some xs) (fun pre => ∀ xs, nodesW M head = some xs → pre <+: xs) (fun pre c => nodesW M head = none ∧ c = brk) 5000
   (fun W => Itr X H wa wc la lc n head M W ∧ s0 ≤ W.heap.size) := by
 intro l J Jx W hR hJ hJx hY h0
 obtain ⟨hI, hs0⟩ := hR
 have HN := hid hn
 have HM := hid hm
 have HJ0 := hid h0
 have HJ := hid hJ
 have HY := hid hY
 have HK := hid (show ∀ (A B : World), Itr X H wa wc la lc n head M A → KeepsM kept s0 A B → Itr X H wa wc la lc n head M B from fun A B h hk => h.keeps hk.1 k1 k2 k4 k5)
 have HW := hid hW
 obtain ⟨RES, hRES⟩ := nm (nodesW M head)
 rw [hRES]
 have HRES := hid hRES
 obtain ⟨wb, wo, rfl⟩ : ∃ wb wo, wa = some ⟨wb, wo, none⟩ := by
  obtain ⟨_, _, ⟨q, _⟩ | ⟨b', o', q, _⟩⟩ := hI.mem.w
  ·omega
  ·exact ⟨b', o', q⟩
 obtain ⟨V1, hV1⟩ := nm (W.alloc (.map #[] 0))
 have hb1 : Below W.heap.size W V1 := by rw [← hV1]; exact (Below.refl _ _).alloc (Nat.le_refl _) _
 have hi1 : IdsJ V1 W.heap.size (ones []) := by rw [← hV1]; exact IdsJ.made W
 obtain ⟨mb, hmb⟩ := nm (W.heap.size)
 rw [hmb] at hi1
 have hsm : s0 ≤ mb := by omega
 have HI1 := hid (hI.grow hb1)
 have HD1 := hid hi1
 have HJ1 := hid (hJ _ _ _ h0 (Turn.grow (Bs := Bs) (s0 := s0) hb1))
 have hwl := hI.mem.w.len
 have hll := hI.mem.l.len
 rw [hn] at hwl
 rw [hm] at hll
 have hmm := @run_makeMap Tryz.prog
 have HCL : Hid (∀ V, Itr X H (some ⟨wb, wo, none⟩) wc la lc n head M V → ∃ z : RIt X H (some ⟨wb, wo, none⟩) wc la lc n head M, V = z.v) := hid (fun V h => ⟨⟨V, h⟩, rfl⟩)
 haveI : Nonempty (RIt X H (some ⟨wb, wo, none⟩) wc la lc n head M) := ⟨⟨W, hI⟩⟩
 have r0 : ∀ z : RIt X H (some ⟨wb, wo, none⟩) wc la lc n head M, z.v.cell? ⟨X, 0, none⟩ = some (.slice (some ⟨wb, wo, none⟩) n wc) := fun z => clD z.i.x rfl
 have r1 : ∀ z : RIt X H (some ⟨wb, wo, none⟩) wc la lc n head M, z.v.cell? ⟨X, 1, none⟩ = some (.slice la n lc) := fun z => clD z.i.x rfl
 have r2 : ∀ z : RIt X H (some ⟨wb, wo, none⟩) wc la lc n head M, z.v.cell? ⟨X, 2, none⟩ = some (.bool M.F) := fun z => clD z.i.x rfl
 have r3 : ∀ z : RIt X H (some ⟨wb, wo, none⟩) wc la lc n head M, z.v.cell? ⟨H, 0, none⟩ = some (.int .u64 head) := fun z => clD z.i.h rfl
 have HMT : Hid (∀ (ws met : List Nat) (b : Option Addr) (m c : Nat) (V : World), Itr X H (some ⟨wb, wo, none⟩) wc la lc n head M V → IdsJ V mb (ones met) → Leads V b m c (mcells ws) → ws.length = m → (∀ w ∈ ws, w ≤ 1000000) → met.length + m ≤ 10000 → Calls Tryz.prog 98 #[.map (some mb), .agg #[.slice (some ⟨wb, wo, none⟩) n wc, .slice la n lc, .bool M.F], .slice b m c] V (fun e V' => V.grownBy V' (some mb) ∧
   ((∃ met', meetP M ws met = some met' ∧ e = .returned (.tuple #[]) ∧ IdsJ V' mb (ones met')) ∨ (meetP M ws met = none ∧ e = .panicked brk)))) := hid (fun ws met b m c V h1 h2 h3 h4 h5 h6 => by
  have := meet_any M (some ⟨wb, wo, none⟩) la wc lc mb ws b m c met V h1.mem (by rw [HM.out, HN.out]) h2 h3 h4 h5 h6
  unfold memV at this
  rw [HN.out, HM.out] at this
  exact this)
 clear hI hb1 hi1 h0 hJ hY hn hm hRES k1 k2 k4 k5 hW
 refine callsIn_of_wp Tryz.func97 rfl trivial ?_ rfl
 simp only [Tryz.ntmps97, List.size_toArray, List.length_cons, List.length_nil, Nat.reduceAdd, Nat.reduceSub, Array.replicate_succ, Array.replicate_zero, List.push_toArray, List.append_toArray, List.nil_append, List.cons_append]
 gi_wp2
 obtain ⟨D, hD⟩ := nm (V1.drew)
 have hbD : Below V1.heap.size V1 D := by rw [← hD]; exact (Below.refl _ _).drew
 have HD := hid hD
 have HI2 := hid (HI1.out.grow hbD)
 have HD2 := hid (HD1.out.grow hbD)
 have HJ2 := hid (HJ.out _ _ _ HJ1.out (Turn.grow (Bs := Bs) (s0 := s0) hbD))
 clear hD hbD
 refine wpIn_region_mixT (fun V => ∃ z : RIt X H (some ⟨wb, wo, none⟩) wc la lc n head M, V = z.v) 5 (.q 0 (.q 1 (.q 2 (.h 3 (.h 4 .done))))) (fun ⟨a, w, h⟩ => by rcases h with ⟨⟨v, e⟩, -⟩ | ⟨c, pre, e, -⟩ <;> cases e) (by kernel_rfl) (by kernel_rfl) (by rw [HD.out]; exact HCL.out _ HI2.out) ?_
 rw [HD.out]
 repeat (refine m2q rfl rfl ?_; go_big_quiet_step (fail); refine wpQuiet_nil ?_)
 obtain ⟨q0, hq0⟩ := nm (posL head 0)
 have HQ0 := hid hq0
 have hq06 : q0 ≤ 1000000 := by rw [← hq0]; unfold posL; omega
 have HAT := hid (fun V => at_any head 0 V hh (by decide))
 rw [hq0] at HAT
 clear hq0
 refine m2h rfl fun R' hR' hO => ?_
 go_wp2_with fail
 refine (HAT.out D).mono ?_
 rintro e w2 ⟨rfl, hw2⟩
 subst hw2
 go_wp2
 refine hR' _ _ (HCL.out _ HI2.out) ?_
 clear hR' hO R'
 refine m2h rfl fun R' hR' hO => ?_
 obtain ⟨w3, hw3, hb3, hs3, hl3⟩ := laid w2 #[.int .i64 q0] 3
 obtain ⟨B3, hB3⟩ := nm (w2.heap.size)
 rw [hB3] at hl3
 have HI3 := hid (HI2.out.grow hb3)
 have HD3 := hid (HD2.out.grow hb3)
 have HJ3 := hid (HJ.out _ _ _ HJ2.out (Turn.grow (Bs := Bs) (s0 := s0) hb3))
 have HL3 : Hid (Leads w3 (some ⟨B3, 0, none⟩) 1 1 (mcells [q0])) := hid ⟨Nat.le_refl _, by decide, .inr ⟨B3, 0, rfl, llD hl3, fun i v hv => by
  match i, hv with
  | 0, hv => simp [mcells] at hv; subst hv; exact clD hl3 rfl⟩⟩
 clear hb3 hs3 hl3
 go_wp2
 refine hR' _ _ (HCL.out _ HI3.out) ?_
 clear hR' hO R'
 refine m2d ?_
 simp only [List.drop_succ_cons, List.drop_zero]
 gi_wp2_with fail
 refine ⟨trivial, ?_⟩
 refine (callsIn_wide.2 (HMT.out [q0] [] (some ⟨B3, 0, none⟩) 1 1 w3 HI3.out HD3.out HL3.out rfl (fun w hw => by rw [List.mem_singleton] at hw; omega) (by decide))).mono ?_
 rintro e w4 ⟨hg4, ⟨m0, hm0, rfl, hi4⟩ | ⟨hno, rfl⟩⟩
 case' inr =>
  have HE : Hid (RES = none) := hid (by rw [← HRES.out]; exact nodesW_none (by rw [takeP_meet]; simp only [List.map_cons, List.map_nil]; rw [HQ0.out]; exact hno))
  exact ⟨rfl, .inr ⟨brk, [], rfl, ⟨HE.out, rfl⟩, HJ.out _ _ _ HJ3.out (Turn.grown2 hg4 hsm (ids_map HD3.out))⟩⟩
 case' inl =>
  have HTK : Hid (takeP M head [0] [] = some m0) := hid (by rw [takeP_meet]; simp only [List.map_cons, List.map_nil]; rw [HQ0.out]; exact hm0)
  have HI4 := hid (HI3.out.put HD3.out hg4)
  have HD4 := hid hi4
  have HJ4 := hid (HJ.out _ _ _ HJ3.out (Turn.grown2 (Bs := Bs) (s0 := s0) hg4 hsm (ids_map HD3.out)))
  obtain ⟨s1, s2, s3, s4⟩ := takeP_spec M head _ _ _ HTK.out
  have HM0 := hid (show m0.Nodup ∧ ∀ x ∈ m0, x < n from ⟨s2 List.nodup_nil, fun x hx => (s4 x hx).elim (fun h => nomatch h) (fun h => by have := live_lt h; rwa [HM.out] at this)⟩)
  have HM2 : Hid (m0.length = 1) := hid (by rw [s3]; rfl)
  obtain ⟨P0, hP0⟩ := nm (wAt M head 0)
  have HP0 : Hid (M.W[q0]? = some P0) := hid (by rw [← hP0, ← HQ0.out]; exact w_ex HN.out HM.out (s1 0 (by decide)))
  have hP0l : P0 < 18446744073709551616 := by rw [← hP0]; exact wAt_lt HW.out _ _
  have HR2 : Hid (goW M 4101 P0 m0 [] = RES) := hid (by rw [← HRES.out, nodesW_some HTK.out, hP0])
  have hq0n : q0 < n := by rw [← HN.out]; exact (List.getElem?_eq_some_iff.1 HP0.out).1
  have f0 : ∀ z : RIt X H (some ⟨wb, wo, none⟩) wc la lc n head M, z.v.cell? ⟨wb, wo + q0, none⟩ = some (.int .u64 P0) := fun z => z.i.word HP0.out
  clear hg4 hi4 hm0 s1 s2 s3 s4 hP0
  gi_wp2
  obtain ⟨D', hD'⟩ := nm (w4.drew)
  have hbD : Below w4.heap.size w4 D' := by rw [← hD']; exact (Below.refl _ _).drew
  have HD' := hid hD'
  have HI5 := hid (HI4.out.grow hbD)
  have HD5 := hid (HD4.out.grow hbD)
  have HJ5 := hid (HJ.out _ _ _ HJ4.out (Turn.grow (Bs := Bs) (s0 := s0) hbD))
  clear hD' hbD
  refine wpIn_region_mixT (fun V => ∃ z : RIt X H (some ⟨wb, wo, none⟩) wc la lc n head M, V = z.v) 7 (.q 0 (.q 1 (.q 2 (.h 3 (.q 4 (.q 5 (.q 6 .done))))))) (fun ⟨a, w, h⟩ => by rcases h with ⟨⟨v, e⟩, -⟩ | ⟨c, pre, e, -⟩ <;> cases e) (by kernel_rfl) (by kernel_rfl) (by rw [HD'.out]; exact HCL.out _ HI5.out) ?_
  rw [HD'.out]
  repeat (refine m2q rfl rfl ?_; go_big_quiet_step (fail); refine wpQuiet_nil ?_)
  refine m2h rfl fun R' hR' hO => ?_
  go_wp2_with fail
  refine (HAT.out D').mono ?_
  rintro e w6 ⟨rfl, hw6⟩
  subst hw6
  go_wp2
  refine hR' _ _ (HCL.out _ HI5.out) ?_
  clear hR' hO R'
  repeat (refine m2q rfl rfl ?_; go_big_quiet_step (fail); refine wpQuiet_nil ?_)
  refine m2d ?_
  simp only [List.drop_succ_cons, List.drop_nil]
  clear f0
  gi_wp2
  gi_loopw [5] (fun t5 wr => ∃ (f place : Nat) (met : List Nat) (pre : List Nd), t5 = .int .u64 place ∧ place < 18446744073709551616 ∧ Hid (Itr X H (some ⟨wb, wo, none⟩) wc la lc n head M wr) ∧ Hid (IdsJ wr mb (ones met)) ∧ Hid (J pre wr) ∧ Hid (goW M f place met pre = RES) ∧ Hid (met.Nodup ∧ ∀ x ∈ met, x < n) ∧ Hid (4101 ≤ f + met.length) ∧ Hid (4 * pre.length + 1 ≤ met.length)) (fun _ wr => 5000 - metLen mb wr)
  case atStart => exact ⟨4101, P0, m0, [], rfl, hP0l, HI5, HD5, HJ5, HR2, HM0, hid (by omega), hid (by rw [HM2.out]; simp)⟩
  case round =>
   clear HI1 HD1 HJ1 HI2 HD2 HJ2 HI3 HD3 HJ3 HI4 HD4 HJ4 HI5 HD5 HJ5 HJ0 HD HD' HR2 HM0 HM2 HP0 HTK HL3
   obtain ⟨f, place, met, pre, rfl, hpl, hI, hIM, hJs, hR, hmet, hf, hpre⟩ := hrel
   have hlen := nodup_lt hmet.out.1 hmet.out.2
   obtain ⟨f1, hf1⟩ : ∃ f1, f = f1 + 1 := ⟨f - 1, by have := hf.out; omega⟩
   have HLEN := hid hlen
   have HF1 := hid hf1
   clear hlen hf1
   by_cases h0 : place = 0
   ·subst h0
    have HR3 : Hid (some pre = RES) := hid (by rw [← hR.out, HF1.out, goW_zero])
    gi_wp2
    go_end0
    exact .inl ⟨⟨_, rfl⟩, .inl ⟨pre, HR3.out.symm, hJs.out⟩⟩
   ·have t0 : (((place : Nat) : Int) != 0) = true := by simp; omega
    have HP0n := hid h0
    obtain ⟨q, hq⟩ := nm (posL place 0)
    have HAT := hid (fun V => at_any place 0 V hpl (by decide))
    rw [hq] at HAT
    have hq6 : q ≤ 5000 := by rw [← hq]; unfold posL; omega
    have HQ := hid hq
    have HP : Hid (∀ k, posL place k = q + k) := hid (fun k => by rw [← hq]; exact posL_add place k)
    clear h0 hq
    gi_wp2_with fail
    refine ⟨trivial, ?_⟩
    refine (callsIn_wide.2 (HAT.out wr)).mono ?_
    rintro e w5 ⟨rfl, hw5⟩
    subst hw5
    obtain ⟨w6, hw6, hb6, hs6, hl6⟩ := laid w5 #[.int .i64 q, .int .i64 (((q : Nat) : Int) + 1), .int .i64 (((q : Nat) : Int) + 2), .int .i64 (((q : Nat) : Int) + 3)] 3
    obtain ⟨B6, hB6⟩ := nm (w5.heap.size)
    rw [hB6] at hl6
    have HI6 := hid (hI.out.grow hb6)
    have HD6 := hid (hIM.out.grow hb6)
    have HJ6 := hid (HJ.out _ _ _ hJs.out (Turn.grow (Bs := Bs) (s0 := s0) hb6))
    have HL6 : Hid (Leads w6 (some ⟨B6, 0, none⟩) 4 4 (mcells [q, q + 1, q + 2, q + 3])) := hid ⟨Nat.le_refl _, by decide, .inr ⟨B6, 0, rfl, llD hl6, fun i v hv => by
     match i, hv with
     | 0, hv => simp [mcells] at hv; subst hv; exact clD hl6 rfl
     | 1, hv => simp [mcells] at hv; subst hv; exact clD hl6 rfl
     | 2, hv => simp [mcells] at hv; subst hv; exact clD hl6 rfl
     | 3, hv => simp [mcells] at hv; subst hv; exact clD hl6 rfl⟩⟩
    have x0 := clD (i := 0) HI6.out.x rfl
    have x1 := clD (i := 1) HI6.out.x rfl
    have x2 := clD (i := 2) HI6.out.x rfl
    have x0' := clD (i := 0) hI.out.x rfl
    have x1' := clD (i := 1) hI.out.x rfl
    have x2' := clD (i := 2) hI.out.x rfl
    clear hb6 hs6 hl6
    gi_wp2_with fail
    refine ⟨trivial, ?_⟩
    refine (callsIn_wide.2 (HMT.out [q, q + 1, q + 2, q + 3] _ (some ⟨B6, 0, none⟩) 4 4 w6 HI6.out HD6.out HL6.out rfl (fun w hw => by simp at hw; omega) (by have := HLEN.out; omega))).mono ?_
    rintro e w7 ⟨hg7, ⟨met', hm', rfl, hi7⟩ | ⟨hno, rfl⟩⟩
    case' inr =>
     have HTN : Hid (takeP M place (List.range 4) met = none) := hid (by rw [takeP_meet]; show meetP M [posL place 0, posL place 1, posL place 2, posL place 3] met = none; rw [HP.out 0, HP.out 1, HP.out 2, HP.out 3]; exact hno)
     have HE : Hid (RES = none) := hid (by rw [← hR.out, HF1.out, goW_none HP0n.out HTN.out])
     exact ⟨rfl, .inr ⟨brk, pre, rfl, ⟨HE.out, rfl⟩, HJ.out _ _ _ HJ6.out (Turn.grown2 hg7 hsm (ids_map HD6.out))⟩⟩
    case' inl =>
     have HTK : Hid (takeP M place (List.range 4) met = some met') := hid (by rw [takeP_meet]; show meetP M [posL place 0, posL place 1, posL place 2, posL place 3] met = some met'; rw [HP.out 0, HP.out 1, HP.out 2, HP.out 3]; exact hm')
     have HI7 := hid (HI6.out.put HD6.out hg7)
     have HD7 := hid hi7
     have HJ7 := hid (HJ.out _ _ _ HJ6.out (Turn.grown2 (Bs := Bs) (s0 := s0) hg7 hsm (ids_map HD6.out)))
     obtain ⟨s1, s2, s3, s4⟩ := takeP_spec M place _ _ _ HTK.out
     have HM7 := hid (show met'.Nodup ∧ ∀ x ∈ met', x < n from ⟨s2 hmet.out.1, fun x hx => (s4 x hx).elim (fun h => hmet.out.2 x h) (fun h => by have := live_lt h; rwa [HM.out] at this)⟩)
     have HLEN7 : Hid (met'.length = met.length + 4) := hid (by rw [s3]; rfl)
     obtain ⟨A0, hA0⟩ := nm (wAt M place 0)
     have HA0 : Hid (M.W[q + 0]? = some A0) := hid (by rw [← hA0, ← HP.out 0]; exact w_ex HN.out HM.out (s1 0 (by decide)))
     have hqn0 : q + 0 < n := by rw [← HN.out]; exact (List.getElem?_eq_some_iff.1 HA0.out).1
     have g0 : ∀ z : RIt X H (some ⟨wb, wo, none⟩) wc la lc n head M, z.v.cell? ⟨wb, wo + q, none⟩ = some (.int .u64 A0) := fun z => z.i.word HA0.out
     obtain ⟨A1, hA1⟩ := nm (wAt M place 1)
     have HA1 : Hid (M.W[q + 1]? = some A1) := hid (by rw [← hA1, ← HP.out 1]; exact w_ex HN.out HM.out (s1 1 (by decide)))
     have hqn1 : q + 1 < n := by rw [← HN.out]; exact (List.getElem?_eq_some_iff.1 HA1.out).1
     have g1 : ∀ z : RIt X H (some ⟨wb, wo, none⟩) wc la lc n head M, z.v.cell? ⟨wb, wo + (q + 1), none⟩ = some (.int .u64 A1) := fun z => z.i.word HA1.out
     obtain ⟨A2, hA2⟩ := nm (wAt M place 2)
     have HA2 : Hid (M.W[q + 2]? = some A2) := hid (by rw [← hA2, ← HP.out 2]; exact w_ex HN.out HM.out (s1 2 (by decide)))
     have hqn2 : q + 2 < n := by rw [← HN.out]; exact (List.getElem?_eq_some_iff.1 HA2.out).1
     have g2 : ∀ z : RIt X H (some ⟨wb, wo, none⟩) wc la lc n head M, z.v.cell? ⟨wb, wo + (q + 2), none⟩ = some (.int .u64 A2) := fun z => z.i.word HA2.out
     obtain ⟨A3, hA3⟩ := nm (wAt M place 3)
     have HA3 : Hid (M.W[q + 3]? = some A3) := hid (by rw [← hA3, ← HP.out 3]; exact w_ex HN.out HM.out (s1 3 (by decide)))
     have hqn3 : q + 3 < n := by rw [← HN.out]; exact (List.getElem?_eq_some_iff.1 HA3.out).1
     have g3 : ∀ z : RIt X H (some ⟨wb, wo, none⟩) wc la lc n head M, z.v.cell? ⟨wb, wo + (q + 3), none⟩ = some (.int .u64 A3) := fun z => z.i.word HA3.out
     have HR7 : Hid (goW M f1 A2 met' (pre ++ [(place, A0, A1, A3)]) = RES) := hid (by rw [← hR.out, HF1.out, goW_some HP0n.out HTK.out]; unfold ndAt; rw [hA0, hA1, hA2, hA3])
     have hA2l : A2 < 18446744073709551616 := by rw [← hA2]; exact wAt_lt HW.out _ _
     clear hg7 hi7 hm' s1 s2 s3 s4 hA0 hA1 hA2 hA3 x0 x1 x2 x0' x1' x2'
     gi_wp2
     obtain ⟨D7, hD7⟩ := nm (w7.drew)
     have hbD : Below w7.heap.size w7 D7 := by rw [← hD7]; exact (Below.refl _ _).drew
     have HDD := hid hD7
     have HI8 := hid (HI7.out.grow hbD)
     have HD8 := hid (HD7.out.grow hbD)
     have HJ8 := hid (HJ.out _ _ _ HJ7.out (Turn.grow (Bs := Bs) (s0 := s0) hbD))
     clear hD7 hbD
     refine wpIn_region_mixT (fun V => ∃ z : RIt X H (some ⟨wb, wo, none⟩) wc la lc n head M, V = z.v) 21 (.q 0 (.q 1 (.q 2 (.q 3 (.q 4 (.q 5 (.q 6 (.q 7 (.q 8 (.q 9 (.q 10 (.q 11 (.q 12 (.q 13 (.q 14 (.q 15 (.q 16 (.q 17 (.q 18 (.q 19 (.q 20 .done))))))))))))))))))))) (fun ⟨a, w, h⟩ => by rcases h with ⟨⟨v, e⟩, -⟩ | ⟨c, pre, e, -⟩ <;> cases e) (by kernel_rfl) (by kernel_rfl) (by rw [HDD.out]; exact HCL.out _ HI8.out) ?_
     rw [HDD.out]
     repeat (refine m2q rfl rfl ?_; go_big_quiet_step (fail); refine wpQuiet_nil ?_)
     refine m2d ?_
     simp only [List.drop_succ_cons, List.drop_zero]
     obtain ⟨fn, tmps, assign, body, hy, hRR⟩ := HY.out pre (place, A0, A1, A3) D7 HJ8.out (by have := hpre.out; have := HLEN.out; omega)
     have hy' : (Instr.yield l #[.agg #[.int .u64 place, .int .u64 A0, .int .u64 A1, .int .u64 A3]]).run Tryz.prog D7 = _ := hy
     clear hy
     gi_wp2
     refine hRR.mono ?_
     rintro e w9 (⟨rfl, hJ9, hk9⟩ | ⟨rfl, hJx9⟩)
     case' inr =>
      have HSP : Hid (∀ xs, RES = some xs → pre ++ [(place, A0, A1, A3)] <+: xs) := hid (fun xs h => goW_prefix _ _ _ _ _ (by rw [HR7.out]; exact h))
      clear hy' hRR
      gi_wp2
      refine bodyPost_ret (results_none rfl _ _ _) rfl ?_
      exact .inl ⟨⟨_, rfl⟩, .inr ⟨_, HSP.out, hJx9⟩⟩
     case' inl =>
      have HI9 := hid (HK.out _ _ HI8.out hk9)
      have HD9 := hid (ids_keep HD8.out hk9 hsm)
      have HJ9 := hid hJ9
      have x0 := clD (i := 0) HI9.out.x rfl
      have g2 := HI9.out.word HA2.out
      clear hy' hRR hJ9 hk9
      gi_wp2
      go_roundw
      case rel => exact ⟨f1, A2, met', _, rfl, hA2l, HI9, HD9, HJ9, HR7, HM7, hid (by have := hf.out; have := HF1.out; have := HLEN7.out; omega), hid (by have := hpre.out; have := HLEN7.out; simp only [List.length_append, List.length_singleton]; omega)⟩
      case measure =>
       have e1 := metLen_eq HD9.out HM7.out.1 (fun x hx => by have := HM7.out.2 x hx; omega)
       have e2 := metLen_eq hIM.out hmet.out.1 (fun x hx => by have := hmet.out.2 x hx; omega)
       have e3 := nodup_lt HM7.out.1 HM7.out.2
       have e4 := HLEN7.out
       rw [e1, e2]
       omega
end Go.Proofs.YtipohagcppfgiaaGreat
