/- The document's memories: an access. -/
import Derived.Test.YtipohagcppfgiaaGreatMemWith
namespace Go.Proofs.YtipohagcppfgiaaGreat
open Go.RowKit
open Go.Proofs
set_option linter.unusedVariables false
theorem put_both {V : World} {Z G : Nat} {z0 z1 z2 u0 u1 : Value} (hz : V.heap[Z]? = some (.cells #[z0, z1, z2] 25 (0, 0))) (hg : V.heap[G]? = some (.cells #[u0, u1] 108 (0, 0))) (hne : G ≠ Z) (v0 v1 v2 w0 w1 : Value) :
  ∃ V', V' = ((((V.setCell ⟨Z, 0, none⟩ v0).setCell ⟨Z, 1, none⟩ v1).setCell ⟨Z, 2, none⟩ v2).setCell ⟨G, 0, none⟩ w0).setCell ⟨G, 1, none⟩ w1 ∧ V'.heap[Z]? = some (.cells #[v0, v1, v2] 25 (0, 0)) ∧ V'.heap[G]? = some (.cells #[w0, w1] 108 (0, 0)) ∧
   (∀ (B : Nat) (w : World), B ≤ Z → B ≤ G → Below B w V → Below B w V') ∧
   ∀ (base : Nat) (wa : Option Addr) (wc : Nat) (la : Option Addr) (lc : Nat) (M : Mem), MemO base wa wc la lc M V → MemO base wa wc la lc M V' := by
 obtain ⟨V1, hV1, hz1, hk1, hb1, hm1⟩ := put_mem hz v0 v1 v2
 have hg1 := hk1 G _ hne hg
 obtain ⟨V2, hV2, hg2, hk2, hb2⟩ := put2 hg1 w0 w1
 refine ⟨V2, by rw [hV2, hV1], hk2 Z _ (Ne.symm hne) hz1, hg2, fun B w h1 h2 hb => hb2 B w h2 (hb1 B w h1 hb), fun base wa wc la lc M hm => (hm1 _ _ _ _ _ _ hm).keep hg1 (by decide) (by decide) hk2⟩
theorem refstep_result {W : World} {b c : Nat} {v0 v1 v2 u0 u1 : Value} {tmps : Array Value} (h : W.heap[b]? = some (.cells #[v0, v1, v2] 25 (0, 0))) (h' : W.heap[c]? = some (.cells #[u0, u1] 108 (0, 0))) (hp : tmps[4]?.getD undef = .pointer (some ⟨b, 0, none⟩)) (hq : tmps[5]?.getD undef = .pointer (some ⟨c, 0, none⟩)) :
  (results Tryz.f60 tmps).run Tryz.prog W = .ok (.tuple #[.agg #[v0, v1, v2], .agg #[u0, u1]]) W := by
 have h0 := clD (i := 0) (v := v0) h rfl
 have h1 := clD (i := 1) (v := v1) h rfl
 have h2 := clD (i := 2) (v := v2) h rfl
 have g0 := clD (i := 0) (v := u0) h' rfl
 have g1 := clD (i := 1) (v := u1) h' rfl
 simp [results, Tryz.results60, go_sem, hp, hq, h0, h1, h2, g0, g1]
/-- A call gives a memory that lies there, what a word held, whether it was done. -/
def keptA (V : World) (wa wa' : Option Addr) : Prop := wa' = wa ∨ ∀ b off, wa' = some ⟨b, off, none⟩ → V.heap.size ≤ b
def GivesR (wa0 la0 : Option Addr) (M : Mem) (v : Nat) (d : Bool) (w : World) (e : Ending) (W : World) : Prop := ∃ wa wc la lc, e = .returned (.tuple #[memV wa wc la lc M, .agg #[.int .u64 v, .bool d]]) ∧ MemL W wa wc la lc M ∧ Below w.heap.size w W ∧ keptA w wa0 wa ∧ keptA w la0 la
set_option maxRecDepth 100000 in
set_option maxHeartbeats 4000000 in
theorem RefStep_any (M : Mem) (wa la : Option Addr) (wc_ lc : Nat) (st : Bool) (K at_ : Int) (old new : Nat) (V : World) (h : MemL V wa wc_ la lc M) (hok : okM M = true) (hat : -9223372036854775808 ≤ at_ ∧ at_ ≤ 9223372036854775807) (hK : K = if st = true then 2 else 1) :
  Calls Tryz.prog 60 #[memV wa wc_ la lc M, .agg #[.int .i64 K, .int .i64 at_, .int .u64 old, .int .u64 new]] V (GivesR wa la (stepM M st at_ new).1 (stepM M st at_ new).2.1 (stepM M st at_ new).2.2 V) := by
 obtain ⟨hn1, hn4, hmn, -⟩ := okM_spec hok
 obtain ⟨V1, hV1, hb1, hs1, hl1⟩ := laid V #[.slice wa M.W.length wc_, .slice la M.L.length lc, .bool M.F] 25
 obtain ⟨V2, hV2, hb2, hs2, hl2⟩ := laid V1 #[.int .i64 K, .int .i64 at_, .int .u64 old, .int .u64 new] 112
 obtain ⟨V3, hV3, hb3, hs3, hl3⟩ := laid V2 #[.slice none 0 0, .slice none 0 0, .bool false] 25
 obtain ⟨V4, hV4, hb4, hs4, hl4⟩ := laid V3 #[.int .u64 0, .bool false] 108
 obtain ⟨X, hX⟩ := nm (V.heap.size)
 obtain ⟨A, hA⟩ := nm (V1.heap.size)
 obtain ⟨Z, hZ⟩ := nm (V2.heap.size)
 obtain ⟨G, hG⟩ := nm (V3.heap.size)
 rw [hX] at hl1
 rw [hA] at hl2
 rw [hZ] at hl3
 rw [hG] at hl4
 have HX := hid (klD (klD (klD hl1 hb2) hb3) hb4)
 have HA := hid (klD (klD hl2 hb3) hb4)
 have HZ := hid (klD hl3 hb4)
 have HG := hid hl4
 have HB4 := hid (step (step (step hb1 hb2) hb3) hb4)
 have HXV : Hid (V.heap.size ≤ X) := hid (by rw [← hX]; exact Nat.le_refl _)
 have HZV : Hid (V.heap.size ≤ Z) := hid (by rw [← hZ]; exact (step hb1 hb2).size)
 have HGV : Hid (V.heap.size ≤ G) := hid (by rw [← hG]; exact (step (step hb1 hb2) hb3).size)
 have HGZ : Hid (G ≠ Z) := hid (by have := llD hl3; omega)
 have HZX : Hid (Z ≠ X) := hid (by omega)
 have HGX : Hid (G ≠ X) := hid (by omega)
 have HM := hid (h.grow HB4.out)
 have hwl := h.w.len
 have hll := h.l.len
 unfold memV
 obtain ⟨F, hF⟩ := nm (M.F)
 obtain ⟨n, hn⟩ := nm (M.W.length)
 have hm : M.L.length = n := hmn.trans hn
 rw [hn] at hV1 HX hwl hn1 hn4
 rw [hm] at hV1 HX hll
 rw [hF] at hV1 HX
 rw [hn, hm, hF]
 have HN := hid hn
 have HMM := hid hm
 have HF := hid hF
 have HK := hid hK
 obtain ⟨x0, x1, x2⟩ := cells3 HX.out
 have a0 := clD (i := 0) HA.out rfl
 have a1 := clD (i := 1) HA.out rfl
 have a2 := clD (i := 2) HA.out rfl
 have a3 := clD (i := 3) HA.out rfl
 have HWD : Hid (∀ k x, k < n → M.W[k]? = some x → ∃ b off, wa = some ⟨b, off, none⟩ ∧ ∀ w', Below V.heap.size V w' → w'.cell? ⟨b, off + k, none⟩ = some (.int .u64 ((x : Nat) : Int))) := hid (fun k x hk hx => by
  obtain ⟨b, off, e, -, hc⟩ := h.w.at (by rw [hn]; exact hk) (wcell_at hx)
  exact ⟨b, off, e, hc⟩)
 have HLD : Hid (∀ k x, k < n → M.L[k]? = some x → ∃ b off, la = some ⟨b, off, none⟩ ∧ ∀ w', Below V.heap.size V w' → w'.cell? ⟨b, off + k, none⟩ = some (.bool x)) := hid (fun k x hk hx => by
  obtain ⟨b, off, e, -, hc⟩ := h.l.at (by rw [hm]; exact hk) (bcell_at hx)
  exact ⟨b, off, e, hc⟩)
 have H := hid h
 obtain ⟨LV, hLV⟩ := nm (liveAt M at_)
 have HLV := hid hLV
 obtain ⟨SM, hSM⟩ := nm (stepM M st at_ new)
 rw [hSM]
 have HSM := hid hSM
 clear h hok hn hm hF hmn hK hs1 hs2 hs3 hs4 hb1 hb2 hb3 hb4 hl1 hl2 hl3 hl4 hLV hSM
 go_enter Tryz.func60, Tryz.ntmps60
 go_upto_region 1 with (fail)
 go_cut [26] (fun t26 W => t26 = .bool (!LV) ∧ W = V4)
 case first =>
  by_cases h0 : at_ < 0
  ·have t0 : decide (at_ < 0) = true := decide_eq_true h0
   have HE : Hid (LV = false) := hid (by rw [← HLV.out]; unfold liveAt; rw [decide_eq_false (by omega)]; rfl)
   go_wp2
   go_meet
   exact ⟨by rw [HE.out]; rfl, rfl⟩
  ·have t0 : decide (at_ < 0) = false := decide_eq_false h0
   obtain ⟨k, rfl⟩ : ∃ k : Nat, at_ = (k : Int) := ⟨at_.toNat, by omega⟩
   by_cases h1 : n ≤ k
   ·have t1 : decide (((n : Nat) : Int) ≤ ((k : Nat) : Int)) = true := decide_eq_true (by omega)
    have HE : Hid (LV = false) := hid (by
     rw [← HLV.out]; unfold liveAt
     rw [Int.toNat_natCast, List.getElem?_eq_none (by rw [HMM.out]; exact h1)]; simp)
    go_wp2
    go_meet
    exact ⟨by rw [HE.out]; rfl, rfl⟩
   ·have t1 : decide (((n : Nat) : Int) ≤ ((k : Nat) : Int)) = false := decide_eq_false (by omega)
    obtain ⟨b, hb⟩ : ∃ b, M.L[k]? = some b := ⟨_, List.getElem?_eq_getElem (by rw [HMM.out]; omega)⟩
    have hkn : k < n := by omega
    obtain ⟨bb, oo, rfl, hld⟩ := HLD.out k b hkn hb
    have hc := hld V4 HB4.out
    have HE : Hid (LV = b) := hid (by rw [← HLV.out]; unfold liveAt; rw [Int.toNat_natCast, hb, decide_eq_true (by omega)]; rfl)
    clear hb hld
    go_wp2
    go_meet
    exact ⟨by rw [HE.out], rfl⟩
 case rest =>
  obtain ⟨rfl, hwc8⟩ := hcut
  subst hwc8
  obtain ⟨V9, hV9⟩ : ∃ V9, V9 = wc := ⟨_, rfl⟩
  subst hV9
  cases LV
  case' false =>
   have HSE : Hid (SM = (⟨M.W, M.L, true⟩, 0, false)) := hid (by rw [← HSM.out]; unfold stepM; rw [HLV.out]; rfl)
   have f2 := flD (i := 2) HX.out
   have hl10 := slD (i := 2) HX.out (.bool true)
   obtain ⟨V10, hV10⟩ : ∃ V10, V9.setCell ⟨X, 2, none⟩ (.bool true) = V10 := ⟨_, rfl⟩
   rw [hV10] at hl10
   have HB10 : Hid (Below V.heap.size V V10) := hid (by rw [← hV10]; exact HB4.out.setCell (p := ⟨X, 2, none⟩) HXV.out _)
   have HZ10 : Hid (V10.heap[Z]? = some (.cells #[.slice none 0 0, .slice none 0 0, .bool false] 25 (0, 0))) := hid (by rw [← hV10]; exact olD HZ.out HZX.out _)
   have HG10 : Hid (V10.heap[G]? = some (.cells #[.int .u64 0, .bool false] 108 (0, 0))) := hid (by rw [← hV10]; exact olD HG.out HGX.out _)
   have HX10 := hid hl10
   have HV10 := hid hV10
   clear hV10 hl10
   go_upto_region 3 with (fail)
   rw [HV10.out]
   obtain ⟨x0, x1, x2⟩ := cells3 HX10.out
   obtain ⟨z0, z1, z2⟩ := cells3 HZ10.out
   have zf0 := flD (i := 0) HZ10.out
   have zf1 := flD (i := 1) HZ10.out
   have zf2 := flD (i := 2) HZ10.out
   have g0 := clD (i := 0) HG10.out rfl
   have g1 := clD (i := 1) HG10.out rfl
   have gf0 := flD (i := 0) HG10.out
   have gf1 := flD (i := 1) HG10.out
   have hne1 : G ≠ Z := HGZ.out
   have hne2 : Z ≠ G := Ne.symm HGZ.out
   obtain ⟨V12, hV12, hz12, hg12, hb12, -⟩ := put_both HZ10.out HG10.out HGZ.out (.slice wa n wc_) (.slice la n lc) (.bool true) (.int .u64 0) (.bool false)
   have HZ12 := hid hz12
   have HG12 := hid hg12
   have HB12 := hid (hb12 _ _ HZV.out HGV.out HB10.out)
   have HV12 := hid hV12
   clear hV12 hz12 hg12 hb12 f2 a0 a1 a2 a3
   go_wp2
   rw [← HV12.out]
   refine bodyPost_ret (refstep_result HZ12.out HG12.out rfl rfl) rfl ?_
   rw [HSE.out]
   refine ⟨wa, wc_, la, lc, ?_, ⟨H.out.w.grow HB12.out, H.out.l.grow HB12.out⟩, HB12.out, .inl rfl, .inl rfl⟩
   unfold memV
   simp only [HN.out, HMM.out]
   rfl
  case' true =>
   obtain ⟨k, hk0, hkL⟩ : ∃ k : Nat, at_ = (k : Int) ∧ M.L[k]? = some true := by
    have := HLV.out
    unfold liveAt at this
    simp only [Bool.and_eq_true, decide_eq_true_eq] at this
    refine ⟨at_.toNat, by omega, ?_⟩
    cases hq : M.L[at_.toNat]? with
    | none => rw [hq] at this; simp at this
    | some b => rw [hq] at this; simpa using this.2
   subst hk0
   have hkn : k < n := by
    have := (List.getElem?_eq_some_iff.1 hkL).1
    rw [HMM.out] at this; exact this
   obtain ⟨x, hx⟩ : ∃ x, M.W[k]? = some x := ⟨_, List.getElem?_eq_getElem (by rw [HN.out]; exact hkn)⟩
   obtain ⟨bb, oo, hwa, hwd⟩ := HWD.out k x hkn hx
   subst hwa
   have hc := hwd V9 HB4.out
   have HSE : Hid (SM = (if st = true then ⟨M.W.set k new, M.L, M.F⟩ else M, x, true)) := hid (by
    rw [← HSM.out]; unfold stepM; rw [HLV.out, Int.toNat_natCast]
    simp [List.getD_eq_getElem?_getD, hx])
   have HKL := hid hkL
   clear hwd hx hkL
   obtain ⟨z0, z1, z2⟩ := cells3 HZ.out
   have zf0 := flD (i := 0) HZ.out
   have zf1 := flD (i := 1) HZ.out
   have zf2 := flD (i := 2) HZ.out
   have g0 := clD (i := 0) HG.out rfl
   have g1 := clD (i := 1) HG.out rfl
   have gf0 := flD (i := 0) HG.out
   have gf1 := flD (i := 1) HG.out
   have hne1 : G ≠ Z := HGZ.out
   have hne2 : Z ≠ G := Ne.symm HGZ.out
   cases st
   case' false =>
    have hK1 : K = 1 := HK.out
    subst hK1
    obtain ⟨V12, hV12, hz12, hg12, hb12, -⟩ := put_both HZ.out HG.out HGZ.out (.slice (some ⟨bb, oo, none⟩) n wc_) (.slice la n lc) (.bool F) (.int .u64 x) (.bool true)
    have HZ12 := hid hz12
    have HG12 := hid hg12
    have HB12 := hid (hb12 _ _ HZV.out HGV.out HB4.out)
    have HV12 := hid hV12
    clear hV12 hz12 hg12 hb12
    go_wp2
    rw [← HV12.out]
    refine bodyPost_ret (refstep_result HZ12.out HG12.out rfl rfl) rfl ?_
    rw [HSE.out, if_neg (by decide)]
    refine ⟨_, wc_, la, lc, ?_, ⟨H.out.w.grow HB12.out, H.out.l.grow HB12.out⟩, HB12.out, .inl rfl, .inl rfl⟩
    unfold memV
    simp only [HN.out, HMM.out, HF.out]
   case' true =>
    have hK1 : K = 2 := HK.out
    subst hK1
    have HWI := hid (RefWith_any M k new (some ⟨bb, oo, none⟩) la wc_ lc V9 HM.out (HMM.out.trans HN.out.symm) (by rw [HN.out]; omega) (by rw [HN.out]; exact hkn))
    unfold memV at HWI
    rw [HN.out, HMM.out, HF.out] at HWI
    clear z0 z1 z2 zf0 zf1 zf2 g0 g1 gf0 gf1
    go_wp2_with fail
    refine HWI.out.mono ?_
    rintro e V11 ⟨wa', wc', la', lc', rfl, hO11, hb11⟩
    have hZ11 := klD HZ.out hb11
    have hG11 := klD HG.out hb11
    unfold memV
    obtain ⟨V12, hV12, hz12, hg12, hb12, hm12⟩ := put_both hZ11 hG11 HGZ.out (.slice wa' n wc') (.slice la' n lc') (.bool F) (.int .u64 x) (.bool true)
    simp only [List.length_set, HN.out, HMM.out]
    obtain ⟨z0, z1, z2⟩ := cells3 hZ11
    have zf0 := flD (i := 0) hZ11
    have zf1 := flD (i := 1) hZ11
    have zf2 := flD (i := 2) hZ11
    have g0 := clD (i := 0) hG11 rfl
    have g1 := clD (i := 1) hG11 rfl
    have gf0 := flD (i := 0) hG11
    have gf1 := flD (i := 1) hG11
    have HZ12 := hid hz12
    have HG12 := hid hg12
    have HB12 := hid (hb12 _ _ HZV.out HGV.out (step HB4.out hb11))
    have HM12 := hid (hm12 _ _ _ _ _ _ hO11).memL
    have HKP : Hid (keptA V (some ⟨bb, oo, none⟩) wa' ∧ keptA V la la') := hid (by
     have hVV : V.heap.size ≤ V9.heap.size := HB4.out.size
     refine ⟨.inr fun b off e => ?_, .inr fun b off e => ?_⟩
     ·subst e; exact Nat.le_trans hVV (hO11.w.lt b rfl).1
     ·subst e; exact Nat.le_trans hVV (hO11.l.lt b rfl).1)
    have HV12 := hid hV12
    clear hV12 hz12 hg12 hb12 hm12 hO11 hZ11 hG11 hb11
    go_wp2
    rw [← HV12.out]
    refine bodyPost_ret (refstep_result HZ12.out HG12.out rfl rfl) rfl ?_
    have hSE := HSE.out
    simp only [if_true, HF.out] at hSE
    rw [hSE]
    have hLs : M.L.set k true = M.L := by
     refine List.ext_getElem? fun j => ?_
     rw [List.getElem?_set]
     split
     ·next e => subst e; rw [HKL.out]; simp [(List.getElem?_eq_some_iff.1 HKL.out).1]
     ·rfl
    have hm := HM12.out
    rw [hLs] at hm
    refine ⟨wa', wc', la', lc', ?_, hm, HB12.out, HKP.out.1, HKP.out.2⟩
    unfold memV
    simp only [List.length_set, HN.out, HMM.out]
end Go.Proofs.YtipohagcppfgiaaGreat
