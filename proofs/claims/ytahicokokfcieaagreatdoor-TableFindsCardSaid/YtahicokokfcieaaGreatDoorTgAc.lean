/- Several texts in one. -/
import Derived.Test.YtahicokokfcieaaGreatDoorTgAb
import Derived.Maps.AppendAt
import Derived.Shelf.Slices.Empties2
namespace Go.Proofs.YtahicokokfcieaaGreatDoor
open Go.RowKit
open Go.Proofs
set_option linter.unusedVariables false
theorem MemO.keep {base Z : Nat} {wa la : Option Addr} {wc lc : Nat} {M : Mem} {V V' : World} {cur : Array Value} {e : TypeId} (h : MemO base wa wc la lc M V) (hZ : V.heap[Z]? = some (.cells cur e (0, 0))) (h1 : 26 ≠ e) (h2 : 4 ≠ e) (hk : ∀ (k : Nat) (o : Obj), k ≠ Z → V.heap[k]? = some o → V'.heap[k]? = some o) : MemO base wa wc la lc M V' := by
  refine ⟨own_keep h.w (fun k o hk' hh => ?_), own_keep h.l (fun k o hk' hh => ?_)⟩
  · obtain ⟨cur', hc⟩ := own_type h.w k hk'
    exact hk k o (type_ne hc hZ h1) hh
  · obtain ⟨cur', hc⟩ := own_type h.l k hk'
    exact hk k o (type_ne hc hZ h2) hh
theorem row_base {w : World} {base base' size n : Nat} {e : TypeId} {v : Value} {xs : List Value} (h : w.ownsRow base e size v n xs) (hb : base' ≤ base) : w.ownsRow base' e size v n xs :=
  ⟨h.1, h.2.elim Or.inl (fun ⟨g, cap, cur, hv, hg, r⟩ => Or.inr ⟨g, cap, cur, hv, Nat.le_trans hb hg, r⟩)⟩
theorem MemO.base {base base' : Nat} {wa la : Option Addr} {wc lc : Nat} {M : Mem} {V : World} (h : MemO base wa wc la lc M V) (hb : base' ≤ base) : MemO base' wa wc la lc M V := ⟨row_base h.w hb, row_base h.l hb⟩
theorem row_addr {w : World} {base size n cap : Nat} {e : TypeId} {a : Option Addr} {xs : List Value} (h : w.ownsRow base e size (.slice a n cap) n xs) (hn : 0 < n) : ∃ g, a = some ⟨g, 0, none⟩ := by
  rcases h.2 with ⟨h0, h1⟩ | ⟨g, c, cur, e, -⟩
  · omega
  · simp only [Value.slice.injEq] at e; exact ⟨g, e.1⟩
structure RA (A : Nat) (k at_ : Int) (o n : Nat) where
  v : World
  a0 : v.cell? ⟨A, 0, none⟩ = some (.int .i64 k)
  a1 : v.cell? ⟨A, 1, none⟩ = some (.int .i64 at_)
  a2 : v.cell? ⟨A, 2, none⟩ = some (.int .u64 ((o : Nat) : Int))
  a3 : v.cell? ⟨A, 3, none⟩ = some (.int .u64 ((n : Nat) : Int))
structure RB (Y Q : Nat) (v0 v1 v2 u0 u1 : Value) where
  v : World
  y0 : v.cell? ⟨Y, 0, none⟩ = some v0
  y1 : v.cell? ⟨Y, 1, none⟩ = some v1
  y2 : v.cell? ⟨Y, 2, none⟩ = some v2
  q0 : v.cell? ⟨Q, 0, none⟩ = some u0
  q1 : v.cell? ⟨Q, 1, none⟩ = some u1
set_option maxRecDepth 100000 in
set_option maxHeartbeats 8000000 in
theorem Step_any (M : Mem) (wa la : Option Addr) (wc lc : Nat) (st : Bool) (K at_ : Int) (old new : Nat) (V : World) (h : MemL V wa wc la lc M) (hok : okM M = true) (hat : -9223372036854775808 ≤ at_ ∧ at_ ≤ 9223372036854775807) (hK : K = if st = true then 2 else 1) :
    Calls Tryz.prog 77 #[memV wa wc la lc M, .agg #[.int .i64 K, .int .i64 at_, .int .u64 ((old : Nat) : Int), .int .u64 ((new : Nat) : Int)]] V (GivesG (stepM M st at_ new).1 (stepM M st at_ new).2.1 (stepM M st at_ new).2.2 V) := by
  obtain ⟨hn1, hn4, hmn, -⟩ := okM_spec hok
  obtain ⟨V1, hV1, hb1, hs1, hl1⟩ := laid V #[.slice wa M.W.length wc, .slice la M.L.length lc, .bool M.F] 25
  obtain ⟨V2, hV2, hb2, hs2, hl2⟩ := laid V1 #[.int .i64 K, .int .i64 at_, .int .u64 ((old : Nat) : Int), .int .u64 ((new : Nat) : Int)] 115
  obtain ⟨V3, hV3, hb3, hs3, hl3⟩ := laid V2 #[.slice none 0 0, .slice none 0 0, .bool false] 25
  obtain ⟨V4, hV4, hb4, hs4, hl4⟩ := laid V3 #[.int .u64 0, .bool false] 111
  obtain ⟨X, hX⟩ : ∃ X, V.heap.size = X := ⟨_, rfl⟩
  obtain ⟨A, hA⟩ : ∃ A, V1.heap.size = A := ⟨_, rfl⟩
  obtain ⟨Z, hZ⟩ : ∃ Z, V2.heap.size = Z := ⟨_, rfl⟩
  obtain ⟨G, hG⟩ : ∃ G, V3.heap.size = G := ⟨_, rfl⟩
  rw [hX] at hl1
  rw [hA] at hl2
  rw [hZ] at hl3
  rw [hG] at hl4
  have HX := hid (keep_laid (keep_laid (keep_laid hl1 hb2) hb3) hb4)
  have HA := hid (keep_laid (keep_laid hl2 hb3) hb4)
  have HZ := hid (keep_laid hl3 hb4)
  have HG := hid hl4
  have HB4 := hid (step (step (step hb1 hb2) hb3) hb4)
  have HZV : Hid (V.heap.size ≤ Z) := hid (by rw [← hZ]; exact (step hb1 hb2).size)
  have HGV : Hid (V.heap.size ≤ G) := hid (by rw [← hG]; exact (step (step hb1 hb2) hb3).size)
  have HGZ : Hid (G ≠ Z) := hid (by have := lt_laid hl3; omega)
  have HM := hid (h.grow HB4.out)
  have HOK := hid hok
  have hwl := h.w.len
  have hll := h.l.len
  unfold memV
  obtain ⟨F, hF⟩ : ∃ F, M.F = F := ⟨_, rfl⟩
  obtain ⟨n, hn⟩ : ∃ n, M.W.length = n := ⟨_, rfl⟩
  have hm : M.L.length = n := hmn.trans hn
  rw [hn] at hV1 HX hwl hn1 hn4
  rw [hm] at hV1 HX hll
  rw [hF] at hV1 HX
  rw [hn, hm, hF]
  have HN := hid hn
  have HMM := hid hm
  have HF := hid hF
  have HK := hid hK
  have hK1 : decide (K < 1) = false := decide_eq_false (by rw [hK]; split <;> omega)
  have hK3 : decide ((3 : Int) < K) = false := decide_eq_false (by rw [hK]; split <;> omega)
  obtain ⟨x0, x1, x2⟩ := cells3 HX.out
  have HCK := hid (Check_any M wa la wc lc V4 HM.out)
  rw [HOK.out, if_pos rfl] at HCK
  unfold memV at HCK
  rw [hn, hm, hF] at HCK
  clear h hok hn hm hF hmn hK hs1 hs2 hs3 hs4 hb1 hb2 hb3 hb4 hl1 hl2 hl3 hl4
  go_enter Tryz.func77, Tryz.ntmps77
  go_wp2_with fail
  refine HCK.out.mono ?_
  rintro e V5 ⟨rfl, hb5⟩
  have HB5 := hid (step HB4.out hb5)
  have HA5 := hid (keep_laid HA.out hb5)
  have HX5 := hid (keep_laid HX.out hb5)
  have HZ5 := hid (keep_laid HZ.out hb5)
  have HG5 := hid (keep_laid HG.out hb5)
  have HM5 := hid (HM.out.grow hb5)
  have a0 := cell_laid (i := 0) HA5.out rfl
  have a1 := cell_laid (i := 1) HA5.out rfl
  have a2 := cell_laid (i := 2) HA5.out rfl
  have a3 := cell_laid (i := 3) HA5.out rfl
  obtain ⟨x0, x1, x2⟩ := cells3 HX5.out
  have HOW := hid (memown_any M wa la wc lc V5 HM5.out (by rw [HN.out]; omega) (by rw [HMM.out]; omega))
  unfold memV at HOW
  rw [HN.out, HMM.out, HF.out] at HOW
  clear hb5
  go_wp2_with fail
  refine HOW.out.mono ?_
  rintro e V6 ⟨wa', wc', la', lc', rfl, hO6, hb6⟩
  unfold memV
  rw [HN.out, HMM.out, HF.out]
  obtain ⟨V7, hV7, hb7, hs7, hl7⟩ := laid V6 #[.slice none 0 0, .slice none 0 0, .bool false] 25
  obtain ⟨Y, hY⟩ : ∃ Y, V6.heap.size = Y := ⟨_, rfl⟩
  rw [hY] at hl7 hs7
  have HYZ : Hid (Y ≠ Z) := hid (by have := lt_laid (keep_laid HZ5.out hb6); omega)
  have HYG : Hid (Y ≠ G) := hid (by have := lt_laid (keep_laid HG5.out hb6); omega)
  have HYV : Hid (V5.heap.size ≤ Y) := hid (by rw [← hY]; exact hb6.size)
  obtain ⟨V8, hV8, hl8, hk8, hb8, hm8⟩ := put_mem hl7 (.slice wa' n wc') (.slice la' n lc') (.bool F)
  have f0 := free_laid (i := 0) hl7
  have f1 := free_laid (i := 1) hl7
  have f2 := free_laid (i := 2) hl7
  obtain ⟨z0, z1, z2⟩ := cells3 hl7
  have HO8 := hid ((hm8 _ _ _ _ _ _ (hO6.grow hb7)).base (show V.heap.size ≤ V5.heap.size from HB5.out.size))
  have HB58 := hid (hb8 _ _ HYV.out (step hb6 hb7))
  have HY8 := hid hl8
  have HV8 := hid hV8
  clear hb6 hb7 hl7 hs7 hl8 hk8 hb8 hm8 hO6 hV8
  go_upto_region 6 with (fail)
  rw [← HV8.out]
  have HB8 := hid (step HB5.out HB58.out)
  have HA8 := hid (keep_laid HA5.out HB58.out)
  have HZ8 := hid (keep_laid HZ5.out HB58.out)
  have HG8 := hid (keep_laid HG5.out HB58.out)
  have a0 := cell_laid (i := 0) HA8.out rfl
  have a1 := cell_laid (i := 1) HA8.out rfl
  have a2 := cell_laid (i := 2) HA8.out rfl
  have a3 := cell_laid (i := 3) HA8.out rfl
  obtain ⟨y0, y1, y2⟩ := cells3 HY8.out
  have hOW := HO8.out.w
  have hOL := HO8.out.l
  rw [HN.out] at hOW
  rw [HMM.out] at hOL
  obtain ⟨gw, rfl⟩ := row_addr hOW (by omega)
  obtain ⟨gl, rfl⟩ := row_addr hOL (by omega)
  have HOWH := hid hOW
  have HOLH := hid hOL
  have hwc := (Leads.of_own1 hOW).len
  have hlc := (Leads.of_own1 hOL).len
  obtain ⟨LV, hLV⟩ : ∃ LV, liveAt M at_ = LV := ⟨_, rfl⟩
  have HLV := hid hLV
  obtain ⟨SM, hSM⟩ : ∃ SM, stepM M st at_ new = SM := ⟨_, rfl⟩
  rw [hSM]
  have HSM := hid hSM
  clear hOW hOL hLV hSM x0 x1 x2 f0 f1 f2 z0 z1 z2
  go_cut [48] (fun t48 W => t48 = .bool (!LV) ∧ W = V8)
  case first =>
    by_cases h0 : at_ < 0
    · have t0 : decide (at_ < 0) = true := decide_eq_true h0
      have HE : Hid (LV = false) := hid (by rw [← HLV.out]; unfold liveAt; rw [decide_eq_false (by omega)]; rfl)
      go_wp2
      go_meet
      exact ⟨by rw [HE.out]; rfl, rfl⟩
    · have t0 : decide (at_ < 0) = false := decide_eq_false h0
      obtain ⟨k, rfl⟩ : ∃ k : Nat, at_ = (k : Int) := ⟨at_.toNat, by omega⟩
      by_cases h1 : n ≤ k
      · have t1 : decide (((n : Nat) : Int) ≤ ((k : Nat) : Int)) = true := decide_eq_true (by omega)
        have HE : Hid (LV = false) := hid (by
          rw [← HLV.out]; unfold liveAt
          rw [Int.toNat_natCast, List.getElem?_eq_none (by rw [HMM.out]; exact h1)]; simp)
        go_wp2
        go_meet
        exact ⟨by rw [HE.out]; rfl, rfl⟩
      · have t1 : decide (((n : Nat) : Int) ≤ ((k : Nat) : Int)) = false := decide_eq_false (by omega)
        obtain ⟨b, hb⟩ : ∃ b, M.L[k]? = some b := ⟨_, List.getElem?_eq_getElem (by rw [HMM.out]; omega)⟩
        have hc := (HOLH.out.cellAt k (by omega)).trans (bcell_at hb)
        have HE : Hid (LV = b) := hid (by rw [← HLV.out]; unfold liveAt; rw [Int.toNat_natCast, hb, decide_eq_true (by omega)]; rfl)
        have hkn : k < n := by omega
        clear hb
        go_wp2
        go_meet
        exact ⟨by rw [HE.out], rfl⟩
  case rest =>
    obtain ⟨rfl, hwc8⟩ := hcut
    subst hwc8
    obtain ⟨V9, hV9⟩ : ∃ V9, V9 = wc := ⟨_, rfl⟩
    subst hV9
    cases LV
    case' false =>
      have HSE : Hid (SM = (⟨M.W, M.L, true⟩, 0, false)) := hid (by rw [← HSM.out]; unfold stepM; rw [HLV.out]; rfl)
      have f2 := free_laid (i := 2) HY8.out
      have hl10 := set_laid (i := 2) HY8.out (.bool true)
      obtain ⟨V10, hV10⟩ : ∃ V10, V9.setCell ⟨Y, 2, none⟩ (.bool true) = V10 := ⟨_, rfl⟩
      rw [hV10] at hl10
      have HB10 : Hid (Below V.heap.size V V10) := hid (by rw [← hV10]; exact HB8.out.setCell (p := ⟨Y, 2, none⟩) (by show V.heap.size ≤ Y; have := HYV.out; have := HB5.out.size; omega) _)
      have HZ10 : Hid (V10.heap[Z]? = some (.cells #[.slice none 0 0, .slice none 0 0, .bool false] 25 (0, 0))) := hid (by rw [← hV10]; exact other_laid HZ8.out (Ne.symm HYZ.out) _)
      have HG10 : Hid (V10.heap[G]? = some (.cells #[.int .u64 0, .bool false] 111 (0, 0))) := hid (by rw [← hV10]; exact other_laid HG8.out (Ne.symm HYG.out) _)
      have HO10 : Hid (MemO V.heap.size (some ⟨gw, 0, none⟩) wc' (some ⟨gl, 0, none⟩) lc' ⟨M.W, M.L, true⟩ V10) := hid (by
        have := HO8.out.keep (V' := V10) HY8.out (by decide) (by decide) (fun k o hk ho => by rw [← hV10]; exact other_laid ho hk _)
        exact ⟨this.w, this.l⟩)
      have HY10 := hid hl10
      have HV10 := hid hV10
      clear hV10 hl10
      go_upto_region 8 with (fail)
      rw [HV10.out]
      obtain ⟨y0, y1, y2⟩ := cells3 HY10.out
      obtain ⟨z0, z1, z2⟩ := cells3 HZ10.out
      have zf0 := free_laid (i := 0) HZ10.out
      have zf1 := free_laid (i := 1) HZ10.out
      have zf2 := free_laid (i := 2) HZ10.out
      have g0 := cell_laid (i := 0) HG10.out rfl
      have g1 := cell_laid (i := 1) HG10.out rfl
      have gf0 := free_laid (i := 0) HG10.out
      have gf1 := free_laid (i := 1) HG10.out
      obtain ⟨V11, hV11, hz11, hk11, hb11, hm11⟩ := put_mem HZ10.out (.slice (some ⟨gw, 0, none⟩) n wc') (.slice (some ⟨gl, 0, none⟩) n lc') (.bool true)
      have HG11 := hid (hk11 G _ HGZ.out HG10.out)
      obtain ⟨V12, hV12, hg12, hk12, hb12⟩ := put2 HG11.out (.int .u64 0) (.bool false)
      have HZ12 := hid (hk12 Z _ (Ne.symm HGZ.out) hz11)
      have HG12 := hid hg12
      have HO12 := hid ((hm11 _ _ _ _ _ _ HO10.out).keep HG11.out (by decide) (by decide) hk12)
      have HB12 := hid (hb12 _ _ HGV.out (hb11 _ _ HZV.out HB10.out))
      have HV11 := hid hV11
      have HV12 := hid hV12
      have hne1 := HGZ.out
      have hne2 := Ne.symm HGZ.out
      clear hV11 hz11 hk11 hb11 hm11 hV12 hg12 hk12 hb12
      -- END OF THE FAULT
      go_wp2
      rw [← HV11.out, ← HV12.out]
      refine bodyPost_ret (step_result HZ12.out HG12.out rfl rfl rfl) rfl ?_
      rw [HSM.out, HSE.out]
      exact ⟨_, wc', _, lc', by unfold memV; dsimp only; rw [HN.out, HMM.out]; rfl, HO12.out, HB12.out⟩
    case' true =>
      have hat0 : 0 ≤ at_ ∧ (M.L[at_.toNat]?).getD false = true := by
        have := HLV.out
        unfold liveAt at this
        simpa using this
      obtain ⟨k, rfl⟩ : ∃ k : Nat, at_ = (k : Int) := ⟨at_.toNat, by omega⟩
      have hbl := hat0.2
      rw [Int.toNat_natCast] at hbl
      have hkn : k < n := by
        rcases Nat.lt_or_ge k n with h | h
        · exact h
        · rw [List.getElem?_eq_none (by rw [HMM.out]; exact h)] at hbl; cases hbl
      obtain ⟨v, hv⟩ : ∃ v, M.W[k]? = some v := ⟨_, List.getElem?_eq_getElem (by rw [HN.out]; exact hkn)⟩
      have cw := (HOWH.out.cellAt k (by omega)).trans (wcell_at hv)
      have HVV := hid hv
      have HGWV : Hid (V.heap.size ≤ gw) := hid (HOWH.out.lt gw rfl).1
      have HGWL : Hid (gw < V9.heap.size) := hid (own_lt HOWH.out gw rfl)
      obtain ⟨V10, hV10, hb10, hs10, hl10⟩ := laid V9 #[.int .u64 0, .bool false] 111
      obtain ⟨Q, hQ⟩ : ∃ Q, V9.heap.size = Q := ⟨_, rfl⟩
      rw [hQ] at hl10 hs10
      have HQV : Hid (V9.heap.size ≤ Q) := hid (by omega)
      obtain ⟨V11, hV11, hl11, hk11, hb11⟩ := put2 hl10 (.int .u64 ((v : Nat) : Int)) (.bool false)
      have qf0 := free_laid (i := 0) hl10
      have qf1 := free_laid (i := 1) hl10
      have qc0 := cell_laid (i := 0) hl10 rfl
      have qc1 := cell_laid (i := 1) hl10 rfl
      have HB911 := hid (hb11 _ _ HQV.out hb10)
      have HQ11 := hid hl11
      have HV11 := hid hV11
      clear hat0 hbl hv hb10 hl10 hs10 hl11 hk11 hb11 hV11
      go_upto_region 11 with (fail)
      rw [← HV11.out]
      have HB11 := hid (step HB8.out HB911.out)
      have HA11 := hid (keep_laid HA8.out HB911.out)
      have HZ11 := hid (keep_laid HZ8.out HB911.out)
      have HG11 := hid (keep_laid HG8.out HB911.out)
      have HY11 := hid (keep_laid HY8.out HB911.out)
      have HO11 := hid (HO8.out.grow HB911.out)
      have HCL : Hid (∀ W : World, W.heap[A]? = some (.cells #[.int .i64 K, .int .i64 ((k : Nat) : Int), .int .u64 ((old : Nat) : Int), .int .u64 ((new : Nat) : Int)] 115 (0, 0)) → ∃ z : RA A K ((k : Nat) : Int) old new, W = z.v) := hid (fun W h => ⟨⟨W, cell_laid h rfl, cell_laid h rfl, cell_laid h rfl, cell_laid h rfl⟩, rfl⟩)
      obtain ⟨wD, hwD⟩ : ∃ wD, wD = V11.drew := ⟨_, rfl⟩
      have HBD : Hid (Below V11.heap.size V11 wD) := hid (by rw [hwD]; exact (Below.refl _ _).drew)
      have hdr := HCL.out V11.drew (keep_laid HA11.out (Below.refl _ _).drew)
      haveI : Nonempty (RA A K ((k : Nat) : Int) old new) := hdr.elim fun z _ => ⟨z⟩
      have b0 : ∀ z : RA A K ((k : Nat) : Int) old new, z.v.cell? ⟨A, 0, none⟩ = some (.int .i64 K) := fun z => z.a0
      have b1 : ∀ z : RA A K ((k : Nat) : Int) old new, z.v.cell? ⟨A, 1, none⟩ = some (.int .i64 ((k : Nat) : Int)) := fun z => z.a1
      have b2 : ∀ z : RA A K ((k : Nat) : Int) old new, z.v.cell? ⟨A, 2, none⟩ = some (.int .u64 ((old : Nat) : Int)) := fun z => z.a2
      have b3 : ∀ z : RA A K ((k : Nat) : Int) old new, z.v.cell? ⟨A, 3, none⟩ = some (.int .u64 ((new : Nat) : Int)) := fun z => z.a3
      cases st
      case' false =>
        obtain rfl : K = 1 := HK.out
        refine wp_region_mix2 (fun W => ∃ z : RA A 1 ((k : Nat) : Int) old new, W = z.v) 9 (.q 1 (.q 2 (.q 4 (.q 5 (.q 6 (.h 0 (.q 3 (.h 7 (.q 8 (.done)))))))))) (by kernel_rfl) (by kernel_rfl) hdr ?_
        rw [← hwD]
        clear hwD
        repeat (refine wpMix2_q rfl rfl ?_; go_big_quiet_step (fail); refine wpQuiet_nil ?_)
        refine wpMix2_h rfl fun R' hR' hO => ?_
        go_wp2_with fail
        refine (does_any wD).mono ?_
        rintro e V12 ⟨zf, rfl, hb12⟩
        have HB1112 := hid (step HBD.out hb12)
        have HC12 := hid (HCL.out V12 (keep_laid HA11.out HB1112.out))
        go_wp2
        refine hR' _ _ HC12.out ?_
        have hix : ∀ W : World, (Instr.index 179 (.agg #[zf, .func (.func 117) #[] #[], .func (.func 118) #[] #[], .func (.func 119) #[] #[]]) (.int .i64 1)).run Tryz.prog W = .ok (.func (.func 117) #[] #[]) W := fun W => by kernel_rfl
        refine wpMix2_q rfl rfl ?_
        go_big_quiet_step (fail)
        refine wpQuiet_nil ?_
        refine wpMix2_h rfl fun R' hR' hO => ?_
        go_wp2_with fail
        refine (acc_load _ _ _ _ _ V12).mono ?_
        rintro e V13 ⟨rfl, hb13⟩
        have HB1113 := hid (step HB1112.out hb13)
        have HC13 := hid (HCL.out V13 (keep_laid HA11.out HB1113.out))
        have HY13 := hid (keep_laid HY11.out HB1113.out)
        have HQ13 := hid (keep_laid HQ11.out HB1113.out)
        have HZ13 := hid (keep_laid HZ11.out HB1113.out)
        have HG13 := hid (keep_laid HG11.out HB1113.out)
        have HB13 := hid (step HB11.out HB1113.out)
        have HSE : Hid (SM = (M, v, true)) := hid (by rw [← HSM.out]; unfold stepM; rw [HLV.out, if_pos rfl, Int.toNat_natCast, List.getD_eq_getElem?_getD, HVV.out]; rfl)
        have HO13 : Hid (MemO V.heap.size (some ⟨gw, 0, none⟩) wc' (some ⟨gl, 0, none⟩) lc' SM.1 V13) := hid (by rw [HSE.out]; exact HO11.out.grow HB1113.out)
        have HSL : Hid (SM.1.W.length = n ∧ SM.1.L.length = n ∧ SM.1.F = F) := hid (by rw [HSE.out]; exact ⟨HN.out, HMM.out, HF.out⟩)
        have HS2 : Hid (SM.2.1 = v ∧ SM.2.2 = true) := hid (by rw [HSE.out]; exact ⟨rfl, rfl⟩)
        clear hb13
        go_wp2
        refine hR' _ _ HC13.out ?_
        refine wpMix2_q rfl rfl ?_
        go_big_quiet_step (fail)
        refine wpQuiet_nil ?_
        refine wpMix2_done ?_
        simp only [List.drop_succ_cons, List.drop_zero]
        clear b0 b1 b2 b3 hdr
        have qf1 := free_laid (i := 1) HQ13.out
        have qc1 := cell_laid (i := 1) HQ13.out rfl
        have hq14 := set_laid (i := 1) HQ13.out (.bool true)
        obtain ⟨V14, hV14⟩ : ∃ V14, V13.setCell ⟨Q, 1, none⟩ (.bool true) = V14 := ⟨_, rfl⟩
        rw [hV14] at hq14
        have HQ14 := hid hq14
        have hk14 : ∀ (b : Nat) (o : Obj), b ≠ Q → V13.heap[b]? = some o → V14.heap[b]? = some o := fun b o hb ho => by rw [← hV14]; exact other_laid ho hb _
        have HY14 := hid (hk14 Y _ (type_ne HY13.out HQ13.out (by decide)) HY13.out)
        have HZ14 := hid (hk14 Z _ (type_ne HZ13.out HQ13.out (by decide)) HZ13.out)
        have HGQ : Hid (G ≠ Q) := hid (by have := lt_laid HG8.out; have := HQV.out; omega)
        have HG14 := hid (hk14 G _ HGQ.out HG13.out)
        have HO14 := hid (HO13.out.keep HQ13.out (by decide) (by decide) hk14)
        have HB14 : Hid (Below V.heap.size V V14) := hid (by rw [← hV14]; exact HB13.out.setCell (p := ⟨Q, 1, none⟩) (by show V.heap.size ≤ Q; have := HQV.out; have := HB8.out.size; omega) _)
        have HV14 := hid hV14
        clear hV14 hq14 hk14
        go_upto_region 12 with (fail)
        rw [HV14.out]
        have HCB : Hid (∀ W : World, W.heap[Y]? = some (.cells #[.slice (some ⟨gw, 0, none⟩) n wc', .slice (some ⟨gl, 0, none⟩) n lc', .bool F] 25 (0, 0)) → W.heap[Q]? = some (.cells #[.int .u64 ((v : Nat) : Int), .bool true] 111 (0, 0)) → ∃ z : RB Y Q (.slice (some ⟨gw, 0, none⟩) n wc') (.slice (some ⟨gl, 0, none⟩) n lc') (.bool F) (.int .u64 ((v : Nat) : Int)) (.bool true), W = z.v) := hid (fun W h1 h2 => ⟨⟨W, cell_laid h1 rfl, cell_laid h1 rfl, cell_laid h1 rfl, cell_laid h2 rfl, cell_laid h2 rfl⟩, rfl⟩)
        have hdr := HCB.out V14.drew (keep_laid HY14.out (Below.refl _ _).drew) (keep_laid HQ14.out (Below.refl _ _).drew)
        obtain ⟨wE, hwE⟩ : ∃ wE, wE = V14.drew := ⟨_, rfl⟩
        have HBE : Hid (Below V14.heap.size V14 wE) := hid (by rw [hwE]; exact (Below.refl _ _).drew)
        haveI : Nonempty (RB Y Q (.slice (some ⟨gw, 0, none⟩) n wc') (.slice (some ⟨gl, 0, none⟩) n lc') (.bool F) (.int .u64 ((v : Nat) : Int)) (.bool true)) := hdr.elim fun z _ => ⟨z⟩
        have b0 : ∀ z : RB Y Q (.slice (some ⟨gw, 0, none⟩) n wc') (.slice (some ⟨gl, 0, none⟩) n lc') (.bool F) (.int .u64 ((v : Nat) : Int)) (.bool true), z.v.cell? ⟨Y, 0, none⟩ = some (.slice (some ⟨gw, 0, none⟩) n wc') := fun z => z.y0
        have b1 : ∀ z : RB Y Q (.slice (some ⟨gw, 0, none⟩) n wc') (.slice (some ⟨gl, 0, none⟩) n lc') (.bool F) (.int .u64 ((v : Nat) : Int)) (.bool true), z.v.cell? ⟨Y, 1, none⟩ = some (.slice (some ⟨gl, 0, none⟩) n lc') := fun z => z.y1
        have b2 : ∀ z : RB Y Q (.slice (some ⟨gw, 0, none⟩) n wc') (.slice (some ⟨gl, 0, none⟩) n lc') (.bool F) (.int .u64 ((v : Nat) : Int)) (.bool true), z.v.cell? ⟨Y, 2, none⟩ = some (.bool F) := fun z => z.y2
        have b3 : ∀ z : RB Y Q (.slice (some ⟨gw, 0, none⟩) n wc') (.slice (some ⟨gl, 0, none⟩) n lc') (.bool F) (.int .u64 ((v : Nat) : Int)) (.bool true), z.v.cell? ⟨Q, 0, none⟩ = some (.int .u64 ((v : Nat) : Int)) := fun z => z.q0
        have b4 : ∀ z : RB Y Q (.slice (some ⟨gw, 0, none⟩) n wc') (.slice (some ⟨gl, 0, none⟩) n lc') (.bool F) (.int .u64 ((v : Nat) : Int)) (.bool true), z.v.cell? ⟨Q, 1, none⟩ = some (.bool true) := fun z => z.q1
        refine wp_region_mix2 (fun W => ∃ z : RB Y Q (.slice (some ⟨gw, 0, none⟩) n wc') (.slice (some ⟨gl, 0, none⟩) n lc') (.bool F) (.int .u64 ((v : Nat) : Int)) (.bool true), W = z.v) 5 (.q 0 (.q 1 (.h 2 (.h 3 (.q 4 (.done)))))) (by kernel_rfl) (by kernel_rfl) hdr ?_
        rw [← hwE]
        clear hwE
        repeat (refine wpMix2_q rfl rfl ?_; go_big_quiet_step (fail); refine wpQuiet_nil ?_)
        refine wpMix2_h rfl fun R' hR' hO => ?_
        have HZE := hid (keep_laid HZ14.out HBE.out)
        have HGE := hid (keep_laid HG14.out HBE.out)
        have HYE := hid (keep_laid HY14.out HBE.out)
        have HQE := hid (keep_laid HQ14.out HBE.out)
        have HOE := hid (HO14.out.grow HBE.out)
        obtain ⟨z0, z1, z2⟩ := cells3 HZE.out
        have zf0 := free_laid (i := 0) HZE.out
        have zf1 := free_laid (i := 1) HZE.out
        have zf2 := free_laid (i := 2) HZE.out
        obtain ⟨V15, hV15, hz15, hk15, hb15, hm15⟩ := put_mem HZE.out (.slice (some ⟨gw, 0, none⟩) n wc') (.slice (some ⟨gl, 0, none⟩) n lc') (.bool F)
        have HY15 := hid (hk15 Y _ HYZ.out HYE.out)
        have HQ15 := hid (hk15 Q _ (type_ne HQE.out HZE.out (by decide)) HQE.out)
        have HG15 := hid (hk15 G _ HGZ.out HGE.out)
        have HZ15 := hid hz15
        have HO15 := hid (hm15 _ _ _ _ _ _ HOE.out)
        have HB15 := hid (hb15 _ _ HZV.out (step HB14.out HBE.out))
        have HC15 := hid (HCB.out V15 HY15.out HQ15.out)
        have HV15 := hid hV15
        clear hV15 hz15 hk15 hb15 hm15
        go_wp2
        refine hR' _ _ (by rw [← HV15.out]; exact HC15.out) ?_
        rw [← HV15.out]
        clear hR' hO R'
        refine wpMix2_h rfl fun R' hR' hO => ?_
        have g0 := cell_laid (i := 0) HG15.out rfl
        have g1 := cell_laid (i := 1) HG15.out rfl
        have gf0 := free_laid (i := 0) HG15.out
        have gf1 := free_laid (i := 1) HG15.out
        obtain ⟨V16, hV16, hg16, hk16, hb16⟩ := put2 HG15.out (.int .u64 ((v : Nat) : Int)) (.bool true)
        have HY16 := hid (hk16 Y _ HYG.out HY15.out)
        have HQ16 := hid (hk16 Q _ (Ne.symm HGQ.out) HQ15.out)
        have HZ16 := hid (hk16 Z _ (Ne.symm HGZ.out) HZ15.out)
        have HG16 := hid hg16
        have HO16 := hid (HO15.out.keep HG15.out (by decide) (by decide) hk16)
        have HB16 := hid (hb16 _ _ HGV.out HB15.out)
        have HC16 := hid (HCB.out V16 HY16.out HQ16.out)
        have HV16 := hid hV16
        clear hV16 hg16 hk16 hb16
        go_wp2
        refine hR' _ _ (by rw [← HV16.out]; exact HC16.out) ?_
        rw [← HV16.out]
        clear hR' hO R'
        repeat (refine wpMix2_q rfl rfl ?_; go_big_quiet_step (fail); refine wpQuiet_nil ?_)
        refine wpMix2_done ?_
        simp only [List.drop_succ_cons, List.drop_nil]
        go_wp2
        refine bodyPost_ret (step_result HZ16.out HG16.out rfl rfl rfl) rfl ?_
        rw [HSM.out]
        exact ⟨_, wc', _, lc', by unfold memV; rw [HSL.out.1, HSL.out.2.1, HSL.out.2.2, HS2.out.1, HS2.out.2]; rfl, HO16.out, HB16.out⟩
      case' true =>
        obtain rfl : K = 2 := HK.out
        refine wp_region_mix2 (fun W => ∃ z : RA A 2 ((k : Nat) : Int) old new, W = z.v) 9 (.q 1 (.q 2 (.q 4 (.q 5 (.q 6 (.h 0 (.q 3 (.h 7 (.q 8 (.done)))))))))) (by kernel_rfl) (by kernel_rfl) hdr ?_
        rw [← hwD]
        clear hwD
        repeat (refine wpMix2_q rfl rfl ?_; go_big_quiet_step (fail); refine wpQuiet_nil ?_)
        refine wpMix2_h rfl fun R' hR' hO => ?_
        go_wp2_with fail
        refine (does_any wD).mono ?_
        rintro e V12 ⟨zf, rfl, hb12⟩
        have HB1112 := hid (step HBD.out hb12)
        have HC12 := hid (HCL.out V12 (keep_laid HA11.out HB1112.out))
        go_wp2
        refine hR' _ _ HC12.out ?_
        have hix : ∀ W : World, (Instr.index 179 (.agg #[zf, .func (.func 117) #[] #[], .func (.func 118) #[] #[], .func (.func 119) #[] #[]]) (.int .i64 2)).run Tryz.prog W = .ok (.func (.func 118) #[] #[]) W := fun W => by kernel_rfl
        refine wpMix2_q rfl rfl ?_
        go_big_quiet_step (fail)
        refine wpQuiet_nil ?_
        refine wpMix2_h rfl fun R' hR' hO => ?_
        have hgw12 : gw < V12.heap.size := by have := HB911.out.size; have := HB1112.out.size; have := HGWL.out; omega
        have hrow12 := own_grow (own_grow HOWH.out HB911.out) HB1112.out
        have hcw12 := (hrow12.cellAt k (by omega)).trans (wcell_at HVV.out)
        have hfw12 := hrow12.frozenAt k
        have HAS := hid (acc_store (.int .i64 2) (.int .i64 ((k : Nat) : Int)) (.int .u64 ((old : Nat) : Int)) gw k new v V12 hcw12 hfw12 hgw12)
        clear hrow12 hcw12 hfw12
        go_wp2_with fail
        refine HAS.out.mono ?_
        rintro e V13 ⟨rfl, Vs, hbs, hVs⟩
        have HBS := hid (step HB1112.out hbs)
        have hrow := own_grow (own_grow (own_grow HOWH.out HB911.out) HB1112.out) hbs
        have hst := (hrow.stored k (.int .u64 ((new : Nat) : Int))).1
        obtain ⟨curw, hcurw⟩ := own_type hrow gw rfl
        rw [← hVs] at hst
        have hkeep : ∀ (b : Nat) (o : Obj), b ≠ gw → Vs.heap[b]? = some o → V13.heap[b]? = some o := fun b o hb ho => by rw [hVs]; exact other_laid ho hb _
        have HA13 := hid (hkeep A _ (type_ne (keep_laid HA11.out HBS.out) hcurw (by decide)) (keep_laid HA11.out HBS.out))
        have HC13 := hid (HCL.out V13 HA13.out)
        have HY13 := hid (hkeep Y _ (type_ne (keep_laid HY11.out HBS.out) hcurw (by decide)) (keep_laid HY11.out HBS.out))
        have HQ13 := hid (hkeep Q _ (type_ne (keep_laid HQ11.out HBS.out) hcurw (by decide)) (keep_laid HQ11.out HBS.out))
        have HZ13 := hid (hkeep Z _ (type_ne (keep_laid HZ11.out HBS.out) hcurw (by decide)) (keep_laid HZ11.out HBS.out))
        have HG13 := hid (hkeep G _ (type_ne (keep_laid HG11.out HBS.out) hcurw (by decide)) (keep_laid HG11.out HBS.out))
        have HB13 : Hid (Below V.heap.size V V13) := hid (by rw [hVs]; exact (step HB11.out HBS.out).setCell (p := ⟨gw, k, none⟩) (by show V.heap.size ≤ gw; exact HGWV.out) _)
        have HSE : Hid (SM = (⟨M.W.set k new, M.L, M.F⟩, v, true)) := hid (by rw [← HSM.out]; unfold stepM; rw [HLV.out, if_pos rfl, if_pos rfl, Int.toNat_natCast, List.getD_eq_getElem?_getD, HVV.out]; rfl)
        have HO13 : Hid (MemO V.heap.size (some ⟨gw, 0, none⟩) wc' (some ⟨gl, 0, none⟩) lc' SM.1 V13) := hid (by
          rw [HSE.out]
          refine ⟨?_, ?_⟩
          · show V13.ownsRow V.heap.size 26 1 (.slice (some ⟨gw, 0, none⟩) (M.W.set k new).length wc') (M.W.set k new).length (wcells (M.W.set k new))
            rw [List.length_set, ← wcells_set, HN.out]
            exact hst
          · exact own_keep (own_grow HO11.out.l HBS.out) (fun b o hb ho => by
              obtain ⟨cur', hc⟩ := own_type (own_grow HO11.out.l HBS.out) b hb
              exact hkeep b o (type_ne hc hcurw (by decide)) ho))
        have HSL : Hid (SM.1.W.length = n ∧ SM.1.L.length = n ∧ SM.1.F = F) := hid (by rw [HSE.out]; exact ⟨by show (M.W.set k new).length = n; rw [List.length_set]; exact HN.out, HMM.out, HF.out⟩)
        have HS2 : Hid (SM.2.1 = v ∧ SM.2.2 = true) := hid (by rw [HSE.out]; exact ⟨rfl, rfl⟩)
        clear hbs hVs hrow hst hcurw hkeep
        go_wp2
        refine hR' _ _ HC13.out ?_
        refine wpMix2_q rfl rfl ?_
        go_big_quiet_step (fail)
        refine wpQuiet_nil ?_
        refine wpMix2_done ?_
        simp only [List.drop_succ_cons, List.drop_zero]
        clear b0 b1 b2 b3 hdr
        have qf1 := free_laid (i := 1) HQ13.out
        have qc1 := cell_laid (i := 1) HQ13.out rfl
        have hq14 := set_laid (i := 1) HQ13.out (.bool true)
        obtain ⟨V14, hV14⟩ : ∃ V14, V13.setCell ⟨Q, 1, none⟩ (.bool true) = V14 := ⟨_, rfl⟩
        rw [hV14] at hq14
        have HQ14 := hid hq14
        have hk14 : ∀ (b : Nat) (o : Obj), b ≠ Q → V13.heap[b]? = some o → V14.heap[b]? = some o := fun b o hb ho => by rw [← hV14]; exact other_laid ho hb _
        have HY14 := hid (hk14 Y _ (type_ne HY13.out HQ13.out (by decide)) HY13.out)
        have HZ14 := hid (hk14 Z _ (type_ne HZ13.out HQ13.out (by decide)) HZ13.out)
        have HGQ : Hid (G ≠ Q) := hid (by have := lt_laid HG8.out; have := HQV.out; omega)
        have HG14 := hid (hk14 G _ HGQ.out HG13.out)
        have HO14 := hid (HO13.out.keep HQ13.out (by decide) (by decide) hk14)
        have HB14 : Hid (Below V.heap.size V V14) := hid (by rw [← hV14]; exact HB13.out.setCell (p := ⟨Q, 1, none⟩) (by show V.heap.size ≤ Q; have := HQV.out; have := HB8.out.size; omega) _)
        have HV14 := hid hV14
        clear hV14 hq14 hk14
        go_upto_region 12 with (fail)
        rw [HV14.out]
        have HCB : Hid (∀ W : World, W.heap[Y]? = some (.cells #[.slice (some ⟨gw, 0, none⟩) n wc', .slice (some ⟨gl, 0, none⟩) n lc', .bool F] 25 (0, 0)) → W.heap[Q]? = some (.cells #[.int .u64 ((v : Nat) : Int), .bool true] 111 (0, 0)) → ∃ z : RB Y Q (.slice (some ⟨gw, 0, none⟩) n wc') (.slice (some ⟨gl, 0, none⟩) n lc') (.bool F) (.int .u64 ((v : Nat) : Int)) (.bool true), W = z.v) := hid (fun W h1 h2 => ⟨⟨W, cell_laid h1 rfl, cell_laid h1 rfl, cell_laid h1 rfl, cell_laid h2 rfl, cell_laid h2 rfl⟩, rfl⟩)
        have hdr := HCB.out V14.drew (keep_laid HY14.out (Below.refl _ _).drew) (keep_laid HQ14.out (Below.refl _ _).drew)
        obtain ⟨wE, hwE⟩ : ∃ wE, wE = V14.drew := ⟨_, rfl⟩
        have HBE : Hid (Below V14.heap.size V14 wE) := hid (by rw [hwE]; exact (Below.refl _ _).drew)
        haveI : Nonempty (RB Y Q (.slice (some ⟨gw, 0, none⟩) n wc') (.slice (some ⟨gl, 0, none⟩) n lc') (.bool F) (.int .u64 ((v : Nat) : Int)) (.bool true)) := hdr.elim fun z _ => ⟨z⟩
        have b0 : ∀ z : RB Y Q (.slice (some ⟨gw, 0, none⟩) n wc') (.slice (some ⟨gl, 0, none⟩) n lc') (.bool F) (.int .u64 ((v : Nat) : Int)) (.bool true), z.v.cell? ⟨Y, 0, none⟩ = some (.slice (some ⟨gw, 0, none⟩) n wc') := fun z => z.y0
        have b1 : ∀ z : RB Y Q (.slice (some ⟨gw, 0, none⟩) n wc') (.slice (some ⟨gl, 0, none⟩) n lc') (.bool F) (.int .u64 ((v : Nat) : Int)) (.bool true), z.v.cell? ⟨Y, 1, none⟩ = some (.slice (some ⟨gl, 0, none⟩) n lc') := fun z => z.y1
        have b2 : ∀ z : RB Y Q (.slice (some ⟨gw, 0, none⟩) n wc') (.slice (some ⟨gl, 0, none⟩) n lc') (.bool F) (.int .u64 ((v : Nat) : Int)) (.bool true), z.v.cell? ⟨Y, 2, none⟩ = some (.bool F) := fun z => z.y2
        have b3 : ∀ z : RB Y Q (.slice (some ⟨gw, 0, none⟩) n wc') (.slice (some ⟨gl, 0, none⟩) n lc') (.bool F) (.int .u64 ((v : Nat) : Int)) (.bool true), z.v.cell? ⟨Q, 0, none⟩ = some (.int .u64 ((v : Nat) : Int)) := fun z => z.q0
        have b4 : ∀ z : RB Y Q (.slice (some ⟨gw, 0, none⟩) n wc') (.slice (some ⟨gl, 0, none⟩) n lc') (.bool F) (.int .u64 ((v : Nat) : Int)) (.bool true), z.v.cell? ⟨Q, 1, none⟩ = some (.bool true) := fun z => z.q1
        refine wp_region_mix2 (fun W => ∃ z : RB Y Q (.slice (some ⟨gw, 0, none⟩) n wc') (.slice (some ⟨gl, 0, none⟩) n lc') (.bool F) (.int .u64 ((v : Nat) : Int)) (.bool true), W = z.v) 5 (.q 0 (.q 1 (.h 2 (.h 3 (.q 4 (.done)))))) (by kernel_rfl) (by kernel_rfl) hdr ?_
        rw [← hwE]
        clear hwE
        repeat (refine wpMix2_q rfl rfl ?_; go_big_quiet_step (fail); refine wpQuiet_nil ?_)
        refine wpMix2_h rfl fun R' hR' hO => ?_
        have HZE := hid (keep_laid HZ14.out HBE.out)
        have HGE := hid (keep_laid HG14.out HBE.out)
        have HYE := hid (keep_laid HY14.out HBE.out)
        have HQE := hid (keep_laid HQ14.out HBE.out)
        have HOE := hid (HO14.out.grow HBE.out)
        obtain ⟨z0, z1, z2⟩ := cells3 HZE.out
        have zf0 := free_laid (i := 0) HZE.out
        have zf1 := free_laid (i := 1) HZE.out
        have zf2 := free_laid (i := 2) HZE.out
        obtain ⟨V15, hV15, hz15, hk15, hb15, hm15⟩ := put_mem HZE.out (.slice (some ⟨gw, 0, none⟩) n wc') (.slice (some ⟨gl, 0, none⟩) n lc') (.bool F)
        have HY15 := hid (hk15 Y _ HYZ.out HYE.out)
        have HQ15 := hid (hk15 Q _ (type_ne HQE.out HZE.out (by decide)) HQE.out)
        have HG15 := hid (hk15 G _ HGZ.out HGE.out)
        have HZ15 := hid hz15
        have HO15 := hid (hm15 _ _ _ _ _ _ HOE.out)
        have HB15 := hid (hb15 _ _ HZV.out (step HB14.out HBE.out))
        have HC15 := hid (HCB.out V15 HY15.out HQ15.out)
        have HV15 := hid hV15
        clear hV15 hz15 hk15 hb15 hm15
        go_wp2
        refine hR' _ _ (by rw [← HV15.out]; exact HC15.out) ?_
        rw [← HV15.out]
        clear hR' hO R'
        refine wpMix2_h rfl fun R' hR' hO => ?_
        have g0 := cell_laid (i := 0) HG15.out rfl
        have g1 := cell_laid (i := 1) HG15.out rfl
        have gf0 := free_laid (i := 0) HG15.out
        have gf1 := free_laid (i := 1) HG15.out
        obtain ⟨V16, hV16, hg16, hk16, hb16⟩ := put2 HG15.out (.int .u64 ((v : Nat) : Int)) (.bool true)
        have HY16 := hid (hk16 Y _ HYG.out HY15.out)
        have HQ16 := hid (hk16 Q _ (Ne.symm HGQ.out) HQ15.out)
        have HZ16 := hid (hk16 Z _ (Ne.symm HGZ.out) HZ15.out)
        have HG16 := hid hg16
        have HO16 := hid (HO15.out.keep HG15.out (by decide) (by decide) hk16)
        have HB16 := hid (hb16 _ _ HGV.out HB15.out)
        have HC16 := hid (HCB.out V16 HY16.out HQ16.out)
        have HV16 := hid hV16
        clear hV16 hg16 hk16 hb16
        go_wp2
        refine hR' _ _ (by rw [← HV16.out]; exact HC16.out) ?_
        rw [← HV16.out]
        clear hR' hO R'
        repeat (refine wpMix2_q rfl rfl ?_; go_big_quiet_step (fail); refine wpQuiet_nil ?_)
        refine wpMix2_done ?_
        simp only [List.drop_succ_cons, List.drop_nil]
        go_wp2
        refine bodyPost_ret (step_result HZ16.out HG16.out rfl rfl rfl) rfl ?_
        rw [HSM.out]
        exact ⟨_, wc', _, lc', by unfold memV; rw [HSL.out.1, HSL.out.2.1, HSL.out.2.2, HS2.out.1, HS2.out.2]; rfl, HO16.out, HB16.out⟩
end Go.Proofs.YtahicokokfcieaaGreatDoor
namespace Go.Proofs.YtahicokokfcieaaGreatDoor
open Go.RowKit
open Go.Proofs
set_option linter.unusedVariables false
theorem row_new {V : World} {base g n : Nat} {e : TypeId} {cs : List Value} (h : V.heap[g]? = some (.cells cs.toArray e (0, 0))) (hl : cs.length = n) (hn : n ≤ 100000) (hb : base ≤ g) : V.ownsRow base e 1 (.slice (some ⟨g, 0, none⟩) n n) n cs := by
  refine ⟨by omega, .inr ⟨g, n, _, rfl, hb, h, Nat.le_refl _, by unfold maxLen; omega, by simp [hl], ?_⟩⟩
  rw [List.take_of_length_le (by simp [hl])]
structure RT (T : Nat) where
  v : World
  t0 : v.cell? ⟨T, 0, none⟩ = some (.bool true)
end Go.Proofs.YtahicokokfcieaaGreatDoor
namespace Go.Proofs.YtahicokokfcieaaGreatDoor
open Go.RowKit
open Go.Proofs
set_option linter.unusedVariables false
theorem CloneW_any (a : Option Addr) (n cap : Nat) (cs : List Value) (w : World) (h : Leads w a n cap cs) (hl : cs.length = n * 1) (hn : n ≤ 10000) (h1 : ∀ u ∈ cs, u.oneCell' = true) :
    Calls Tryz.prog 29 #[.slice a n cap] w (Fresh 26 1 n cs w) := by
  have q : ∀ (w : World) (a : Option Addr) (n c n' c' : Nat), (binOp .eql 22 (.slice a n c) (.slice none n' c')).run Tryz.prog w = .ok (.bool a.isNone) w := fun w a n c n' c' => Lib.run_eql_slice_nil w _ _ a n c n' c' Tryz.underlying22
  cases a with
  | none =>
    obtain ⟨_, _, ⟨rfl, rfl⟩ | ⟨b, off, h, _⟩⟩ := h
    · clear h1 hl
      go_enter Tryz.func29, Tryz.ntmps29
      go_wp2
      go_ret
      exact ⟨_, rfl, World.ownsRow_nil _ _ _ _, Below.refl _ _⟩
    · cases h
  | some ad =>
    have hc : ∀ j u, cs[j]? = some u → w.cell? (ad.add j) = some u := by
      obtain ⟨_, _, ⟨_, rfl⟩ | ⟨b, off, h, _, h5⟩⟩ := h
      · intro j u hj; cases hj
      · cases h
        intro j u hj
        have := h5 j u hj
        rcases j with _ | j
        · simpa [Addr.add] using this
        · simpa [Addr.add] using this
    have HC := hid hc
    have HL := hid hl
    have H1 := hid h1
    clear hc hl h1 h
    go_enter Tryz.func29, Tryz.ntmps29
    go_wp2_with (at_builtin; refine wp_appendM elemWords rfl _ _ rfl w.heap.size _ _ _ rfl (World.ownsRow_made w #[] 0 (Nat.le_refl _) (Nat.zero_le _) (by simp)) ad n cap cs rfl ?qc1 ?qc2 ?qc3 ?qc4 ?qc5 ?_)
    case qc1 => exact HL.out
    case qc2 =>
      intro j u hj
      exact Lib.cell?_alloc_some _ (HC.out j u hj)
    case qc3 => exact H1.out
    case qc4 => omega
    case qc5 => simp
    intro v' w1 hown hgrow hmv
    have hb : Below w.heap.size w w1 := ((Below.refl _ w).alloc (Nat.le_refl _) _).trans (own_below (size := 1) (World.ownsRow_made w #[] 0 (Nat.le_refl _) (Nat.zero_le _) (by simp)) hgrow (by simp))
    go_wp2
    go_ret
    exact ⟨v', rfl, by simpa using hown, hb⟩
theorem CloneB_any (a : Option Addr) (n cap : Nat) (cs : List Value) (w : World) (h : Leads w a n cap cs) (hl : cs.length = n * 1) (hn : n ≤ 10000) (h1 : ∀ u ∈ cs, u.oneCell' = true) :
    Calls Tryz.prog 30 #[.slice a n cap] w (Fresh 4 1 n cs w) := by
  have q : ∀ (w : World) (a : Option Addr) (n c n' c' : Nat), (binOp .eql 23 (.slice a n c) (.slice none n' c')).run Tryz.prog w = .ok (.bool a.isNone) w := fun w a n c n' c' => Lib.run_eql_slice_nil w _ _ a n c n' c' Tryz.underlying23
  cases a with
  | none =>
    obtain ⟨_, _, ⟨rfl, rfl⟩ | ⟨b, off, h, _⟩⟩ := h
    · clear h1 hl
      go_enter Tryz.func30, Tryz.ntmps30
      go_wp2
      go_ret
      exact ⟨_, rfl, World.ownsRow_nil _ _ _ _, Below.refl _ _⟩
    · cases h
  | some ad =>
    have hc : ∀ j u, cs[j]? = some u → w.cell? (ad.add j) = some u := by
      obtain ⟨_, _, ⟨_, rfl⟩ | ⟨b, off, h, _, h5⟩⟩ := h
      · intro j u hj; cases hj
      · cases h
        intro j u hj
        have := h5 j u hj
        rcases j with _ | j
        · simpa [Addr.add] using this
        · simpa [Addr.add] using this
    have HC := hid hc
    have HL := hid hl
    have H1 := hid h1
    clear hc hl h1 h
    go_enter Tryz.func30, Tryz.ntmps30
    go_wp2_with (at_builtin; refine wp_appendM elemBools rfl _ _ rfl w.heap.size _ _ _ rfl (World.ownsRow_made w #[] 0 (Nat.le_refl _) (Nat.zero_le _) (by simp)) ad n cap cs rfl ?qc1 ?qc2 ?qc3 ?qc4 ?qc5 ?_)
    case qc1 => exact HL.out
    case qc2 =>
      intro j u hj
      exact Lib.cell?_alloc_some _ (HC.out j u hj)
    case qc3 => exact H1.out
    case qc4 => omega
    case qc5 => simp
    intro v' w1 hown hgrow hmv
    have hb : Below w.heap.size w w1 := ((Below.refl _ w).alloc (Nat.le_refl _) _).trans (own_below (size := 1) (World.ownsRow_made w #[] 0 (Nat.le_refl _) (Nat.zero_le _) (by simp)) hgrow (by simp))
    go_wp2
    go_ret
    exact ⟨v', rfl, by simpa using hown, hb⟩
end Go.Proofs.YtahicokokfcieaaGreatDoor
namespace Go.Proofs.YtahicokokfcieaaGreatDoor
open Go.RowKit
open Go.Proofs
set_option linter.unusedVariables false
def sameM (A B : Mem) : Bool := decide (A.W = B.W) && (decide (A.L = B.L) && decide (A.F = B.F))
theorem eq_take {α : Type} (xs ys : List α) (k : Nat) (x y : α) (h : xs.take k = ys.take k) (hx : xs[k]? = some x) (hy : ys[k]? = some y) (e : x = y) : xs.take (k + 1) = ys.take (k + 1) := by
  obtain ⟨h1, rfl⟩ := List.getElem?_eq_some_iff.1 hx
  obtain ⟨h2, rfl⟩ := List.getElem?_eq_some_iff.1 hy
  rw [List.take_succ_eq_append_getElem h1, List.take_succ_eq_append_getElem h2, h, e]
theorem ne_at {α : Type} (xs ys : List α) (k : Nat) (x y : α) (hx : xs[k]? = some x) (hy : ys[k]? = some y) (e : x ≠ y) : xs ≠ ys := by
  rintro rfl
  rw [hx] at hy
  cases hy
  exact e rfl
set_option maxRecDepth 100000 in
set_option maxHeartbeats 4000000 in
theorem RefRight_any (M : Mem) (wa la : Option Addr) (wc lc : Nat) (V : World) (h : MemL V wa wc la lc M) :
    Calls Tryz.prog 9 #[memV wa wc la lc M] V (Ret (.bool (okM M)) V) := by
  obtain ⟨V1, hV1, hb1, hs1, hl1⟩ := laid V #[.slice wa M.W.length wc, .slice la M.L.length lc, .bool M.F] 25
  obtain ⟨X, hX⟩ : ∃ X, V.heap.size = X := ⟨_, rfl⟩
  rw [hX] at hl1
  obtain ⟨x0, x1, -⟩ := cells3 hl1
  have hW := h.w.grow hb1
  have hL := h.l.grow hb1
  have HB1 := hid hb1
  have hwl := h.w.len
  have hll := h.l.len
  unfold memV
  obtain ⟨n, hn⟩ : ∃ n, M.W.length = n := ⟨_, rfl⟩
  obtain ⟨m, hm⟩ : ∃ m, M.L.length = m := ⟨_, rfl⟩
  obtain ⟨ZZ, hZZ⟩ : ∃ ZZ, M.W.zip M.L = ZZ := ⟨_, rfl⟩
  obtain ⟨R, hR⟩ : ∃ R, okM M = R := ⟨_, rfl⟩
  have hOK : (decide (1 ≤ n) && (decide (n ≤ 4096) && (decide (m = n) && ZZ.all wordOk))) = R := by rw [← hR]; unfold okM; rw [hn, hm, hZZ]
  rw [hR]
  rw [hn] at hV1 x0 hwl hW ⊢
  rw [hm] at hV1 x1 hll hL ⊢
  have HW := hid hW
  have HL := hid hL
  have HN := hid hn
  have HM := hid hm
  have HZ := hid hZZ
  have HOK := hid hOK
  clear h hl1 hs1 hb1 hn hm hZZ hR hOK hW hL
  go_enter Tryz.func9, Tryz.ntmps9
  by_cases c1 : 1 ≤ n
  · have t1 : decide (((n : Nat) : Int) < 1) = false := decide_eq_false (by omega)
    by_cases c2 : n ≤ 4096
    · have t2 : decide ((4096 : Int) < ((n : Nat) : Int)) = false := decide_eq_false (by omega)
      by_cases c3 : m = n
      · subst c3
        have t3 : (((m : Nat) : Int) != ((m : Nat) : Int)) = false := by simp
        have HR : Hid (ZZ.all wordOk = R) := hid (by rw [← HOK.out, decide_eq_true c1, decide_eq_true c2, decide_eq_true rfl]; rfl)
        have HZL : Hid (ZZ.length = m) := hid (by rw [← HZ.out, List.length_zip, HN.out, HM.out]; omega)
        go_wp2
        go_loopg [27] m (fun g i wr => ∃ k : Nat, g + k = m ∧ i = .int .i64 (k : Nat) ∧ Hid ((ZZ.take k).all wordOk = true) ∧ wr = V1)
        case atStart => exact ⟨0, rfl, rfl, hid (by simp), rfl⟩
        case round =>
          obtain ⟨k, hk, rfl, hs, hwr⟩ := hrel
          subst hwr
          have HK := hid hk
          clear hk
          by_cases hlt : k < m
          · obtain ⟨x, hxk⟩ : ∃ x, M.W[k]? = some x := ⟨_, List.getElem?_eq_getElem (by rw [HN.out]; exact hlt)⟩
            obtain ⟨b, hbk⟩ : ∃ x, M.L[k]? = some x := ⟨_, List.getElem?_eq_getElem (by rw [HM.out]; exact hlt)⟩
            obtain ⟨b1, o1, rfl, -, hc1⟩ := HW.out.at hlt (wcell_at hxk)
            obtain ⟨b2, o2, rfl, -, hc2⟩ := HL.out.at hlt (bcell_at hbk)
            have f1 := hc1 _ (Below.refl _ _)
            have f2 := hc2 _ (Below.refl _ _)
            have hz : ZZ[k]? = some (x, b) := by rw [← HZ.out, List.getElem?_zip_eq_some]; exact ⟨hxk, hbk⟩
            have HTK : Hid ((ZZ.take (k + 1)).all wordOk = wordOk (x, b)) := hid (by rw [take_snoc hz, List.all_append, hs.out]; simp)
            have HMEM : Hid ((x, b) ∈ ZZ) := hid (List.mem_of_getElem? hz)
            clear hc1 hc2 hxk hbk hz
            by_cases hB : wordOk (x, b) = true
            · have HN1 := hid (HTK.out.trans hB)
              unfold wordOk at hB
              dsimp only at hB
              cases b
              case' true =>
                go_wp2
              case' false =>
                by_cases h0 : x = 0
                case' pos =>
                  subst h0
                  go_wp2
                case' neg =>
                  have t0 : (((x : Nat) : Int) != 0) = true := by simp; omega
                  have hp : x = poison := by simpa [h0] using hB
                  have t4 : (((x : Nat) : Int) != 18369900232523579118) = false := by rw [hp]; rfl
                  clear hp h0
                  go_wp2
              all_goals
                go_roundg (gk - 1)
                case measure => have := HK.out; omega
                case rel => exact ⟨k + 1, by have := HK.out; omega, by go_num, HN1, rfl⟩
            · have hBf : wordOk (x, b) = false := by simpa using hB
              have HE : Hid (R = false) := hid (by
                rw [← HR.out, Bool.eq_false_iff]
                intro h
                have := List.all_eq_true.1 h _ HMEM.out
                rw [hBf] at this
                cases this)
              unfold wordOk at hBf
              dsimp only at hBf
              simp only [Bool.or_eq_false_iff, decide_eq_false_iff_not] at hBf
              obtain ⟨rfl, h0, hp⟩ := hBf
              have t0 : (((x : Nat) : Int) != 0) = true := by simp; omega
              have t4 : (((x : Nat) : Int) != 18369900232523579118) = true := by simp; unfold poison at hp; omega
              clear hB h0 hp
              go_wp2
              go_ret
              exact ⟨retb HE.out.symm, HB1.out⟩
          · have HE : Hid (R = true) := hid (by
              have := hs.out
              rw [List.take_of_length_le (by rw [HZL.out]; omega)] at this
              rw [← HR.out, this])
            clear hs
            go_wp2
            go_ret
            exact ⟨retb HE.out.symm, HB1.out⟩
      · have t3 : (((m : Nat) : Int) != ((n : Nat) : Int)) = true := by simp; omega
        have HE : Hid (R = false) := hid (by rw [← HOK.out, decide_eq_true c1, decide_eq_true c2, decide_eq_false c3]; rfl)
        go_wp2
        go_ret
        exact ⟨retb HE.out.symm, HB1.out⟩
    · have t2 : decide ((4096 : Int) < ((n : Nat) : Int)) = true := decide_eq_true (by omega)
      have HE : Hid (R = false) := hid (by rw [← HOK.out, decide_eq_true c1, decide_eq_false c2]; rfl)
      go_wp2
      go_ret
      exact ⟨retb HE.out.symm, HB1.out⟩
  · have t1 : decide (((n : Nat) : Int) < 1) = true := decide_eq_true (by omega)
    have HE : Hid (R = false) := hid (by rw [← HOK.out, decide_eq_false c1]; rfl)
    go_wp2
    go_ret
    exact ⟨retb HE.out.symm, HB1.out⟩
set_option maxRecDepth 100000 in
set_option maxHeartbeats 4000000 in
theorem RefSame_any (M N : Mem) (wa la wa' la' : Option Addr) (wc lc wc' lc' : Nat) (V : World) (h : MemL V wa wc la lc M) (h' : MemL V wa' wc' la' lc' N) :
    Calls Tryz.prog 14 #[memV wa wc la lc M, memV wa' wc' la' lc' N] V (Ret (.bool (sameM M N)) V) := by
  obtain ⟨V1, hV1, hb1, hs1, hl1⟩ := laid V #[.slice wa M.W.length wc, .slice la M.L.length lc, .bool M.F] 25
  obtain ⟨V2, hV2, hb2, hs2, hl2⟩ := laid V1 #[.slice wa' N.W.length wc', .slice la' N.L.length lc', .bool N.F] 25
  obtain ⟨X, hX⟩ : ∃ X, V.heap.size = X := ⟨_, rfl⟩
  obtain ⟨Y, hY⟩ : ∃ Y, V1.heap.size = Y := ⟨_, rfl⟩
  rw [hX] at hl1
  rw [hY] at hl2
  obtain ⟨x0, x1, x2⟩ := cells3 (keep_laid hl1 hb2)
  obtain ⟨y0, y1, y2⟩ := cells3 hl2
  have HB2 := hid (step hb1 hb2)
  have hMW := h.w.grow HB2.out
  have hML := h.l.grow HB2.out
  have hNW := h'.w.grow HB2.out
  have hNL := h'.l.grow HB2.out
  unfold memV
  obtain ⟨n, hn⟩ : ∃ n, M.W.length = n := ⟨_, rfl⟩
  obtain ⟨m, hm⟩ : ∃ m, M.L.length = m := ⟨_, rfl⟩
  obtain ⟨n', hn'⟩ : ∃ n, N.W.length = n := ⟨_, rfl⟩
  obtain ⟨m', hm'⟩ : ∃ m, N.L.length = m := ⟨_, rfl⟩
  obtain ⟨F, hF⟩ : ∃ F, M.F = F := ⟨_, rfl⟩
  obtain ⟨F', hF'⟩ : ∃ F, N.F = F := ⟨_, rfl⟩
  rw [hn] at hV1 x0 hMW ⊢
  rw [hm] at hV1 x1 hML ⊢
  rw [hF] at hV1 x2 ⊢
  rw [hn'] at hV2 y0 hNW ⊢
  rw [hm'] at hV2 y1 hNL ⊢
  rw [hF'] at hV2 y2 ⊢
  have l1 := hMW.len
  have l2 := hML.len
  have l3 := hNW.len
  have l4 := hNL.len
  obtain ⟨R, hR⟩ : ∃ R, sameM M N = R := ⟨_, rfl⟩
  have hOK : (decide (M.W = N.W) && (decide (M.L = N.L) && decide (F = F'))) = R := by rw [← hR]; unfold sameM; rw [hF, hF']
  rw [hR]
  have HMW := hid hMW
  have HML := hid hML
  have HNW := hid hNW
  have HNL := hid hNL
  have HN := hid hn
  have HM := hid hm
  have HN' := hid hn'
  have HM' := hid hm'
  have HOK := hid hOK
  clear h h' hl1 hl2 hs1 hs2 hb1 hb2 hn hm hn' hm' hF hF' hR hOK hMW hML hNW hNL
  go_enter Tryz.func14, Tryz.ntmps14
  by_cases c1 : n = n'
  · subst c1
    have t1 : (((n : Nat) : Int) != ((n : Nat) : Int)) = false := by simp
    by_cases c2 : m = m'
    · subst c2
      have t2 : (((m : Nat) : Int) != ((m : Nat) : Int)) = false := by simp
      by_cases c3 : F = F'
      · subst c3
        have t3 : (F != F) = false := by simp
        have HR : Hid ((decide (M.W = N.W) && decide (M.L = N.L)) = R) := hid (by rw [← HOK.out]; simp)
        go_wp2
        go_loopg [35] n (fun g i wr => ∃ k : Nat, g + k = n ∧ i = .int .i64 (k : Nat) ∧ Hid (M.W.take k = N.W.take k) ∧ wr = V2)
        case atStart => exact ⟨0, rfl, rfl, hid rfl, rfl⟩
        case round =>
          obtain ⟨k, hk, rfl, hs, hwr⟩ := hrel
          subst hwr
          have HK := hid hk
          clear hk
          by_cases hlt : k < n
          · obtain ⟨x, hxk⟩ : ∃ x, M.W[k]? = some x := ⟨_, List.getElem?_eq_getElem (by rw [HN.out]; exact hlt)⟩
            obtain ⟨y, hyk⟩ : ∃ x, N.W[k]? = some x := ⟨_, List.getElem?_eq_getElem (by rw [HN'.out]; exact hlt)⟩
            obtain ⟨b1, o1, rfl, -, hc1⟩ := HMW.out.at hlt (wcell_at hxk)
            obtain ⟨b2, o2, rfl, -, hc2⟩ := HNW.out.at hlt (wcell_at hyk)
            have f1 := hc1 _ (Below.refl _ _)
            have f2 := hc2 _ (Below.refl _ _)
            by_cases he : x = y
            · have HT := hid (eq_take _ _ k _ _ hs.out hxk hyk he)
              subst he
              have t4 : (((x : Nat) : Int) != ((x : Nat) : Int)) = false := by simp
              clear hc1 hc2 hxk hyk hs
              go_wp2
              go_roundg (gk - 1)
              case measure => have := HK.out; omega
              case rel => exact ⟨k + 1, by have := HK.out; omega, by go_num, HT, rfl⟩
            · have HE : Hid (R = false) := hid (by rw [← HR.out, decide_eq_false (ne_at _ _ k _ _ hxk hyk he)]; rfl)
              have t4 : (((x : Nat) : Int) != ((y : Nat) : Int)) = true := by simp; omega
              clear hc1 hc2 hxk hyk hs he
              go_wp2
              go_ret
              exact ⟨retb HE.out.symm, HB2.out⟩
          · have HWE : Hid (M.W = N.W) := hid (by
              have := hs.out
              rwa [List.take_of_length_le (by rw [HN.out]; omega), List.take_of_length_le (by rw [HN'.out]; omega)] at this)
            clear hs
            go_wp2
            go_loopg [51] m (fun g i W => ∃ j : Nat, g + j = m ∧ i = .int .i64 (j : Nat) ∧ Hid (M.L.take j = N.L.take j) ∧ W = wr)
            case atStart => exact ⟨0, rfl, rfl, hid rfl, rfl⟩
            case round =>
              obtain ⟨j, hj, rfl, hs, hwr⟩ := hrel
              subst hwr
              have HJ := hid hj
              clear hj
              by_cases hlj : j < m
              · obtain ⟨x, hxk⟩ : ∃ x, M.L[j]? = some x := ⟨_, List.getElem?_eq_getElem (by rw [HM.out]; exact hlj)⟩
                obtain ⟨y, hyk⟩ : ∃ x, N.L[j]? = some x := ⟨_, List.getElem?_eq_getElem (by rw [HM'.out]; exact hlj)⟩
                obtain ⟨b1, o1, rfl, -, hc1⟩ := HML.out.at hlj (bcell_at hxk)
                obtain ⟨b2, o2, rfl, -, hc2⟩ := HNL.out.at hlj (bcell_at hyk)
                have f1 := hc1 _ (Below.refl _ _)
                have f2 := hc2 _ (Below.refl _ _)
                by_cases he : x = y
                · have HT := hid (eq_take _ _ j _ _ hs.out hxk hyk he)
                  subst he
                  have t4 : (x != x) = false := by simp
                  clear hc1 hc2 hxk hyk hs
                  go_wp2
                  go_roundg (gk - 1)
                  case measure => have := HJ.out; omega
                  case rel => exact ⟨j + 1, by have := HJ.out; omega, by go_num, HT, rfl⟩
                · have HE : Hid (R = false) := hid (by rw [← HR.out, decide_eq_false (ne_at _ _ j _ _ hxk hyk he), Bool.and_false])
                  have t4 : (!x == y) = true := by simpa using he
                  clear hc1 hc2 hxk hyk hs he
                  go_wp2
                  go_ret
                  exact ⟨retb HE.out.symm, HB2.out⟩
              · have HE : Hid (R = true) := hid (by
                  have := hs.out
                  rw [List.take_of_length_le (by rw [HM.out]; omega), List.take_of_length_le (by rw [HM'.out]; omega)] at this
                  rw [← HR.out, decide_eq_true HWE.out, decide_eq_true this]; rfl)
                clear hs
                go_wp2
                go_ret
                exact ⟨retb HE.out.symm, HB2.out⟩
      · have t3 : (!F == F') = true := by simpa using c3
        have HE : Hid (R = false) := hid (by rw [← HOK.out, decide_eq_false c3]; simp)
        go_wp2
        go_ret
        exact ⟨retb HE.out.symm, HB2.out⟩
    · have t2 : (((m : Nat) : Int) != ((m' : Nat) : Int)) = true := by simp; omega
      have HE : Hid (R = false) := hid (by rw [← HOK.out, decide_eq_false (show ¬ M.L = N.L from fun e => c2 (by rw [← HM.out, ← HM'.out, e]))]; simp)
      go_wp2
      go_ret
      exact ⟨retb HE.out.symm, HB2.out⟩
  · have t1 : (((n : Nat) : Int) != ((n' : Nat) : Int)) = true := by simp; omega
    have HE : Hid (R = false) := hid (by rw [← HOK.out, decide_eq_false (show ¬ M.W = N.W from fun e => c1 (by rw [← HN.out, ← HN'.out, e]))]; simp)
    go_wp2
    go_ret
    exact ⟨retb HE.out.symm, HB2.out⟩
end Go.Proofs.YtahicokokfcieaaGreatDoor
