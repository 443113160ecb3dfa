/- BitsFields: the walk of the law. -/
import Derived.Test.YtgigjfdgejajbaaLawA
import Derived.Test.YtgigjfdgejajbaaPlain4
namespace Go.Proofs.Ytgigjfdgejajbaa
open Go.RowKit
open Go.Proofs
set_option linter.unusedVariables false

theorem errOf_range (b : Bool) : 0 ≤ errOf b 110 ∧ errOf b 110 ≤ 110 := by cases b <;> exact ⟨by decide, by decide⟩
theorem Split_both (x : Nat) (fs : List FieldI) (a : Option Addr) (cap : Nat) (w : World) (hx : x < 18446744073709551616) (hl : Leads w a fs.length cap (fcells fs)) (hf : fok fs) (hn : fs.length ≤ 1000) :
    Calls Try.prog 33 #[.int .u64 (x : Nat), .slice a fs.length cap] w (fun e w' => ∃ (a5 : Option Addr) (n5 c5 : Nat), e = .returned (.tuple #[.slice a5 n5 c5, .int .i64 (errOf (apGo [] fs) 110)]) ∧
      (apGo [] fs = true → n5 = fs.length ∧ Leads w' a5 fs.length c5 (wcells (gets x fs))) ∧ (apGo [] fs = false → n5 = 0) ∧ Below w.heap.size w w') := by
  cases hap : apGo [] fs with
  | false =>
    refine (Split_no x fs a cap w hl hf hn hap).mono ?_
    rintro e w' ⟨rfl, hb⟩
    exact ⟨none, 0, 0, rfl, fun h => (by cases h), fun _ => rfl, hb⟩
  | true =>
    refine (Split_ok x fs a cap w hx hl hf hn hap).mono ?_
    rintro e w' ⟨v, rfl, hown, hb⟩
    obtain ⟨a5, c5, rfl, hld⟩ := Leads.of_own hown
    exact ⟨a5, _, c5, rfl, fun _ => ⟨rfl, hld⟩, fun h => (by cases h), hb⟩
theorem getV_ways (x : Nat) (fa fc : Int) : ∃ (A : Nat) (G : Int), (0 ≤ G ∧ G ≤ 110) ∧ getV x fa fc = .tuple #[.int .u64 (A : Int), .int .i64 G] ∧
    (isF fa fc = false → G = 110 ∧ A = 0) ∧ (isF fa fc = true → G = 0 ∧ A = Pl.get x fa.toNat fc.toNat) := by
  unfold getV
  cases isF fa fc with
  | false => exact ⟨0, 110, by decide, rfl, fun _ => ⟨rfl, rfl⟩, fun h => (by cases h)⟩
  | true => exact ⟨_, 0, by decide, rfl, fun h => (by cases h), fun _ => ⟨rfl, rfl⟩⟩
theorem setV_ways (x : Nat) (fa fc : Int) (v : Nat) : ∃ (B : Nat) (H : Int), (0 ≤ H ∧ H ≤ 111) ∧ setV x fa fc v = .tuple #[.int .u64 (B : Int), .int .i64 H] ∧
    (isF fa fc = false → H = 110 ∧ B = 0) ∧ (isF fa fc = true → (v < 2 ^ fc.toNat ∧ H = 0 ∧ B = Pl.set x fa.toNat fc.toNat v) ∨ (¬ v < 2 ^ fc.toNat ∧ H = 111 ∧ B = 0)) := by
  unfold setV
  cases isF fa fc with
  | false => exact ⟨0, 110, by decide, rfl, fun _ => ⟨rfl, rfl⟩, fun h => (by cases h)⟩
  | true =>
    by_cases h : v < 2 ^ fc.toNat
    · exact ⟨_, 0, by decide, by rw [if_pos rfl, if_pos h], fun h => (by cases h), fun _ => .inl ⟨h, rfl, rfl⟩⟩
    · exact ⟨0, 111, by decide, by rw [if_pos rfl, if_neg h]; rfl, fun h => (by cases h), fun _ => .inr ⟨h, rfl, rfl⟩⟩
theorem packV_full (fs : List FieldI) (vs : List Nat) : ∃ (PV : Nat) (F NO : Int), (0 ≤ F ∧ F ≤ 111) ∧ (0 ≤ NO ∧ NO ≤ 110) ∧ packV fs vs = .tuple #[.int .u64 (PV : Int), .int .i64 F] ∧
    (apGo [] fs = false → NO = 110 ∧ PV = 0 ∧ F = 110) ∧ (apGo [] fs = true → (vs.length ≠ fs.length ∧ NO = 2 ∧ PV = 0 ∧ F = 2) ∨
      (vs.length = fs.length ∧ NO = 0 ∧ ((∃ p, packGo 0 (fs.zip vs) = some p ∧ PV = p ∧ F = 0) ∨ (packGo 0 (fs.zip vs) = none ∧ PV = 0 ∧ F = 111)))) := by
  unfold packV
  cases apGo [] fs with
  | false => exact ⟨0, 110, 110, by decide, by decide, rfl, fun _ => ⟨rfl, rfl, rfl⟩, fun h => (by cases h)⟩
  | true =>
    rw [if_pos rfl]
    by_cases hl : vs.length = fs.length
    · rw [if_pos hl]
      cases hp : packGo 0 (fs.zip vs) with
      | none => exact ⟨0, 111, 0, by decide, by decide, rfl, fun h => (by cases h), fun _ => .inr ⟨hl, rfl, .inr ⟨rfl, rfl, rfl⟩⟩⟩
      | some p => exact ⟨p, 0, 0, by decide, by decide, rfl, fun h => (by cases h), fun _ => .inr ⟨hl, rfl, .inl ⟨p, rfl, rfl, rfl⟩⟩⟩
    · rw [if_neg hl]
      exact ⟨0, 2, 2, by decide, by decide, rfl, fun h => (by cases h), fun _ => .inl ⟨hl, rfl, rfl, rfl⟩⟩

set_option maxRecDepth 100000 in
set_option maxHeartbeats 2000000 in
theorem bitsFields.walk (a0 : Option Addr) (cap0 : Nat) (fs0 : List FieldI) (x : Nat) (a2 : Option Addr) (cap2 : Nat) (vs0 : List Nat) (w : World) (h0 : Leads w a0 fs0.length cap0 (fcells fs0)) (hf0 : fok fs0) (hx : x < 18446744073709551616) (h2 : Leads w a2 vs0.length cap2 (wcells vs0)) (hv0 : wok vs0) :
    Calls Try.prog 7 #[.slice a0 fs0.length cap0, .int .u64 (x : Nat), .slice a2 vs0.length cap2] w (Ret (.bool true) w) := by
  obtain ⟨n0, en0⟩ : ∃ n, fs0.length = n := ⟨_, rfl⟩
  obtain ⟨m0, em0⟩ : ∃ n, vs0.length = n := ⟨_, rfl⟩
  rw [en0] at h0 ⊢
  rw [em0] at h2 ⊢
  obtain ⟨n, hn⟩ : ∃ n : Nat, min (n0 : Int) 8 = (n : Int) := ⟨min n0 8, by omega⟩
  obtain ⟨m, hm⟩ : ∃ m : Nat, min (m0 : Int) 10 = (m : Int) := ⟨min m0 10, by omega⟩
  have hn8 : n ≤ 8 := by omega
  have hm10 : m ≤ 10 := by omega
  have hl0 := h0.len
  obtain ⟨hl1, hl2⟩ := hl0
  have hl5 := h2.len
  obtain ⟨hl3, hl4⟩ := hl5
  have hnc := h0.1
  have hmc := h2.1
  have hnn : n ≤ n0 := by omega
  have hmm : m ≤ m0 := by omega
  have H0 := hid (h0.fields en0 hnn)
  have H2 := hid (h2.words em0 hmm)
  obtain ⟨fs, hfs⟩ : ∃ fs, fs = fs0.take n := ⟨_, rfl⟩
  obtain ⟨vs, hvs⟩ : ∃ vs, vs = vs0.take m := ⟨_, rfl⟩
  have hfl : fs.length = n := by rw [hfs, List.length_take, en0]; omega
  have hvl : vs.length = m := by rw [hvs, List.length_take, em0]; omega
  have hf : fok fs := fun f hf => hf0 f (List.mem_of_mem_take (hfs ▸ hf))
  have hv : wok vs := fun f hf => hv0 f (List.mem_of_mem_take (hvs ▸ hf))
  rw [← hfs] at H0
  rw [← hvs] at H2
  have HFL := hid hfl
  have HVL := hid hvl
  have HF := hid hf
  have HV := hid hv
  obtain ⟨AP, hap⟩ : ∃ AP, apGo [] fs = AP := ⟨_, rfl⟩
  obtain ⟨E1, hE1⟩ : ∃ E1, errOf AP 110 = E1 := ⟨_, rfl⟩
  have hE1r := errOf_range AP
  rw [hE1] at hE1r
  obtain ⟨hE1a, hE1b⟩ := hE1r
  obtain ⟨PV, F, NO, ⟨hF1, hF2⟩, ⟨hN1, hN2⟩, eP, hPno, hPyes⟩ := packV_full fs vs
  rw [hap] at hPno hPyes
  rw [hfl, hvl] at hPyes
  have HPNO := hid hPno
  have HPYES := hid hPyes
  have HAP := hid hap
  have HE1 := hid hE1
  have EP := hid eP
  clear h0 h2 hfs hvs hf0 hv0 hf hv en0 em0 hfl hvl hap hE1 eP hPno hPyes
  go_enter Try.func7, Try.ntmps7
  go_upto_region 3 with ((go_at_call 9; refine (wakes_any _).mono ?_; rintro e w1 ⟨rfl, hb1⟩))
  go_wp2_with fail
  refine (CloneF_any a0 n cap0 (fcells fs) _ (H0.out.grow hb1) ((fcells_len fs).trans (by rw [HFL.out])) (by omega) (one_fields fs)).mono ?_
  rintro e w2 ⟨v, rfl, hown, hb2⟩
  obtain ⟨a1, c1, rfl, hld⟩ := Leads.of_own hown
  have H1 := hid hld
  have hb12 := step hb1 hb2
  clear hown hld hb1 hb2
  go_wp2_with fail
  refine (CloneW_any a2 m cap2 (wcells vs) _ (H2.out.grow hb12) (by unfold wcells; rw [List.length_map, HVL.out]; omega) (by omega) (one_words vs)).mono ?_
  rintro e w3 ⟨v, rfl, hown, hb3⟩
  obtain ⟨a3, c3, rfl, hld⟩ := Leads.of_own hown
  have H3 := hid hld
  have H4 := hid (H1.out.grow hb3)
  have hbw := step hb12 hb3
  clear hown hld hb12 hb3 H1
  have PK : Hid (∀ W : World, Leads W a1 n c1 (fcells fs) → Leads W a3 m c3 (wcells vs) → Calls Try.prog 34 #[.slice a1 n c1, .slice a3 m c3] W (Ret (.tuple #[.int .u64 (PV : Int), .int .i64 F]) W)) := by
    intro W h h'
    have h1 := HFL.out
    have h2 := HVL.out
    subst h1 h2
    rw [← EP.out]
    exact Pack_any fs vs a1 c1 a3 c3 W h HF.out (by omega) h' HV.out
  have SP : Hid (∀ (W : World), Leads W a1 n c1 (fcells fs) → Calls Try.prog 33 #[.int .u64 (x : Nat), .slice a1 n c1] W (fun e w' => ∃ (a5 : Option Addr) (n5 c5 : Nat), e = .returned (.tuple #[.slice a5 n5 c5, .int .i64 E1]) ∧
      (AP = true → n5 = n ∧ Leads w' a5 n c5 (wcells (gets x fs))) ∧ (AP = false → n5 = 0) ∧ Below W.heap.size W w')) := by
    intro W h
    have h1 := HFL.out
    have h2 := HAP.out
    have h3 := HE1.out
    subst h1 h2 h3
    exact Split_both x fs a1 c1 W hx h HF.out (by omega)
  have CK : Hid (∀ W : World, Leads W a1 n c1 (fcells fs) → Calls Try.prog 32 #[.slice a1 n c1] W (Ret (.int .i64 E1) W)) := by
    intro W h
    have h1 := HFL.out
    have h2 := HAP.out
    have h3 := HE1.out
    subst h1 h2 h3
    rw [← check_is]
    exact check_any fs a1 c1 W h HF.out (by omega)
  have RA : Hid (∀ W : World, Leads W a1 n c1 (fcells fs) → Calls Try.prog 31 #[.slice a1 n c1] W (Ret (.bool AP) W)) := by
    intro W h
    have h1 := HFL.out
    have h2 := HAP.out
    subst h1 h2
    exact rApart_any fs a1 c1 W h HF.out
  go_wp2_with fail
  refine (RA.out _ H4.out).mono ?_
  rintro e w4 ⟨rfl, hb4⟩
  go_wp2_with fail
  refine (CK.out _ (H4.out.grow hb4)).mono ?_
  rintro e w5 ⟨rfl, hb5⟩
  have hb6 := step hb4 hb5
  clear hb4 hb5
  go_upto_region 7 with (fail)
  go_cut [54] (fun b wr => b = .bool false ∧ Below w3.heap.size w3 wr)
  case first => as_aux_lemma =>
    cases AP with
    | false =>
      obtain rfl : E1 = 110 := HE1.out.symm
      go_wp2
      go_meet
      exact ⟨rfl, hb6⟩
    | true =>
      obtain rfl : E1 = 0 := HE1.out.symm
      go_wp2
      go_meet
      exact ⟨rfl, hb6⟩
  case rest =>
    obtain ⟨rfl, hb7⟩ := hcut
    clear hb6
    go_wp2_with fail
    refine (SP.out _ (H4.out.grow hb7)).mono ?_
    rintro e w6 ⟨a5, n5, c5, rfl, hsy, hsn, hb8⟩
    have hb9 := step hb7 hb8
    have hn5 : n5 ≤ 8 := by cases AP with
      | false => rw [hsn rfl]; omega
      | true => rw [(hsy rfl).1]; exact hn8
    have HSY := hid hsy
    have HSN := hid hsn
    clear hsy hsn hb7 hb8
    go_wp2_with fail
    refine (PK.out _ (H4.out.grow hb9) (H3.out.grow hb9)).mono ?_
    rintro e w7 ⟨rfl, hb10⟩
    go_upto_if 67 with (fail)
    go_cut [13] (fun b wr => b = .int .i64 NO ∧ Below w6.heap.size w6 wr)
    case first => as_aux_lemma =>
      cases AP with
      | false =>
        obtain ⟨rfl, rfl, rfl⟩ := HPNO.out rfl
        go_wp2
        go_meet
        exact ⟨rfl, hb10⟩
      | true =>
        rcases HPYES.out rfl with ⟨hmn, rfl, rfl, rfl⟩ | ⟨hmn, rfl, hpp⟩
        · have hne : (((m : Nat) : Int) == (n : Nat)) = false := by simp; omega
          clear hmn
          go_wp2
          go_meet
          exact ⟨rfl, hb10⟩
        · subst hmn
          clear hpp
          go_wp2
          go_meet
          exact ⟨rfl, hb10⟩
    case rest =>
      obtain ⟨rfl, hb11⟩ := hcut
      clear hb10
      go_upto_region 16 with (fail)
      go_cut [95] (fun b wr => b = .bool false ∧ Below w6.heap.size w6 wr)
      case first => as_aux_lemma =>
        cases AP with
        | false =>
          obtain rfl : E1 = 110 := HE1.out.symm
          obtain rfl := HSN.out rfl
          rcases Nat.eq_zero_or_pos n with rfl | hpos
          · go_wp2
            go_meet
            exact ⟨rfl, hb11⟩
          · have h0n : ((0 : Int) != ((n : Nat) : Int)) = true := by simp; omega
            go_wp2
            go_meet
            exact ⟨rfl, hb11⟩
        | true =>
          obtain rfl : E1 = 0 := HE1.out.symm
          obtain ⟨rfl, -⟩ := HSY.out rfl
          go_wp2
          go_meet
          exact ⟨rfl, hb11⟩
      case rest =>
        obtain ⟨rfl, hb12⟩ := hcut
        clear hb11
        have HISF : Hid (AP = true → ∀ f ∈ fs, isF f.1 f.2 = true) := fun h => apGo_isF fs [] (HAP.out.trans h)
        go_wp2
        go_loopg [14, 15, 98] n (fun g o b i wr => ∃ (k pk : Nat) (fit : Bool), g + k = n ∧ i = .int .i64 (k : Nat) ∧ o = .int .u64 (pk : Nat) ∧ b = .bool fit ∧ pk < 18446744073709551616 ∧
          Hid (NO = 0 → (fit = true → packGo 0 (fs.zip vs) = packGo pk ((fs.zip vs).drop k)) ∧ (fit = false → packGo 0 (fs.zip vs) = none)) ∧ Hid (NO ≠ 0 → pk = 0 ∧ fit = true) ∧ Below w6.heap.size w6 wr)
        case atStart => exact ⟨0, 0, true, rfl, rfl, rfl, rfl, by decide, fun _ => ⟨fun _ => rfl, fun h => (by cases h)⟩, fun _ => ⟨rfl, rfl⟩, hb12⟩
        case round =>
          obtain ⟨k, pk, fit, hk, rfl, rfl, rfl, hpk, hz0, hz1, hb⟩ := hrel
          have HK := hid hk
          clear hk
          by_cases hlt : k < n
          · obtain ⟨_, _, ⟨h, _⟩ | ⟨b, off, rfl, h3, h4⟩⟩ := H4.out
            · omega
            obtain ⟨⟨fa, fc⟩, hfk⟩ : ∃ f, fs[k]? = some f := ⟨_, List.getElem?_eq_getElem (by rw [HFL.out]; exact hlt)⟩
            have hfb := HF.out _ (List.mem_of_getElem? hfk)
            obtain ⟨hf1, hf2, hf3, hf4⟩ := hfb
            dsimp only at hf1 hf2 hf3 hf4
            have hb36 := step hb9 hb
            have hc0 : wr.cell? ⟨b, off + k * 2, none⟩ = some (.int .i64 fa) := (hb36.cell (by exact h3)).trans (h4 (k * 2) _ (flat_at _ 2 (fun _ => rfl) fs k 0 _ hfk (by omega)))
            have hc1 : wr.cell? ⟨b, off + k * 2 + 1, none⟩ = some (.int .i64 fc) := (hb36.cell (by exact h3)).trans (h4 (k * 2 + 1) _ (flat_at _ 2 (fun _ => rfl) fs k 1 _ hfk (by omega)))
            obtain ⟨wb, hwb, hbb, hsb, hcb⟩ := boxed wr #[Value.int IntKind.i64 fa, Value.int IntKind.i64 fc] 53
            have hyb := step hb hbb
            have hx0 := hcb wb 0 _ (Below.refl _ _) rfl
            have hx1 := hcb wb 1 _ (Below.refl _ _) rfl
            have hfo : fok [(fa, fc)] := by
              intro f hf
              simp at hf
              subst hf
              exact ⟨hf1, hf2, hf3, hf4⟩
            obtain ⟨IS, hIS⟩ : ∃ IS, isF fa fc = IS := ⟨_, rfl⟩
            have hAI : AP = true → IS = true := fun h => hIS ▸ HISF.out h _ (List.mem_of_getElem? hfk)
            obtain ⟨A, GE, ⟨hG1, hG2⟩, eG, hGno, hGyes⟩ := getV_ways x fa fc
            rw [hIS] at hGno hGyes
            have HAI := hid hAI
            have HIS := hid hIS
            have EG := hid eG
            have HGNO := hid hGno
            have HGYES := hid hGyes
            have HC := hid hcb
            have HFO := hid hfo
            have HFK := hid hfk
            clear hcb hfk h4 hsb hfo hIS hAI eG hGno hGyes
            have hFi : Hid (∀ W : World, Calls Try.prog 35 #[.agg #[.int .i64 fa, .int .i64 fc]] W (Ret (.bool IS) W)) := fun W => HIS.out ▸ rField_any fa fc W hf1 hf2 hf3 hf4
            have hGe : Hid (∀ W : World, Calls Try.prog 28 #[.int .u64 (x : Nat), .agg #[.int .i64 fa, .int .i64 fc]] W (Ret (.tuple #[.int .u64 (A : Int), .int .i64 GE]) W)) := fun W => EG.out ▸ Get_any x fa fc W hx HFO.out
            go_wp2_with fail
            refine (hFi.out _).mono ?_
            rintro e w8 ⟨rfl, hb13⟩
            have hx2 := HC.out w8 0 _ hb13 rfl
            have hx3 := HC.out w8 1 _ hb13 rfl
            go_upto_region 23 with (go_at_call 28; refine (hGe.out _).mono ?_; rintro e w9 ⟨rfl, hb14⟩)
            have hb15 := step hb13 hb14
            have hx4 := HC.out w9 0 _ hb15 rfl
            have hx5 := HC.out w9 1 _ hb15 rfl
            clear hx0 hx1 hx2 hx3 hb13 hb14
            go_cut [147] (fun q wr => q = .bool false ∧ Below wb.heap.size wb wr)
            case first => as_aux_lemma =>
              cases IS with
              | false =>
                obtain ⟨rfl, rfl⟩ := HGNO.out rfl
                cases AP with
                | true => exact absurd (HAI.out rfl) (by decide)
                | false =>
                  go_wp2
                  go_meet
                  exact ⟨rfl, hb15⟩
              | true =>
                obtain ⟨rfl, hA⟩ := HGYES.out rfl
                obtain ⟨p, c, rfl, rfl, hp1, hp2⟩ := isF_nat HIS.out
                have hrg : Hid (∀ W : World, Calls Try.prog 36 #[.int .u64 (x : Nat), .agg #[.int .i64 (p : Nat), .int .i64 (c : Nat)]] W (Ret (.int .u64 (A : Int)) W)) := fun W => by
                  rw [hA]
                  exact rGet_any x p c W hx hp1 hp2
                have HA := hid hA
                clear hA
                cases AP with
                | false =>
                  go_wp2_with fail
                  refine (hrg.out _).mono ?_
                  rintro e w10 ⟨rfl, hb16⟩
                  go_wp2
                  go_meet
                  exact ⟨rfl, step hb15 hb16⟩
                | true =>
                  obtain ⟨rfl, hl5⟩ := HSY.out rfl
                  obtain ⟨_, _, ⟨h, _⟩ | ⟨b5, off5, rfl, h5, h6⟩⟩ := hl5
                  · omega
                  have hcell : (wcells (gets x fs))[k]? = some (.int .u64 (A : Int)) := by
                    unfold wcells gets
                    rw [List.getElem?_map, List.getElem?_map, HFK.out, HA.out]; rfl
                  have hbA := step hyb hb15
                  have hcp := h6 k _ hcell
                  have hcp2 := (hbA.cell (p := ⟨b5, off5 + k, none⟩) h5).trans hcp
                  have HCP := hid hcp
                  clear h6 hcell hcp
                  go_wp2_with fail
                  refine (hrg.out _).mono ?_
                  rintro e w10 ⟨rfl, hb16⟩
                  have hcp3 := ((step hbA hb16).cell (p := ⟨b5, off5 + k, none⟩) h5).trans HCP.out
                  go_wp2
                  go_meet
                  exact ⟨rfl, step hb15 hb16⟩
            case rest =>
              obtain ⟨rfl, hb16⟩ := hcut
              clear hx4 hx5 hb15
              have hb17 := step hyb hb16
              by_cases hkm : k < m
              · obtain ⟨_, _, ⟨h, _⟩ | ⟨b', off', rfl, h3', h5⟩⟩ := H3.out
                · omega
                obtain ⟨v, hvk⟩ : ∃ v, vs[k]? = some v := ⟨_, List.getElem?_eq_getElem (by rw [HVL.out]; exact hkm)⟩
                have hvb := HV.out _ (List.mem_of_getElem? hvk)
                have hcv := h5 k _ (by unfold wcells; rw [List.getElem?_map, hvk]; rfl)
                have HVC : Hid (∀ W : World, Below w6.heap.size w6 W → W.cell? ⟨b', off' + k, none⟩ = some (.int .u64 (v : Nat))) := fun W hW => ((step hb9 hW).cell (by exact h3')).trans hcv
                have HZ := hid (zip_drop fs vs k _ _ HFK.out hvk)
                obtain ⟨B, HE, ⟨hH1, hH2⟩, eS, hSno, hSyes⟩ := setV_ways x fa fc v
                rw [HIS.out] at hSno hSyes
                have HSNO := hid hSno
                have HSYES := hid hSyes
                have hSe : Hid (∀ W : World, Calls Try.prog 37 #[.int .u64 (x : Nat), .agg #[.int .i64 fa, .int .i64 fc], .int .u64 (v : Nat)] W (Ret (.tuple #[.int .u64 (B : Int), .int .i64 HE]) W)) := fun W => eS ▸ Set_any x v fa fc W hx HFO.out
                clear hvk h5 hcv eS hSno hSyes
                have hd0 := fun z : Ext wc => HC.out z.v 0 _ (step hb16 z.b) rfl
                have hd1 := fun z : Ext wc => HC.out z.v 1 _ (step hb16 z.b) rfl
                have hd2 := fun z : Ext wc => HVC.out z.v (step hb17 z.b)
                go_upto_region 26 with (fail)
                refine wp_region_ext (by kernel_rfl) (by kernel_rfl) ?_
                repeat (go_big_quiet_step ((go_at_call 37; exact ext_of (hSe.out _))))
                refine wpQuiet_nil ?_
                rintro _ ⟨⟨w10, hb18⟩, rfl⟩
                have hb19 := step hb16 hb18
                clear hd0 hd1 hd2 hb18
                go_upto_if 162 with (fail)
                go_cut [23, 24] (fun q r wr => q = .int .u64 (B : Int) ∧ r = .int .i64 HE ∧ Below wb.heap.size wb wr)
                case first => as_aux_lemma =>
                  cases IS with
                  | false =>
                    obtain ⟨rfl, rfl⟩ := HSNO.out rfl
                    go_wp2
                    go_meet
                    exact ⟨rfl, rfl, hb19⟩
                  | true =>
                    obtain ⟨p, c, rfl, rfl, hp1, hp2⟩ := isF_nat HIS.out
                    have hyb19 := step hyb hb19
                    have hd0 := fun z : Ext _ => HC.out z.v 0 _ (step hb19 z.b) rfl
                    have hd1 := fun z : Ext _ => HC.out z.v 1 _ (step hb19 z.b) rfl
                    have hd2 := fun z : Ext _ => HVC.out z.v (step hyb19 z.b)
                    rcases HSYES.out rfl with ⟨hvf, rfl, hB⟩ | ⟨hvf, rfl, rfl⟩
                    · have hFit : Hid (∀ W : World, Calls Try.prog 24 #[.int .u64 (v : Nat), .int .i64 (c : Nat)] W (Ret (.bool true) W)) := fun W => by
                        have := Fits_any v c W hvb (by omega)
                        rw [decide_eq_true (show v < pw c from hvf)] at this
                        exact this
                      have hRS : Hid (∀ W : World, Calls Try.prog 38 #[.int .u64 (x : Nat), .agg #[.int .i64 (p : Nat), .int .i64 (c : Nat)], .int .u64 (v : Nat)] W (Ret (.int .u64 (B : Int)) W)) := fun W => by
                        rw [hB]
                        exact rSet_any x v p c W hx hp1 hp2 hvf
                      clear hvf hB
                      go_upto_region 30 with (fail)
                      refine wp_region_ext (by kernel_rfl) (by kernel_rfl) ?_
                      repeat (go_big_quiet_step ((go_at_call 24; exact ext_of (hFit.out _))))
                      refine wpQuiet_nil ?_
                      rintro _ ⟨⟨w11, hb20⟩, rfl⟩
                      have hb21 := step hb19 hb20
                      have hyb21 := step hyb hb21
                      clear hd0 hd1 hd2
                      have hd0 := fun z : Ext _ => HC.out z.v 0 _ (step hb21 z.b) rfl
                      have hd1 := fun z : Ext _ => HC.out z.v 1 _ (step hb21 z.b) rfl
                      have hd2 := fun z : Ext _ => HVC.out z.v (step hyb21 z.b)
                      go_upto_region 31 with (fail)
                      refine wp_region_ext (by kernel_rfl) (by kernel_rfl) ?_
                      repeat (go_big_quiet_step ((go_at_call 38; exact ext_of (hRS.out _))))
                      refine wpQuiet_nil ?_
                      rintro _ ⟨⟨w12, hb22⟩, rfl⟩
                      go_wp2
                      go_meet
                      exact ⟨rfl, rfl, step hb21 hb22⟩
                    · have hFit : Hid (∀ W : World, Calls Try.prog 24 #[.int .u64 (v : Nat), .int .i64 (c : Nat)] W (Ret (.bool false) W)) := fun W => by
                        have := Fits_any v c W hvb (by omega)
                        rw [decide_eq_false (show ¬ v < pw c from hvf)] at this
                        exact this
                      clear hvf
                      go_upto_region 30 with (fail)
                      refine wp_region_ext (by kernel_rfl) (by kernel_rfl) ?_
                      repeat (go_big_quiet_step ((go_at_call 24; exact ext_of (hFit.out _))))
                      refine wpQuiet_nil ?_
                      rintro _ ⟨⟨w11, hb20⟩, rfl⟩
                      go_wp2
                      go_meet
                      exact ⟨rfl, rfl, step hb19 hb20⟩
                case rest =>
                  obtain ⟨rfl, rfl, hb20⟩ := hcut
                  clear hb19
                  go_upto_if 186 with (fail)
                  as_aux_lemma =>
                    cases hN0 : (NO == 0) with
                    | false =>
                      have hN3 : NO ≠ 0 := by simpa using hN0
                      have HN3 := hid hN3
                      clear hN3
                      go_wp2
                      go_roundg (gk - 1)
                      case measure => have := HK.out; omega
                      case rel => exact ⟨k + 1, pk, fit, by have := HK.out; omega, by go_num, rfl, rfl, hpk, fun h => absurd h HN3.out, hz1, step hyb hb20⟩
                    | true =>
                      obtain rfl : NO = 0 := by simpa using hN0
                      clear hN0
                      obtain rfl : AP = true := by
                        cases AP with
                        | true => rfl
                        | false => have := (HPNO.out rfl).1; omega
                      obtain rfl : IS = true := HAI.out rfl
                      obtain ⟨p, c, rfl, rfl, hp1, hp2⟩ := isF_nat HIS.out
                      obtain ⟨h1, h2⟩ := hz0.out rfl
                      rw [HZ.out] at h1
                      have H1' := hid h1
                      have H2' := hid h2
                      clear h1 h2
                      rcases HSYES.out rfl with ⟨hvf, rfl, hB⟩ | ⟨hvf, rfl, rfl⟩
                      · cases fit with
                        | false =>
                          have h3 := H2'.out rfl
                          have HH3 := hid h3
                          clear hvf hB h3
                          go_wp2
                          go_roundg (gk - 1)
                          case measure => have := HK.out; omega
                          case rel => exact ⟨k + 1, pk, false, by have := HK.out; omega, by go_num, rfl, rfl, hpk, fun _ => ⟨fun h => (by cases h), fun _ => HH3.out⟩, fun h => absurd rfl h, step hyb hb20⟩
                        | true =>
                          have hnx : Pl.set pk p c v < 18446744073709551616 := Pl.set_lt pk p c v hp2 hpk hvf
                          have h3 : packGo 0 (fs.zip vs) = packGo (Pl.set pk p c v) ((fs.zip vs).drop (k + 1)) := by
                            rw [H1'.out rfl, packGo]; exact if_pos hvf
                          obtain ⟨y, hy⟩ : ∃ y, Pl.set pk p c v = y := ⟨_, rfl⟩
                          rw [hy] at hnx h3
                          have hRS : Hid (∀ W : World, Calls Try.prog 38 #[.int .u64 (pk : Nat), .agg #[.int .i64 (p : Nat), .int .i64 (c : Nat)], .int .u64 (v : Nat)] W (Ret (.int .u64 (y : Int)) W)) := fun W => by
                            rw [← hy]
                            exact rSet_any pk v p c W hpk hp1 hp2 hvf
                          have HH3 := hid h3
                          have hyb20 := step hyb hb20
                          have hd0 := fun z : Ext wc => HC.out z.v 0 _ (step hb20 z.b) rfl
                          have hd1 := fun z : Ext wc => HC.out z.v 1 _ (step hb20 z.b) rfl
                          have hd2 := fun z : Ext wc => HVC.out z.v (step hyb20 z.b)
                          clear hvf hB h3 hy
                          go_upto_region 37 with (fail)
                          refine wp_region_ext (by kernel_rfl) (by kernel_rfl) ?_
                          repeat (go_big_quiet_step ((go_at_call 38; exact ext_of (hRS.out _))))
                          refine wpQuiet_nil ?_
                          rintro _ ⟨⟨w11, hb21⟩, rfl⟩
                          go_wp2
                          go_roundg (gk - 1)
                          case measure => have := HK.out; omega
                          case rel => exact ⟨k + 1, y, true, by have := HK.out; omega, by go_num, rfl, rfl, hnx, fun _ => ⟨fun _ => HH3.out, fun h => (by cases h)⟩, fun h => absurd rfl h, step hyb (step hb20 hb21)⟩
                      · have h3 : packGo 0 (fs.zip vs) = none := by
                          cases fit with
                          | false => exact H2'.out rfl
                          | true => rw [H1'.out rfl, packGo]; exact if_neg hvf
                        have HH3 := hid h3
                        clear hvf h3
                        cases fit with
                        | false =>
                          go_wp2
                          go_roundg (gk - 1)
                          case measure => have := HK.out; omega
                          case rel => exact ⟨k + 1, pk, false, by have := HK.out; omega, by go_num, rfl, rfl, hpk, fun _ => ⟨fun h => (by cases h), fun _ => HH3.out⟩, fun h => absurd rfl h, step hyb hb20⟩
                        | true =>
                          go_wp2
                          go_roundg (gk - 1)
                          case measure => have := HK.out; omega
                          case rel => exact ⟨k + 1, pk, false, by have := HK.out; omega, by go_num, rfl, rfl, hpk, fun _ => ⟨fun h => (by cases h), fun _ => HH3.out⟩, fun h => absurd rfl h, step hyb hb20⟩
              · have hz2 : Hid (NO = 0 → False) := by
                  intro h
                  subst h
                  cases AP with
                  | false => have := (HPNO.out rfl).1; omega
                  | true =>
                    rcases HPYES.out rfl with ⟨_, h, _⟩ | ⟨h, _⟩
                    · omega
                    · omega
                have hz3 : Hid (NO = 0 → (fit = true → packGo 0 (fs.zip vs) = packGo pk ((fs.zip vs).drop (k + 1))) ∧ (fit = false → packGo 0 (fs.zip vs) = none)) := fun h => (hz2.out h).elim
                go_wp2
                go_roundg (gk - 1)
                case measure => have := HK.out; omega
                case rel => exact ⟨k + 1, pk, fit, by have := HK.out; omega, by go_num, rfl, rfl, hpk, hz3, hz1, hb17⟩
          · obtain rfl : k = n := by have := HK.out; omega
            have hdrop : (fs.zip vs).drop k = [] := List.drop_of_length_le (by rw [List.length_zip, HFL.out]; omega)
            have hb13 := step hb9 hb
            have hend : Hid ((AP = true ∧ NO = 0 ∧ fit = true ∧ PV = pk ∧ F = 0) ∨ (AP = true ∧ NO = 0 ∧ fit = false ∧ PV = 0 ∧ F = 111) ∨ (NO = F ∧ 2 ≤ F ∧ fit = true ∧ PV = 0)) := by
              refine hid ?_
              cases AP with
              | false =>
                obtain ⟨rfl, rfl, rfl⟩ := HPNO.out rfl
                exact .inr (.inr ⟨rfl, by decide, (hz1.out (by decide)).2, rfl⟩)
              | true =>
                rcases HPYES.out rfl with ⟨hmn, rfl, rfl, rfl⟩ | ⟨hmn, rfl, hpp⟩
                · exact .inr (.inr ⟨rfl, by decide, (hz1.out (by decide)).2, rfl⟩)
                · obtain ⟨h1, h2⟩ := hz0.out rfl
                  cases fit with
                  | true =>
                    have h3 := h1 rfl
                    rw [hdrop] at h3
                    rcases hpp with ⟨p, e1, e2, e3⟩ | ⟨e1, e2, e3⟩
                    · rw [h3] at e1
                      simp [packGo] at e1
                      exact .inl ⟨rfl, rfl, rfl, by omega, e3⟩
                    · rw [h3] at e1
                      simp [packGo] at e1
                  | false =>
                    have h3 := h2 rfl
                    rcases hpp with ⟨p, e1, e2, e3⟩ | ⟨e1, e2, e3⟩
                    · rw [h3] at e1
                      cases e1
                    · exact .inr (.inl ⟨rfl, rfl, rfl, e2, e3⟩)
            clear hdrop
            rcases hend.out with ⟨rfl, rfl, rfl, rfl, rfl⟩ | ⟨rfl, rfl, rfl, rfl, rfl⟩ | ⟨rfl, hF3, rfl, rfl⟩
            · as_aux_lemma =>
              go_wp2_with fail
              refine (EqualF_same a1 a0 k c1 cap0 (fcells fs) _ (H4.out.grow hb13) (H0.out.grow (step hbw hb13)) ((fcells_len fs).trans (by rw [HFL.out])) (fun j hj => fcells_at fs j (by rw [HFL.out]; exact hj))).mono ?_
              rintro e w8 ⟨rfl, hb14⟩
              go_wp2
              go_ret
              exact ⟨rfl, step hbw (step hb13 hb14)⟩
            · as_aux_lemma =>
              go_wp2_with fail
              refine (EqualF_same a1 a0 k c1 cap0 (fcells fs) _ (H4.out.grow hb13) (H0.out.grow (step hbw hb13)) ((fcells_len fs).trans (by rw [HFL.out])) (fun j hj => fcells_at fs j (by rw [HFL.out]; exact hj))).mono ?_
              rintro e w8 ⟨rfl, hb14⟩
              go_wp2
              go_ret
              exact ⟨rfl, step hbw (step hb13 hb14)⟩
            · as_aux_lemma =>
              have hN0 : (NO == 0) = false := by simp; omega
              have hN3 : (NO != 0) = true := by simp; omega
              go_wp2_with fail
              refine (EqualF_same a1 a0 k c1 cap0 (fcells fs) _ (H4.out.grow hb13) (H0.out.grow (step hbw hb13)) ((fcells_len fs).trans (by rw [HFL.out])) (fun j hj => fcells_at fs j (by rw [HFL.out]; exact hj))).mono ?_
              rintro e w8 ⟨rfl, hb14⟩
              go_wp2
              go_ret
              exact ⟨rfl, step hbw (step hb13 hb14)⟩
end Go.Proofs.Ytgigjfdgejajbaa
