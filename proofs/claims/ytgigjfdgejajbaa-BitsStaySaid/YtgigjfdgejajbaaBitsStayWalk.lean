/- BitsStay: the walk of the law. -/
import Derived.Test.YtgigjfdgejajbaaLawA
import Derived.Test.YtgigjfdgejajbaaPlain4
import Derived.Laws.OwnMore
namespace Go.Proofs.Ytgigjfdgejajbaa
open Go.RowKit
open Go.Proofs
set_option linter.unusedVariables false

theorem packV_ways (fs : List FieldI) (vs : List Nat) : ∃ (P : Nat) (E : Int), (0 ≤ E ∧ E ≤ 111) ∧ packV fs vs = .tuple #[.int .u64 (P : Int), .int .i64 E] ∧ (E = 0 → P < 18446744073709551616 ∧ apGo [] fs = true ∧ vs.length = fs.length ∧ gets P fs = vs) := by
  rcases packV_ok fs vs with ⟨p, e, h⟩ | ⟨E, hE, e⟩
  · exact ⟨p, 0, by decide, e, fun _ => h⟩
  · exact ⟨0, E, by omega, e, fun h => by omega⟩

set_option maxRecDepth 100000 in
set_option maxHeartbeats 1000000 in
theorem bitsStay.walk (a0 : Option Addr) (cap0 : Nat) (fs0 : List FieldI) (x : Nat) (a2 : Option Addr) (cap2 : Nat) (vs0 : List Nat) (w : World) (h0 : Leads w a0 fs0.length cap0 (fcells fs0)) (hf0 : fok fs0) (hx : x < 18446744073709551616) (h2 : Leads w a2 vs0.length cap2 (wcells vs0)) (hv0 : wok vs0) :
    Calls Try.prog 8 #[.slice a0 fs0.length cap0, .int .u64 (x : Nat), .slice a2 vs0.length cap2] w (Ret (.bool true) w) := by
  obtain ⟨n0, en0⟩ : ∃ n, fs0.length = n := ⟨_, rfl⟩
  obtain ⟨m0, em0⟩ : ∃ n, vs0.length = n := ⟨_, rfl⟩
  rw [en0] at h0 ⊢
  rw [em0] at h2 ⊢
  obtain ⟨n, hn⟩ : ∃ n : Nat, min (n0 : Int) 8 = (n : Int) := ⟨min n0 8, by omega⟩
  obtain ⟨m, hm⟩ : ∃ m : Nat, min (m0 : Int) 10 = (m : Int) := ⟨min m0 10, by omega⟩
  have hn8 : n ≤ 8 := by omega
  have hm10 : m ≤ 10 := by omega
  have hl0 := h0.len
  obtain ⟨hl1, hl2⟩ := hl0
  have hl5 := h2.len
  obtain ⟨hl3, hl4⟩ := hl5
  have hnc := h0.1
  have hmc := h2.1
  have hnn : n ≤ n0 := by omega
  have hmm : m ≤ m0 := by omega
  have H0 := hid (h0.fields en0 hnn)
  have H2 := hid (h2.words em0 hmm)
  obtain ⟨fs, hfs⟩ : ∃ fs, fs = fs0.take n := ⟨_, rfl⟩
  obtain ⟨vs, hvs⟩ : ∃ vs, vs = vs0.take m := ⟨_, rfl⟩
  have hfl : fs.length = n := by rw [hfs, List.length_take, en0]; omega
  have hvl : vs.length = m := by rw [hvs, List.length_take, em0]; omega
  have hf : fok fs := fun f hf => hf0 f (List.mem_of_mem_take (hfs ▸ hf))
  have hv : wok vs := fun f hf => hv0 f (List.mem_of_mem_take (hvs ▸ hf))
  rw [← hfs] at H0
  rw [← hvs] at H2
  have HFL := hid hfl
  have HVL := hid hvl
  have HF := hid hf
  have HV := hid hv
  clear h0 h2 hfs hvs hf0 hv0 hf hv en0 em0 hfl hvl
  go_enter Try.func8, Try.ntmps8
  go_upto_region 3 with ((go_at_call 9; refine (wakes_any _).mono ?_; rintro e w1 ⟨rfl, hb1⟩))
  go_wp2_with fail
  refine (CloneF_any a0 n cap0 (fcells fs) _ (H0.out.grow hb1) ((fcells_len fs).trans (by rw [HFL.out])) (by omega) (one_fields fs)).mono ?_
  rintro e w2 ⟨v, rfl, hown, hb2⟩
  obtain ⟨a1, c1, rfl, hld⟩ := Leads.of_own hown
  have H1 := hid hld
  have hb12 := step hb1 hb2
  clear hown hld hb1 hb2
  go_wp2_with fail
  refine (CloneW_any a2 m cap2 (wcells vs) _ (H2.out.grow hb12) (by unfold wcells; rw [List.length_map, HVL.out]; omega) (by omega) (one_words vs)).mono ?_
  rintro e w3 ⟨v, rfl, hown, hb3⟩
  obtain ⟨a3, c3, rfl, hld⟩ := Leads.of_own hown
  have H3 := hid hld
  have H4 := hid (H1.out.grow hb3)
  have hbw := step hb12 hb3
  clear hown hld hb12 hb3 H1
  obtain ⟨P, E, ⟨hE1, hE2⟩, eP, hP⟩ := packV_ways fs vs
  have HP := hid hP
  have PK : Hid (∀ W : World, Leads W a1 n c1 (fcells fs) → Leads W a3 m c3 (wcells vs) → Calls Try.prog 34 #[.slice a1 n c1, .slice a3 m c3] W (Ret (.tuple #[.int .u64 (P : Int), .int .i64 E]) W)) := by
    intro W h h'
    have h1 := HFL.out
    have h2 := HVL.out
    subst h1 h2
    rw [← eP]
    exact Pack_any fs vs a1 c1 a3 c3 W h HF.out (by omega) h' HV.out
  have SP : Hid (∀ (W : World) (y : Nat), apGo [] fs = true → y < 18446744073709551616 → Leads W a1 n c1 (fcells fs) → Calls Try.prog 33 #[.int .u64 (y : Nat), .slice a1 n c1] W (fun e w' => ∃ v, e = .returned (.tuple #[v, .int .i64 0]) ∧ w'.ownsRow W.heap.size 25 1 v n (wcells (gets y fs)) ∧ Below W.heap.size W w')) := by
    intro W y hap hy h
    have h1 := HFL.out
    subst h1
    exact Split_ok y fs a1 c1 W hy h HF.out (by omega) hap
  have CK : Hid (∀ W : World, Leads W a1 n c1 (fcells fs) → Calls Try.prog 32 #[.slice a1 n c1] W (Ret (.int .i64 (errOf (apGo [] fs) 110)) W)) := by
    intro W h
    have h1 := HFL.out
    subst h1
    rw [← check_is]
    exact check_any fs a1 c1 W h HF.out (by omega)
  clear eP hP
  go_upto_if 41 with (go_at_call 34; refine (PK.out _ H4.out H3.out).mono ?_; rintro e w4 ⟨rfl, hb4⟩)
  go_cut [] (fun wr => Below w3.heap.size w3 wr)
  case first =>
    cases hE0 : (E == 0) with
    | false =>
      go_wp2
      go_meet
      exact hb4
    | true =>
      obtain rfl : E = 0 := by simpa using hE0
      obtain ⟨hPl, hap, hlen, hg⟩ := HP.out rfl
      rw [HVL.out, HFL.out] at hlen
      obtain rfl : n = m := hlen.symm
      have HG := hid hg
      have HA := hid hap
      clear hg hap hE0
      go_wp2_with fail
      refine (SP.out _ P HA.out hPl (H4.out.grow hb4)).mono ?_
      rintro e w5 ⟨v, rfl, hown, hb5⟩
      obtain ⟨a5, c5, rfl, hld⟩ := Leads.of_own hown
      rw [HG.out] at hld
      have HLD := hid hld
      clear hown hld
      have hb6 := step hb4 hb5
      go_wp2_with fail
      refine (EqualW_same a5 a3 n c5 c3 (wcells vs) _ HLD.out (H3.out.grow hb6) (by unfold wcells; rw [List.length_map, HVL.out]; omega) (wcells_at vs)).mono ?_
      rintro e w6 ⟨rfl, hb7⟩
      go_wp2
      go_meet
      exact step hb6 hb7
  case rest =>
    clear hb4
    cases hap : apGo [] fs with
    | false =>
      have HC2 := CK.out
      rw [hap] at HC2
      have HC := hid HC2
      clear HC2 hap
      go_wp2_with fail
      refine (HC.out _ (H4.out.grow hcut)).mono ?_
      rw [show errOf false 110 = 110 from rfl]
      rintro e w5 ⟨rfl, hb5⟩
      go_wp2
      go_ret
      exact ⟨rfl, step hbw (step hcut hb5)⟩
    | true =>
      have HC2 := CK.out
      rw [hap] at HC2
      have HC := hid HC2
      have HA := hid hap
      clear HC2 hap
      go_wp2_with fail
      refine (HC.out _ (H4.out.grow hcut)).mono ?_
      rw [show errOf true 110 = 0 from rfl]
      rintro e w5 ⟨rfl, hb5⟩
      have hb6 := step hcut hb5
      clear hb5 hcut
      go_wp2
      go_loopg [1, 61] n (fun g o i wr => ∃ k y : Nat, g + k = n ∧ i = .int .i64 (k : Nat) ∧ o = .int .u64 (y : Nat) ∧ y < 18446744073709551616 ∧ Below w3.heap.size w3 wr)
      case atStart => exact ⟨0, x, rfl, rfl, rfl, hx, hb6⟩
      case round =>
        obtain ⟨k, y, hk, rfl, rfl, hy, hb⟩ := hrel
        have HK := hid hk
        clear hk
        by_cases hlt : k < n
        · obtain ⟨_, _, ⟨h, _⟩ | ⟨b, off, rfl, h3, h4⟩⟩ := H4.out
          · omega
          obtain ⟨⟨fa, fc⟩, hfk⟩ : ∃ f, fs[k]? = some f := ⟨_, List.getElem?_eq_getElem (by rw [HFL.out]; exact hlt)⟩
          have hif := apGo_isF fs [] HA.out _ (List.mem_of_getElem? hfk)
          have hfb := HF.out _ (List.mem_of_getElem? hfk)
          obtain ⟨p, c, rfl, rfl, hp1, hp2⟩ := isF_nat hif
          have hc0 : wr.cell? ⟨b, off + k * 2, none⟩ = some (.int .i64 (p : Nat)) := (hb.cell (by exact h3)).trans (h4 (k * 2) _ (flat_at _ 2 (fun _ => rfl) fs k 0 _ hfk (by omega)))
          have hc1 : wr.cell? ⟨b, off + k * 2 + 1, none⟩ = some (.int .i64 (c : Nat)) := (hb.cell (by exact h3)).trans (h4 (k * 2 + 1) _ (flat_at _ 2 (fun _ => rfl) fs k 1 _ hfk (by omega)))
          obtain ⟨wb, hwb, hbb, hsb, hcb⟩ := boxed wr #[Value.int IntKind.i64 (p : Nat), Value.int IntKind.i64 (c : Nat)] 53
          have hyb := step hb hbb
          have hd0 := fun z : Ext wb => hcb z.v 0 _ z.b rfl
          have hd1 := fun z : Ext wb => hcb z.v 1 _ z.b rfl
          have hfo : fok [((p : Int), (c : Int))] := by
            intro f hf
            simp at hf
            subst hf
            exact hfb
          have HFO := hid hfo
          have HFK := hid hfk
          have h4' := hid h4
          clear hcb hfk h4 hif hsb hfb hfo
          by_cases hkm : k < m
          · obtain ⟨_, _, ⟨h, _⟩ | ⟨b', off', rfl, h3', h5⟩⟩ := H3.out
            · omega
            obtain ⟨v, hvk⟩ : ∃ v, vs[k]? = some v := ⟨_, List.getElem?_eq_getElem (by rw [HVL.out]; exact hkm)⟩
            have hvb := HV.out _ (List.mem_of_getElem? hvk)
            have hcv := h5 k _ (by unfold wcells; rw [List.getElem?_map, hvk]; rfl)
            have hd2 : ∀ z : Ext wb, z.v.cell? ⟨b', off' + k, none⟩ = some (.int .u64 (v : Nat)) := fun z => ((step hyb z.b).cell (by exact h3')).trans hcv
            have HCV := hid hcv
            clear hvk h5 hcv
            go_upto_region 16 with (fail)
            by_cases hvf : v < 2 ^ c
            · have hsv := setV_yes y p c v hp1 hp2 hvf
              have hset := gets_set fs y v k _ HA.out HFK.out hy hvf
              obtain ⟨y', hy'⟩ : ∃ y', Pl.set y p c v = y' := ⟨_, rfl⟩
              have hnx : y' < 18446744073709551616 := hy' ▸ Pl.set_lt y p c v hp2 hy hvf
              change gets (Pl.set y p c v) fs = _ at hset
              rw [hy'] at hsv hset
              have hcells : (wcells (gets y fs)).set k (.int .u64 (v : Int)) = wcells (gets y' fs) := by rw [hset]; unfold wcells; rw [List.map_set]
              have HCS := hid hcells
              have HSV := hid hsv
              clear hsv hvf hset hcells hy'
              refine wp_region_ext (by kernel_rfl) (by kernel_rfl) ?_
              repeat (go_big_quiet_step ((go_at_call 37; exact ext_of (HSV.out ▸ Set_any y v (p : Nat) (c : Nat) _ hy HFO.out))))
              refine wpQuiet_nil ?_
              rintro _ ⟨⟨w5, hb5⟩, rfl⟩
              have hb7 := step hyb hb5
              clear hd0 hd1 hd2 hb5
              go_wp2_with fail
              refine (SP.out _ y HA.out hy (H4.out.grow hb7)).mono ?_
              rintro e w6 ⟨v6, rfl, hown6, hb8⟩
              rcases hown6.2 with ⟨_, h⟩ | ⟨g, cap, cur, rfl, hg, hh, -⟩
              · omega
              have hgl := (Array.getElem?_eq_some_iff.1 hh).1
              have hb9 := step hb7 hb8
              have HO6 := hid hown6
              clear hh hown6
              go_wp2_with fail
              refine (SP.out _ y' HA.out hnx (H4.out.grow hb9)).mono ?_
              rintro e w7 ⟨v7, rfl, hown7, hb10⟩
              have ho6 := own_grow HO6.out hb10
              obtain ⟨a7, c7, rfl, hl7⟩ := Leads.of_own (ownsRow_setCell_below hown7 (a := ⟨g, k, none⟩) hgl (.int .u64 (v : Nat)))
              have st := ho6.stored k (.int .u64 (v : Int))
              obtain ⟨a6, c6, e6, hl6⟩ := Leads.of_own st.1
              cases e6
              rw [HCS.out] at hl6
              have hcg := ho6.cellAt k (by omega)
              rw [List.getElem?_eq_getElem (by unfold wcells gets; simp; rw [HFL.out]; exact hlt)] at hcg
              have hfr := ho6.frozenAt k
              have hb11 := step hb9 hb10
              have hcv2 := (hb11.cell (p := ⟨b', off' + k, none⟩) h3').trans HCV.out
              have hgge : w3.heap.size ≤ g := Nat.le_trans hb7.size hg
              have hb12 : Below w3.heap.size w3 (w7.setCell ⟨g, k, none⟩ (.int .u64 (v : Int))) := hb11.setCell hgge _
              obtain ⟨w8, hw8⟩ : ∃ w8, w7.setCell ⟨g, k, none⟩ (.int .u64 (v : Int)) = w8 := ⟨_, rfl⟩
              rw [hw8] at hl7 hl6 hb12
              have HL7 := hid hl7
              have HL6 := hid hl6
              generalize (wcells (gets y fs))[k]'(by unfold wcells gets; simp; rw [HFL.out]; exact hlt) = old at hcg
              clear hl7 hl6 hown7 ho6 st hgge
              go_wp2_with fail
              refine (EqualW_same _ _ n _ _ (wcells (gets y' fs)) _ HL6.out HL7.out (by unfold wcells gets; simp [HFL.out]) (wcells_at _)).mono ?_
              rintro e w9 ⟨rfl, hb13⟩
              go_wp2
              go_roundg (gk - 1)
              case measure => have := HK.out; omega
              case rel => exact ⟨k + 1, y', by have := HK.out; omega, by go_num, rfl, hnx, step hb12 hb13⟩
            · have hsv := setV_big y p c v hp1 hp2 hvf
              have HSV := hid hsv
              clear hsv hvf
              refine wp_region_ext (by kernel_rfl) (by kernel_rfl) ?_
              repeat (go_big_quiet_step ((go_at_call 37; exact ext_of (HSV.out ▸ Set_any y v (p : Nat) (c : Nat) _ hy HFO.out))))
              refine wpQuiet_nil ?_
              rintro _ ⟨⟨w5, hb5⟩, rfl⟩
              clear hd0 hd1 hd2
              go_wp2
              go_ret
              exact ⟨rfl, step hbw (step hyb hb5)⟩
          · go_wp2
            go_ret
            exact ⟨rfl, step hbw hyb⟩
        · go_wp2
          go_ret
          exact ⟨rfl, step hbw hb⟩
end Go.Proofs.Ytgigjfdgejajbaa
