/- bits.Pack. -/
import Derived.Test.YtpehnahmdfoobaaDoorScript15
namespace Go.Proofs.YtpehnahmdfoobaaDoor
open Go.RowKit
open Go.Proofs
set_option linter.unusedVariables false

def ap (f g : FieldI) : Bool := decide (g.1 + g.2 ≤ f.1 ∨ f.1 + f.2 ≤ g.1)
def apGo (done : List FieldI) : List FieldI → Bool
  | [] => true
  | f :: r => isF f.1 f.2 && done.all (ap f) && apGo (done ++ [f]) r
theorem isF_in {a c : Int} (h : isF a c = true) : 0 ≤ a ∧ 1 ≤ c ∧ a ≤ 64 ∧ c ≤ 64 ∧ a + c ≤ 64 := by simpa [isF] using h

theorem check_apGo : ∀ (fs done : List FieldI) (T : Nat), T < 18446744073709551616 → (∀ g ∈ done, isF g.1 g.2 = true) →
    (∀ i : Nat, T.testBit i = true ↔ ∃ g ∈ done, g.1 ≤ (i : Int) ∧ (i : Int) < g.1 + g.2) → checkGo (T : Int) fs = apGo done fs
  | [], done, T, _, _, _ => rfl
  | (fa, fc) :: r, done, T, hT, hd, hb => by
    unfold checkGo apGo
    dsimp only
    cases hif : isF fa fc with
    | false => rfl
    | true =>
      obtain ⟨a, c, rfl, rfl, h1, h2⟩ := isF_nat hif
      have hm := Pl.mask_lt a c h2
      have e1 : bits BinOp.and IntKind.u64 (T : Int) (maskI (a : Int) (c : Int)) = ((T &&& Pl.mask a c : Nat) : Int) := by rw [maskI_nat, u64_and_nat _ _ hT hm]
      have e2 : bits BinOp.or IntKind.u64 (T : Int) (maskI (a : Int) (c : Int)) = ((T ||| Pl.mask a c : Nat) : Int) := by rw [maskI_nat, u64_or_nat _ _ hT hm]
      rw [e1, e2]
      have hz : decide (((T &&& Pl.mask a c : Nat) : Int) = 0) = done.all (ap ((a : Int), (c : Int))) := by
        rw [Bool.eq_iff_iff, decide_eq_true_iff, List.all_eq_true]
        constructor
        · intro h g hg
          have h0 : T &&& Pl.mask a c = 0 := by omega
          obtain ⟨k1, k2, k3, k4, k5⟩ := isF_in (hd g hg)
          unfold ap
          refine decide_eq_true (Classical.not_not.1 fun hn => ?_)
          dsimp only at hn
          have hlt : ∃ i : Nat, (g.1 ≤ (i : Int) ∧ (i : Int) < g.1 + g.2) ∧ a ≤ i ∧ i < a + c := by
            rcases Classical.em (g.1 ≤ (a : Int)) with h | h
            · exact ⟨a, by omega, by omega, by omega⟩
            · exact ⟨g.1.toNat, by omega, by omega, by omega⟩
          obtain ⟨i, hi, hi2⟩ := hlt
          have hbit : (T &&& Pl.mask a c).testBit i = true := by
            rw [Nat.testBit_and, (hb i).2 ⟨g, hg, hi⟩, Pl.mask_bit, decide_eq_true hi2]; rfl
          rw [h0] at hbit
          simp at hbit
        · intro h
          have : T &&& Pl.mask a c = 0 := by
            apply Nat.eq_of_testBit_eq
            intro i
            rw [Nat.testBit_and, Pl.mask_bit, Nat.zero_testBit]
            cases ht : T.testBit i with
            | false => rfl
            | true =>
              obtain ⟨g, hg, hi⟩ := (hb i).1 ht
              have hh := of_decide_eq_true (h g hg)
              dsimp only at hh
              rw [Bool.true_and]
              exact decide_eq_false (by omega)
          omega
      rw [hz, check_apGo r (done ++ [((a : Int), (c : Int))]) (T ||| Pl.mask a c)]
      · exact Nat.or_lt_two_pow (n := 64) hT hm
      · intro g hg
        rw [List.mem_append] at hg
        rcases hg with hg | hg
        · exact hd g hg
        · simp at hg; subst hg; exact hif
      · intro i
        rw [Nat.testBit_or, Pl.mask_bit, Bool.or_eq_true, hb i, decide_eq_true_iff]
        constructor
        · rintro (⟨g, hg, h⟩ | h)
          · exact ⟨g, List.mem_append_left _ hg, h⟩
          · exact ⟨((a : Int), (c : Int)), by simp, by dsimp only; omega⟩
        · rintro ⟨g, hg, h⟩
          rw [List.mem_append] at hg
          rcases hg with hg | hg
          · exact .inl ⟨g, hg, h⟩
          · simp at hg; subst hg; exact .inr (by dsimp only at h; omega)
theorem check_is (fs : List FieldI) : checkGo 0 fs = apGo [] fs := check_apGo fs [] 0 (by decide) (fun g hg => by cases hg) (fun i => by simp)
theorem apGo_isF : ∀ (fs done : List FieldI), apGo done fs = true → ∀ f ∈ fs, isF f.1 f.2 = true
  | [], _, _, f, hf => by cases hf
  | g :: r, done, h, f, hf => by
    unfold apGo at h
    rw [Bool.and_eq_true, Bool.and_eq_true] at h
    rcases List.mem_cons.1 hf with rfl | hf
    · exact h.1.1
    · exact apGo_isF r _ h.2 f hf

def packGo (x : Nat) : List (FieldI × Nat) → Option Nat
  | [] => some x
  | (f, v) :: r => if v < 2 ^ f.2.toNat then packGo (Pl.set x f.1.toNat f.2.toNat v) r else none
def packV (fs : List FieldI) (vs : List Nat) : Value :=
  if apGo [] fs then (if vs.length = fs.length then (match packGo 0 (fs.zip vs) with | some p => .tuple #[.int .u64 (p : Int), .int .i64 0] | none => .tuple #[.int .u64 0, .int .i64 111]) else .tuple #[.int .u64 0, .int .i64 2]) else .tuple #[.int .u64 0, .int .i64 110]

theorem zip_drop (fs : List FieldI) (vs : List Nat) (k : Nat) (f : FieldI) (v : Nat) (hf : fs[k]? = some f) (hv : vs[k]? = some v) : (fs.zip vs).drop k = (f, v) :: (fs.zip vs).drop (k + 1) :=
  drop_at _ _ _ (by rw [List.getElem?_zip_eq_some]; exact ⟨hf, hv⟩)
theorem setV_yes (x a c v : Nat) (h1 : 1 ≤ c) (h2 : a + c ≤ 64) (hv : v < 2 ^ c) : setV x a c v = .tuple #[.int .u64 ((Pl.set x a c v : Nat) : Int), .int .i64 0] := by
  unfold setV isF
  rw [decide_eq_true (by omega), if_pos rfl]
  exact if_pos hv
theorem setV_big (x a c v : Nat) (h1 : 1 ≤ c) (h2 : a + c ≤ 64) (hv : ¬ v < 2 ^ c) : setV x a c v = .tuple #[.int .u64 0, .int .i64 111] := by
  unfold setV isF
  rw [decide_eq_true (by omega), if_pos rfl]
  exact if_neg hv
theorem setV_none (x : Nat) (a c : Int) (v : Nat) (h : isF a c = false) : setV x a c v = .tuple #[.int .u64 0, .int .i64 110] := by
  unfold setV; rw [h]; rfl

set_option maxHeartbeats 1000000 in
theorem Pack_any (fs : List FieldI) (vs : List Nat) (a : Option Addr) (cap : Nat) (a' : Option Addr) (cap' : Nat) (w : World) (hl : Leads w a fs.length cap (fcells fs)) (hf : fok fs) (hn : fs.length ≤ 1000) (hl' : Leads w a' vs.length cap' (wcells vs)) (hv : wok vs) :
    Calls Tryd.prog 46 #[.slice a fs.length cap, .slice a' vs.length cap'] w (Ret (packV fs vs) w) := by
  obtain ⟨n, en⟩ : ∃ n, fs.length = n := ⟨_, rfl⟩
  obtain ⟨m, em⟩ : ∃ m, vs.length = m := ⟨_, rfl⟩
  have hC := fun y : World => fun h => check_any fs a cap y h hf hn
  rw [check_is] at hC
  rw [en] at hl hn ⊢
  rw [en] at hC
  rw [em] at hl' ⊢
  have hl2 := hl.len
  obtain ⟨hn1, hn2⟩ := hl2
  have hm1 := hl'.len.1
  have H := hid hl
  have H' := hid hl'
  have HF := hid hf
  have HV := hid hv
  have En := hid en
  have Em := hid em
  cases hap : apGo [] fs with
  | false =>
    have e : packV fs vs = .tuple #[.int .u64 0, .int .i64 110] := by unfold packV; rw [hap]; rfl
    rw [e]
    rw [hap] at hC
    have HC := hid hC
    clear e en em hl hl' hC hf hv hap
    go_enter Tryd.func46, Tryd.ntmps46
    go_wp2_with fail
    refine (HC.out _ H.out).mono ?_
    rintro e w1 ⟨rfl, hb1⟩
    rw [show errOf false 110 = 110 from rfl]
    go_wp2
    go_ret2
    exact ⟨rfl, hb1⟩
  | true =>
    have hisf := apGo_isF fs [] hap
    have HISF := hid hisf
    rw [hap] at hC
    have HC := hid hC
    by_cases hmn : m = n
    · subst hmn
      have e : packV fs vs = match packGo 0 (fs.zip vs) with | some p => .tuple #[.int .u64 (p : Int), .int .i64 0] | none => .tuple #[.int .u64 0, .int .i64 111] := by unfold packV; rw [hap, en, em, if_pos rfl, if_pos rfl]
      have HE := hid e
      clear e en em hl hl' hC hf hv hap hisf
      go_enter Tryd.func46, Tryd.ntmps46
      go_wp2_with fail
      refine (HC.out _ H.out).mono ?_
      rintro e w1 ⟨rfl, hb1⟩
      rw [show errOf true 110 = 0 from rfl]
      go_wp2
      go_loopg [7, 24] m (fun g o i wr => ∃ k x : Nat, g + k = m ∧ i = .int .i64 (k : Nat) ∧ o = .int .u64 (x : Nat) ∧ x < 18446744073709551616 ∧ Hid (packGo 0 (fs.zip vs) = packGo x ((fs.zip vs).drop k)) ∧ Below w.heap.size w wr)
      case atStart => exact ⟨0, 0, rfl, rfl, rfl, by decide, rfl, hb1⟩
      case round =>
        obtain ⟨k, x, hk, rfl, rfl, hx, hpk, hb⟩ := hrel
        have HK := hid hk
        clear hk
        by_cases hlt : k < m
        · obtain ⟨_, _, ⟨h, _⟩ | ⟨b, off, rfl, h3, h4⟩⟩ := H.out
          · omega
          obtain ⟨_, _, ⟨h, _⟩ | ⟨b', off', rfl, h3', h4'⟩⟩ := H'.out
          · omega
          obtain ⟨⟨fa, fc⟩, hfk⟩ : ∃ f, fs[k]? = some f := ⟨_, List.getElem?_eq_getElem (by rw [En.out]; exact hlt)⟩
          obtain ⟨v, hvk⟩ : ∃ v, vs[k]? = some v := ⟨_, List.getElem?_eq_getElem (by rw [Em.out]; exact hlt)⟩
          have hif := HISF.out _ (List.mem_of_getElem? hfk)
          have hfb := HF.out _ (List.mem_of_getElem? hfk)
          have hvb := HV.out _ (List.mem_of_getElem? hvk)
          obtain ⟨p, c, rfl, rfl, hp1, hp2⟩ := isF_nat hif
          have hz := zip_drop fs vs k _ _ hfk hvk
          rw [hz] at hpk
          have hc0 : wr.cell? ⟨b, off + k * 2, none⟩ = some (.int .i64 (p : Nat)) := (hb.cell (by exact h3)).trans (h4 (k * 2) _ (flat_at _ 2 (fun _ => rfl) fs k 0 _ hfk (by omega)))
          have hc1 : wr.cell? ⟨b, off + k * 2 + 1, none⟩ = some (.int .i64 (c : Nat)) := (hb.cell (by exact h3)).trans (h4 (k * 2 + 1) _ (flat_at _ 2 (fun _ => rfl) fs k 1 _ hfk (by omega)))
          obtain ⟨wb, hwb, hbb, hsb, hcb⟩ := boxed wr #[Value.int IntKind.i64 (p : Nat), Value.int IntKind.i64 (c : Nat)] 65
          have hy := step hb hbb
          have hd0 := fun y : Ext wb => hcb y.v 0 _ y.b rfl
          have hd1 := fun y : Ext wb => hcb y.v 1 _ y.b rfl
          have hd2 : ∀ y : Ext wb, y.v.cell? ⟨b', off' + k, none⟩ = some (.int .u64 (v : Nat)) := fun y => ((step hy y.b).cell (by exact h3')).trans (h4' k _ (by unfold wcells; rw [List.getElem?_map, hvk]; rfl))
          have hfo : fok [((p : Int), (c : Int))] := by
            intro f hf
            simp at hf
            subst hf
            exact hfb
          have HFO := hid hfo
          have H4 := hid h4
          have H4' := hid h4'
          clear hcb hfk hvk h4 h4' hif hsb hz hfb hfo
          go_upto_region 10 with (fail)
          by_cases hvf : v < 2 ^ c
          · have hsv := setV_yes x p c v hp1 hp2 hvf
            have hnx : Pl.set x p c v < 18446744073709551616 := Pl.set_lt x p c v hp2 hx hvf
            have hpk2 : packGo 0 (fs.zip vs) = packGo (Pl.set x p c v) ((fs.zip vs).drop (k + 1)) := by
              rw [hpk.out, packGo]; exact if_pos hvf
            have HPK := hid hpk2
            have HSV := hid hsv
            clear hsv hpk hpk2 hvf
            refine wp_region_ext (by kernel_rfl) (by kernel_rfl) ?_
            repeat (go_big_quiet_step ((go_at_call 51; exact ext_of (HSV.out ▸ Set_any x v (p : Nat) (c : Nat) _ hx HFO.out))))
            refine wpQuiet_nil ?_
            rintro _ ⟨⟨w2, hb2⟩, rfl⟩
            go_wp2
            go_roundg (gk - 1)
            case measure => have := HK.out; omega
            case rel => exact ⟨k + 1, _, by have := HK.out; omega, by go_num, rfl, hnx, HPK, step hy hb2⟩
          · have hsv := setV_big x p c v hp1 hp2 hvf
            have hpk2 : packGo 0 (fs.zip vs) = none := by
              rw [hpk.out, packGo]; exact if_neg hvf
            have hres : packV fs vs = .tuple #[.int .u64 0, .int .i64 111] := by rw [HE.out, hpk2]
            have HRES := hid hres
            have HSV := hid hsv
            clear hsv hpk hpk2 hvf hres
            refine wp_region_ext (by kernel_rfl) (by kernel_rfl) ?_
            repeat (go_big_quiet_step ((go_at_call 51; exact ext_of (HSV.out ▸ Set_any x v (p : Nat) (c : Nat) _ hx HFO.out))))
            refine wpQuiet_nil ?_
            rintro _ ⟨⟨w2, hb2⟩, rfl⟩
            go_wp2
            go_ret2
            exact ⟨by rw [HRES.out]; rfl, step hy hb2⟩
        · obtain rfl : k = m := by have := HK.out; omega
          have hlen : (fs.zip vs).length = k := by rw [List.length_zip, En.out, Em.out]; omega
          have hres : packV fs vs = .tuple #[.int .u64 (x : Int), .int .i64 0] := by rw [HE.out, hpk.out, List.drop_of_length_le (by omega)]; rfl
          have HRES := hid hres
          clear hres hpk hlen
          go_wp2
          go_ret2
          exact ⟨by rw [HRES.out]; rfl, hb⟩
    · have e : packV fs vs = .tuple #[.int .u64 0, .int .i64 2] := by unfold packV; rw [hap, en, em, if_pos rfl, if_neg hmn]
      rw [e]
      have hne : (((m : Nat) : Int) != (n : Nat)) = true := by simp; omega
      clear e en em hl hl' hC hf hv hap hisf
      go_enter Tryd.func46, Tryd.ntmps46
      go_wp2_with fail
      refine (HC.out _ H.out).mono ?_
      rintro e w1 ⟨rfl, hb1⟩
      rw [show errOf true 110 = 0 from rfl]
      go_wp2
      go_ret2
      exact ⟨rfl, hb1⟩
end Go.Proofs.YtpehnahmdfoobaaDoor
