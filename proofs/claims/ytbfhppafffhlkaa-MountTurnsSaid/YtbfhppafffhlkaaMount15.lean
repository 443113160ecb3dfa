/- Mounts: the law's wakes. -/
import Derived.Test.YtbfhppafffhlkaaMount14
import Derived.Test.YtbfhppafffhlkaaPathEq
namespace Go.Proofs.Ytbfhppafffhlkaa
open Go.RowKit
open Go.Proofs
set_option linter.unusedVariables false

def wkM : List (Nat × Nat) := [(47, 1), (24879, 2), (1647272239, 3)]
theorem kw1 : ofV [47] = .tuple #[.int .u64 ((47 : Nat) : Int), .int .i64 0] := by kernel_rfl
theorem kw2 : ofV [47, 97] = .tuple #[.int .u64 ((24879 : Nat) : Int), .int .i64 0] := by kernel_rfl
theorem kw3 : ofV [47, 97, 47, 98] = .tuple #[.int .u64 ((1647272239 : Nat) : Int), .int .i64 0] := by kernel_rfl
theorem kw4 : ofV [47, 97, 47, 98, 47, 99] = .tuple #[.int .u64 ((109055161884975 : Nat) : Int), .int .i64 0] := by kernel_rfl
theorem kw5 : ofV [47, 120] = .tuple #[.int .u64 ((30767 : Nat) : Int), .int .i64 0] := by kernel_rfl
theorem kwA : accM [47, 24879, 1647272239] 3 = wkM := by kernel_rfl
theorem kwE0 : addE (accM [47, 24879, 1647272239] 0) 1 47 = 0 := by kernel_rfl
theorem kwE1 : addE (accM [47, 24879, 1647272239] 1) 2 24879 = 0 := by kernel_rfl
theorem kwE2 : addE (accM [47, 24879, 1647272239] 2) 3 1647272239 = 0 := by kernel_rfl
theorem kwR1 : resMV wkM 4 109055161884975 = .tuple #[.int .u64 3, .int .i64 0] := by kernel_rfl
theorem kwR2 : resMV wkM 4 30767 = .tuple #[.int .u64 1, .int .i64 0] := by kernel_rfl
theorem kwO : ofMV wkM 4 30767 = .tuple #[.int .u64 0, .int .i64 4] := by kernel_rfl
theorem kwD : dropE wkM 4 24879 = 341 := by kernel_rfl
theorem kwU : underN wkM 4 47 = [2, 3] := by kernel_rfl
theorem kwL : wkM.length = 3 := rfl
theorem kwok : mok wkM := by
  intro p hp
  simp [wkM] at hp
  rcases hp with rfl | rfl | rfl <;> exact ⟨by decide, by decide⟩

theorem Leads.wcut {w : World} {a : Option Addr} {n cap m : Nat} {ns : List Nat} (h : Leads w a n cap (wcells ns)) (hl : ns.length = n) (hm : m ≤ n) : Leads w a m cap (wcells (ns.take m)) := by
  obtain ⟨h1, h2, ⟨h, h'⟩ | ⟨b, off, rfl, h3, h4⟩⟩ := h
  · exact ⟨by omega, by omega, .inl ⟨by omega, by rw [show ns = [] from List.eq_nil_of_length_eq_zero (by omega)]; simp [wcells]⟩⟩
  · refine ⟨by omega, by omega, .inr ⟨b, off, rfl, h3, fun i v hv => h4 i v ?_⟩⟩
    have e : wcells ns = wcells (ns.take m) ++ wcells (ns.drop m) := by
      unfold wcells
      rw [← List.map_append, List.take_append_drop]
    obtain ⟨hi, _⟩ := List.getElem?_eq_some_iff.1 hv
    rw [e, List.getElem?_append_left hi]
    exact hv
theorem wp_region_from {P : Program} {id : Nat} {Q : Exit → Act → World → Prop} {a : Act} {w w0 : World} {l : List Oper} (hw : Below w0.heap.size w0 w) (hm : P.follows .mixedOrders = true) (hB : Region.lexB .any l.toArray = true)
    (h : wpQuiet P l.toArray (fun w' => ∃ x : Ext w0, w' = x.v) (fun a' => ∀ w', (∃ x : Ext w0, w' = x.v) → Q .normal a' w') l a) : (Code.region id l.toArray true).wp P Q a w :=
  wp_region_quiet (C := fun w' => ∃ x : Ext w0, w' = x.v) hm hB ⟨⟨_, hw.drew⟩, rfl⟩ (by simpa using h)
theorem drop_wk (W : World) (am : Option Addr) (cm : Nat) (h : Leads W am 3 cm (mcells wkM)) : Calls Try.prog 11 #[.agg #[.slice am 3 cm, .int .u64 ((4 : Nat) : Int)], .int .u64 ((24879 : Nat) : Int)] W (Ret (.tuple #[.agg #[.slice none 0 0, .int .u64 0], .int .i64 341]) W) := by
  refine (mDrop_any wkM am 3 cm 4 24879 W kwL kwok (by decide) (by decide) (by decide) h).mono ?_
  rintro e w' ⟨v, h1, hb⟩
  rw [kwD, if_neg (by decide)] at h1
  exact ⟨h1, hb⟩
theorem leads_own {w : World} {base : Nat} {e : TypeId} {size n cap : Nat} {a : Option Addr} {xs : List Value} (h : w.ownsRow base e size (.slice a n cap) n xs) : Leads w a n cap xs := by
  obtain ⟨a', c', e, hl⟩ := Leads.of_own h
  simp only [Value.slice.injEq, true_and] at e
  obtain ⟨rfl, rfl⟩ := e
  exact hl
/-- What all three adds leave. -/
structure WkA (w : World) (D : Nat) (am ai : Option Addr) (cm ci : Nat) (W : World) : Prop where
  blk : W.heap[D]? = some (.cells #[.slice am 3 cm, .int .u64 4] 25 (0, 0))
  ms : Leads W am 3 cm (mcells wkM)
  ids : Leads W ai 3 ci (wcells [1, 2, 3])
  below : Below w.heap.size w W

theorem all_wk (pa : Option Addr) (pcap : Nat) (W : World) (h : Leads W pa 3 pcap (wcells [47, 24879, 1647272239])) :
    Calls Try.prog 25 #[.agg #[.slice none 0 0, .int .u64 1], .slice pa 3 pcap] W (fun e w' => ∃ am cm ai ci, e = .returned (.tuple #[.agg #[.slice am 3 cm, .int .u64 4], .slice ai 3 ci, .int .i64 0]) ∧ w'.ownsRow W.heap.size 51 2 (.slice am 3 cm) 3 (mcells wkM) ∧ w'.ownsRow W.heap.size 23 1 (.slice ai 3 ci) 3 (wcells [1, 2, 3]) ∧ Below W.heap.size W w') := by
  refine (mAll_any [47, 24879, 1647272239] pa 3 pcap W rfl (by decide) (by simp) h ?_).mono ?_
  · intro k x hx
    match k, hx with
    | 0, hx => cases hx; exact kwE0
    | 1, hx => cases hx; exact kwE1
    | 2, hx => cases hx; exact kwE2
    | k + 3, hx => simp at hx
  · rintro e w' ⟨v, u, rfl, h1, h2, h3⟩
    rw [kwA] at h1
    obtain ⟨am, cm, rfl, -⟩ := Leads.of_own h1
    obtain ⟨ai, ci, rfl, -⟩ := Leads.of_own h2
    exact ⟨am, cm, ai, ci, rfl, h1, h2, h3⟩

set_option maxRecDepth 100000 in
set_option maxHeartbeats 2000000 in
theorem wakes_any (w : World) : Calls Try.prog 7 #[] w (Ret (.bool true) w) := by
  obtain ⟨w1, hw1, hb1, hs1, hl1⟩ := made w #[.string ⟨#[47]⟩, .string ⟨#[47, 97]⟩, .string ⟨#[47, 97, 47, 98]⟩, .string ⟨#[47, 97, 47, 98, 47, 99]⟩, .string ⟨#[47, 120]⟩] 9 5 (tcells [⟨#[47]⟩, ⟨#[47, 97]⟩, ⟨#[47, 97, 47, 98]⟩, ⟨#[47, 97, 47, 98, 47, 99]⟩, ⟨#[47, 120]⟩]) (by decide) (fun i v h => by simpa [tcells] using h)
  have hW := words_any [⟨#[47]⟩, ⟨#[47, 97]⟩, ⟨#[47, 97, 47, 98]⟩, ⟨#[47, 97, 47, 98, 47, 99]⟩, ⟨#[47, 120]⟩] [47, 24879, 1647272239, 109055161884975, 30767] _ 5 5 w1 rfl rfl (by decide) (by
    intro k s N hs hN
    match k, hs, hN with
    | 0, hs, hN => cases hs; cases hN; exact ⟨by decide, kw1⟩
    | 1, hs, hN => cases hs; cases hN; exact ⟨by decide, kw2⟩
    | 2, hs, hN => cases hs; cases hN; exact ⟨by decide, kw3⟩
    | 3, hs, hN => cases hs; cases hN; exact ⟨by decide, kw4⟩
    | 4, hs, hN => cases hs; cases hN; exact ⟨by decide, kw5⟩
    | k + 5, hs, hN => simp at hs) hl1
  have HW := hid hW
  have HRA := hid fun (W : World) (am : Option Addr) (cm : Nat) (h : Leads W am 3 cm (mcells wkM)) => kwR1 ▸ mResolve_any wkM am 3 cm 4 109055161884975 W kwL kwok (by decide) (by decide) (by decide) h
  have HRB := hid fun (W : World) (am : Option Addr) (cm : Nat) (h : Leads W am 3 cm (mcells wkM)) => kwR2 ▸ mResolve_any wkM am 3 cm 4 30767 W kwL kwok (by decide) (by decide) (by decide) h
  have HOF := hid fun (W : World) (am : Option Addr) (cm : Nat) (h : Leads W am 3 cm (mcells wkM)) => kwO ▸ mOf_any wkM am 3 cm 4 30767 W kwL kwok (by decide) (by decide) (by decide) h
  have HDR := hid drop_wk
  have HUN := hid fun (W : World) (am : Option Addr) (cm : Nat) (h : Leads W am 3 cm (mcells wkM)) => kwU ▸ mUnder_any wkM am 3 cm 4 47 W kwL kwok (by decide) (by decide) (by decide) h
  clear hW hl1 hs1
  go_enter Try.func7, Try.ntmps7
  go_wp2_with fail
  refine HW.out.mono ?_
  rintro e w2 ⟨v, rfl, ho2, hb2⟩
  have ho2 : w2.ownsRow w1.heap.size 23 1 v 5 (wcells [47, 24879, 1647272239, 109055161884975, 30767]) := ho2
  have ho2 : w2.ownsRow w1.heap.size 23 1 v 5 (wcells [47, 24879, 1647272239, 109055161884975, 30767]) := ho2
  have ho2 : w2.ownsRow w1.heap.size 23 1 v 5 (wcells [47, 24879, 1647272239, 109055161884975, 30767]) := ho2
  have ho2 : w2.ownsRow w1.heap.size 23 1 v 5 (wcells [47, 24879, 1647272239, 109055161884975, 30767]) := ho2
  have ho2 : w2.ownsRow w1.heap.size 23 1 v 5 (wcells [47, 24879, 1647272239, 109055161884975, 30767]) := ho2
  obtain ⟨va, vc, rfl, hlv⟩ := Leads.of_own ho2
  have h5 := hlv.1
  have hcut := hlv.wcut (m := 3) rfl (by decide)
  rw [show ([47, 24879, 1647272239, 109055161884975, 30767] : List Nat).take 3 = [47, 24879, 1647272239] from rfl] at hcut
  obtain ⟨b, off, rfl, hc⟩ : ∃ b off, va = some ⟨b, off, none⟩ ∧ ∀ (i N : Nat) (W : World), ([47, 24879, 1647272239, 109055161884975, 30767] : List Nat)[i]? = some N → Below w2.heap.size w2 W → W.cell? ⟨b, off + i, none⟩ = some (.int .u64 ((N : Nat) : Int)) := by
    obtain ⟨b, off, rfl, -⟩ := hlv.at (k := 0) (by decide) rfl
    refine ⟨b, off, rfl, fun i N W hi hbW => ?_⟩
    obtain ⟨hlt, _⟩ := List.getElem?_eq_some_iff.1 hi
    obtain ⟨b', off', e, h⟩ := hlv.at (k := i) hlt (wcell_at hi)
    cases e
    exact h W hbW
  have HC := hid hc
  have HCUT := hid hcut
  have h3c : (3 : Int) ≤ (vc : Int) := by omega
  have hvm : vc ≤ 9223372036854775807 := hlv.len.2
  have hb02 := step hb1 hb2
  clear ho2 hlv hcut hc hw1
  go_upto_region 4 with (fail)
  go_cut [3, 4, 5] (fun t3 t4 t5 wr => ∃ D am ai cm ci, t3 = .pointer (some ⟨D, 0, none⟩) ∧ t4 = .slice ai 3 ci ∧ t5 = .int .i64 0 ∧ WkA w2 D am ai cm ci wr)
  case first =>
    refine wp_region_mix2 (fun w' => ∃ z : Ext w2, w' = z.v) 12 (.q 1 (.q 2 (.h2 0 (.h2 3 (.q 4 (.q 5 (.q 6 (.q 7 (.h 8 (.h 9 (.q 10 (.q 11 (.done))))))))) 8 (.h 3 (.q 4 (.q 5 (.q 6 (.q 7 (.h 9 (.q 10 (.q 11 (.done)))))))))) 8 (.h 0 (.h 3 (.q 4 (.q 5 (.q 6 (.q 7 (.h 9 (.q 10 (.q 11 (.done))))))))))))) (by kernel_rfl) (by kernel_rfl) ⟨⟨_, (Below.refl _ _).drew⟩, rfl⟩ ?_
    repeat (refine wpMix2_q rfl rfl ?_; go_big_quiet_step (fail); refine wpQuiet_nil ?_)
    refine wpMix2_h2 ?_ ?_
    · refine wpMix2_h rfl fun R' hR' hO => ?_
      go_wp2_with fail
      refine (mNew_any _).mono ?_
      rintro e wn ⟨rfl, hbn⟩
      have hbN : Below w2.heap.size w2 wn := step ((Below.refl w2.heap.size w2).drew) hbn
      go_wp2
      refine hR' _ _ ⟨⟨_, hbN⟩, rfl⟩ ?_
      refine wpMix2_h2 ?_ ?_
      · refine wpMix2_h rfl fun R' hR' hO => ?_
        go_wp2_with fail
        refine (all_wk _ _ _ (HCUT.out.grow (hbN))).mono ?_
        rintro e w4 ⟨am, cm, ai, ci, rfl, hr4, hi4, hb4⟩
        have hb24 := step (hbN) hb4
        have HR4 := hid hr4
        have HI4 := hid hi4
        go_wp2
        refine hR' _ _ ⟨⟨_, hb24⟩, rfl⟩ ?_
        repeat (refine wpMix2_q rfl rfl ?_; go_big_quiet_step (fail); refine wpQuiet_nil ?_)
        refine wpMix2_h rfl fun R' hR' hO => ?_
        obtain ⟨wa, hwa, hba, hsa, hla⟩ := laid w4 #[.slice none 0 0, .int .u64 0] 25
        obtain ⟨D, hD⟩ : ∃ D, (w4).heap.size = D := ⟨_, rfl⟩
        have hD2 : w2.heap.size ≤ D := by rw [← hD]; exact (hb24).size
        rw [hD] at hla hsa
        have hbA := step (hb24) hba
        have HLA := hid hla
        clear hla
        go_wp2
        refine hR' _ _ ⟨⟨_, hbA⟩, rfl⟩ ?_
        have hl0 := HLA.out
        have hf0 := free_laid (i := 0) hl0
        have hf1 := free_laid (i := 1) hl0
        have hd0 := cell_laid (i := 0) hl0 rfl
        have hd1 := cell_laid (i := 1) hl0 rfl
        have HBLK := hid (set_laid (i := 1) (set_laid (i := 0) hl0 (.slice am 3 cm)) (.int .u64 4))
        have HBW := hid ((hbA).setCell (p := ⟨D, 0, none⟩) (by show w2.heap.size ≤ D; exact hD2) (.slice am 3 cm) |>.setCell (p := ⟨D, 1, none⟩) (by show w2.heap.size ≤ D; exact hD2) (.int .u64 4))
        have HM := hid (leads_own (own_grow HR4.out (hba.setCell (p := ⟨D, 0, none⟩) (by show w4.heap.size ≤ D; omega) (.slice am 3 cm) |>.setCell (p := ⟨D, 1, none⟩) (by show w4.heap.size ≤ D; omega) (.int .u64 4))))
        have HI := hid (leads_own (own_grow HI4.out (hba.setCell (p := ⟨D, 0, none⟩) (by show w4.heap.size ≤ D; omega) (.slice am 3 cm) |>.setCell (p := ⟨D, 1, none⟩) (by show w4.heap.size ≤ D; omega) (.int .u64 4))))
        clear hr4 hi4
        clear hl0
        refine wpMix2_h rfl fun R' hR' hO => ?_
        go_wp2
        refine hR' _ _ ⟨⟨_, HBW.out⟩, rfl⟩ ?_
        repeat (refine wpMix2_q rfl rfl ?_; go_big_quiet_step (fail); refine wpQuiet_nil ?_)
        refine wpMix2_done ?_
        simp only [List.drop_succ_cons, List.drop_nil]
        go_wp2
        go_meet
        exact ⟨D, am, ai, cm, ci, rfl, rfl, rfl, HBLK.out, HM.out, HI.out, HBW.out⟩
      · refine wpMix2_h rfl fun R' hR' hO => ?_
        obtain ⟨wa, hwa, hba, hsa, hla⟩ := laid wn #[.slice none 0 0, .int .u64 0] 25
        obtain ⟨D, hD⟩ : ∃ D, (wn).heap.size = D := ⟨_, rfl⟩
        have hD2 : w2.heap.size ≤ D := by rw [← hD]; exact (hbN).size
        rw [hD] at hla hsa
        have hbA := step (hbN) hba
        have HLA := hid hla
        clear hla
        go_wp2
        refine hR' _ _ ⟨⟨_, hbA⟩, rfl⟩ ?_
        refine wpMix2_h rfl fun R' hR' hO => ?_
        go_wp2_with fail
        refine (all_wk _ _ _ (HCUT.out.grow (hbA))).mono ?_
        rintro e w4 ⟨am, cm, ai, ci, rfl, hr4, hi4, hb4⟩
        have hb24 := step (hbA) hb4
        have HR4 := hid hr4
        have HI4 := hid hi4
        go_wp2
        refine hR' _ _ ⟨⟨_, hb24⟩, rfl⟩ ?_
        repeat (refine wpMix2_q rfl rfl ?_; go_big_quiet_step (fail); refine wpQuiet_nil ?_)
        have hl0 := keep_laid HLA.out hb4
        have hf0 := free_laid (i := 0) hl0
        have hf1 := free_laid (i := 1) hl0
        have hd0 := cell_laid (i := 0) hl0 rfl
        have hd1 := cell_laid (i := 1) hl0 rfl
        have HBLK := hid (set_laid (i := 1) (set_laid (i := 0) hl0 (.slice am 3 cm)) (.int .u64 4))
        have HBW := hid ((hb24).setCell (p := ⟨D, 0, none⟩) (by show w2.heap.size ≤ D; exact hD2) (.slice am 3 cm) |>.setCell (p := ⟨D, 1, none⟩) (by show w2.heap.size ≤ D; exact hD2) (.int .u64 4))
        have hDB : D < _ := lt_laid HLA.out
        have HM := hid (leads_own (ownsRow_setCell_below (a := ⟨D, 1, none⟩) (ownsRow_setCell_below (a := ⟨D, 0, none⟩) HR4.out hDB (.slice am 3 cm)) hDB (.int .u64 4)))
        have HI := hid (leads_own (ownsRow_setCell_below (a := ⟨D, 1, none⟩) (ownsRow_setCell_below (a := ⟨D, 0, none⟩) HI4.out hDB (.slice am 3 cm)) hDB (.int .u64 4)))
        clear hr4 hi4
        clear hl0
        refine wpMix2_h rfl fun R' hR' hO => ?_
        go_wp2
        refine hR' _ _ ⟨⟨_, HBW.out⟩, rfl⟩ ?_
        repeat (refine wpMix2_q rfl rfl ?_; go_big_quiet_step (fail); refine wpQuiet_nil ?_)
        refine wpMix2_done ?_
        simp only [List.drop_succ_cons, List.drop_nil]
        go_wp2
        go_meet
        exact ⟨D, am, ai, cm, ci, rfl, rfl, rfl, HBLK.out, HM.out, HI.out, HBW.out⟩
    · refine wpMix2_h rfl fun R' hR' hO => ?_
      obtain ⟨wa, hwa, hba, hsa, hla⟩ := laid w2.drew #[.slice none 0 0, .int .u64 0] 25
      obtain ⟨D, hD⟩ : ∃ D, (w2.drew).heap.size = D := ⟨_, rfl⟩
      have hD2 : w2.heap.size ≤ D := by rw [← hD]; exact ((Below.refl w2.heap.size w2).drew).size
      rw [hD] at hla hsa
      have hbA := step ((Below.refl w2.heap.size w2).drew) hba
      have HLA := hid hla
      clear hla
      go_wp2
      refine hR' _ _ ⟨⟨_, hbA⟩, rfl⟩ ?_
      refine wpMix2_h rfl fun R' hR' hO => ?_
      go_wp2_with fail
      refine (mNew_any _).mono ?_
      rintro e wn ⟨rfl, hbn⟩
      have hbN : Below w2.heap.size w2 wn := step (hbA) hbn
      go_wp2
      refine hR' _ _ ⟨⟨_, hbN⟩, rfl⟩ ?_
      refine wpMix2_h rfl fun R' hR' hO => ?_
      go_wp2_with fail
      refine (all_wk _ _ _ (HCUT.out.grow (hbN))).mono ?_
      rintro e w4 ⟨am, cm, ai, ci, rfl, hr4, hi4, hb4⟩
      have hb24 := step (hbN) hb4
      have HR4 := hid hr4
      have HI4 := hid hi4
      go_wp2
      refine hR' _ _ ⟨⟨_, hb24⟩, rfl⟩ ?_
      repeat (refine wpMix2_q rfl rfl ?_; go_big_quiet_step (fail); refine wpQuiet_nil ?_)
      have hl0 := keep_laid (keep_laid HLA.out hbn) hb4
      have hf0 := free_laid (i := 0) hl0
      have hf1 := free_laid (i := 1) hl0
      have hd0 := cell_laid (i := 0) hl0 rfl
      have hd1 := cell_laid (i := 1) hl0 rfl
      have HBLK := hid (set_laid (i := 1) (set_laid (i := 0) hl0 (.slice am 3 cm)) (.int .u64 4))
      have HBW := hid ((hb24).setCell (p := ⟨D, 0, none⟩) (by show w2.heap.size ≤ D; exact hD2) (.slice am 3 cm) |>.setCell (p := ⟨D, 1, none⟩) (by show w2.heap.size ≤ D; exact hD2) (.int .u64 4))
      have hDB : D < _ := lt_laid (keep_laid HLA.out hbn)
      have HM := hid (leads_own (ownsRow_setCell_below (a := ⟨D, 1, none⟩) (ownsRow_setCell_below (a := ⟨D, 0, none⟩) HR4.out hDB (.slice am 3 cm)) hDB (.int .u64 4)))
      have HI := hid (leads_own (ownsRow_setCell_below (a := ⟨D, 1, none⟩) (ownsRow_setCell_below (a := ⟨D, 0, none⟩) HI4.out hDB (.slice am 3 cm)) hDB (.int .u64 4)))
      clear hr4 hi4
      clear hl0
      refine wpMix2_h rfl fun R' hR' hO => ?_
      go_wp2
      refine hR' _ _ ⟨⟨_, HBW.out⟩, rfl⟩ ?_
      repeat (refine wpMix2_q rfl rfl ?_; go_big_quiet_step (fail); refine wpQuiet_nil ?_)
      refine wpMix2_done ?_
      simp only [List.drop_succ_cons, List.drop_nil]
      go_wp2
      go_meet
      exact ⟨D, am, ai, cm, ci, rfl, rfl, rfl, HBLK.out, HM.out, HI.out, HBW.out⟩
  case rest =>
    obtain ⟨D, am, ai, cm, ci, rfl, rfl, rfl, hA⟩ := hcut
    have HA := hid hA
    have hb2c := hA.below
    have f0 : ∀ z : Ext wc, z.v.cell? ⟨D, 0, none⟩ = some (.slice am 3 cm) := fun z => cell_laid (keep_laid HA.out.blk z.b) rfl
    have f1 : ∀ z : Ext wc, z.v.cell? ⟨D, 1, none⟩ = some (.int .u64 4) := fun z => cell_laid (keep_laid HA.out.blk z.b) rfl
    have f2 : ∀ z : Ext wc, z.v.cell? ⟨b, off + 0, none⟩ = some (.int .u64 ((47 : Nat) : Int)) := fun z => HC.out 0 47 z.v rfl (step HA.out.below z.b)
    have f3 : ∀ z : Ext wc, z.v.cell? ⟨b, off + 1, none⟩ = some (.int .u64 ((24879 : Nat) : Int)) := fun z => HC.out 1 24879 z.v rfl (step HA.out.below z.b)
    have f4 : ∀ z : Ext wc, z.v.cell? ⟨b, off + 3, none⟩ = some (.int .u64 ((109055161884975 : Nat) : Int)) := fun z => HC.out 3 109055161884975 z.v rfl (step HA.out.below z.b)
    have f5 : ∀ z : Ext wc, z.v.cell? ⟨b, off + 4, none⟩ = some (.int .u64 ((30767 : Nat) : Int)) := fun z => HC.out 4 30767 z.v rfl (step HA.out.below z.b)
    have hb0 : Below wc.heap.size wc wc := Below.refl _ _
    clear hA h3c
    go_wp2
    refine wp_region_from hb0 (by kernel_rfl) (by kernel_rfl) ?_
    repeat (go_big_quiet_step ((go_at_call 17; exact ext_of (HRA.out _ _ _ (HA.out.ms.grow (Ext.b _))))))
    refine wpQuiet_nil ?_
    rintro _ ⟨⟨w5, hb5⟩, rfl⟩
    go_wp2
    refine wp_region_from hb5 (by kernel_rfl) (by kernel_rfl) ?_
    repeat (go_big_quiet_step ((go_at_call 17; exact ext_of (HRB.out _ _ _ (HA.out.ms.grow (Ext.b _))))))
    refine wpQuiet_nil ?_
    rintro _ ⟨⟨w6, hb6⟩, rfl⟩
    go_wp2
    refine wp_region_from hb6 (by kernel_rfl) (by kernel_rfl) ?_
    repeat (go_big_quiet_step ((go_at_call 20; exact ext_of (HOF.out _ _ _ (HA.out.ms.grow (Ext.b _))))))
    refine wpQuiet_nil ?_
    rintro w7 ⟨⟨_, hb7⟩, rfl⟩
    go_upto_region 8 with (fail)
    go_cut [13] (fun t13 wr => t13 = .int .i64 341 ∧ Below w7.heap.size w7 wr)
    case first =>
      refine wp_region_mix2 (fun w' => ∃ z : Ext wc, w' = z.v) 11 (.q 0 (.q 1 (.q 2 (.q 3 (.h2 4 (.q 5 (.q 6 (.q 7 (.h 8 (.h 9 (.q 10 (.done))))))) 8 (.h 4 (.q 5 (.q 6 (.q 7 (.h 9 (.q 10 (.done)))))))))))) (by kernel_rfl) (by kernel_rfl) ⟨⟨_, hb7.drew⟩, rfl⟩ ?_
      repeat (refine wpMix2_q rfl rfl ?_; go_big_quiet_step (fail); refine wpQuiet_nil ?_)
      refine wpMix2_h2 ?_ ?_
      · refine wpMix2_h rfl fun R' hR' hO => ?_
        go_wp2_with fail
        refine (HDR.out _ _ _ (HA.out.ms.grow hb7.drew)).mono ?_
        rintro e w8 ⟨rfl, hb8⟩
        have hb78 : Below w7.heap.size w7 w8 := (Below.refl _ _).drew.trans hb8
        go_wp2
        refine hR' _ _ ⟨⟨_, step hb7 hb78⟩, rfl⟩ ?_
        repeat (refine wpMix2_q rfl rfl ?_; go_big_quiet_step (fail); refine wpQuiet_nil ?_)
        refine wpMix2_h rfl fun R' hR' hO => ?_
        obtain ⟨wa, hwa, hba, hsa, hla⟩ := laid w8 #[.slice none 0 0, .int .u64 0] 25
        obtain ⟨E, hE⟩ : ∃ E, (w8).heap.size = E := ⟨_, rfl⟩
        have hE2 : w7.heap.size ≤ E := by rw [← hE]; exact hb78.size
        rw [hE] at hla hsa
        have hb7a := step hb78 hba
        have hf0 := free_laid (i := 0) hla
        have hf1 := free_laid (i := 1) hla
        have hd0 := cell_laid (i := 0) hla rfl
        have hd1 := cell_laid (i := 1) hla rfl
        have HBW := hid (hb7a.setCell (p := ⟨E, 0, none⟩) (by show w7.heap.size ≤ E; exact hE2) (.slice none 0 0) |>.setCell (p := ⟨E, 1, none⟩) (by show w7.heap.size ≤ E; exact hE2) (.int .u64 0))
        clear hla
        go_wp2
        refine hR' _ _ ⟨⟨_, step hb7 hb7a⟩, rfl⟩ ?_
        refine wpMix2_h rfl fun R' hR' hO => ?_
        go_wp2
        refine hR' _ _ ⟨⟨_, step hb7 HBW.out⟩, rfl⟩ ?_
        repeat (refine wpMix2_q rfl rfl ?_; go_big_quiet_step (fail); refine wpQuiet_nil ?_)
        refine wpMix2_done ?_
        simp only [List.drop_succ_cons, List.drop_nil]
        go_wp2
        go_meet
        exact ⟨rfl, HBW.out⟩
      · refine wpMix2_h rfl fun R' hR' hO => ?_
        obtain ⟨wa, hwa, hba, hsa, hla⟩ := laid w7.drew #[.slice none 0 0, .int .u64 0] 25
        obtain ⟨E, hE⟩ : ∃ E, w7.heap.size = E := ⟨_, rfl⟩
        have hE' : w7.drew.heap.size = E := hE
        have hE2 : w7.heap.size ≤ E := by omega
        rw [hE'] at hla
        have hb7a : Below w7.heap.size w7 wa := (Below.refl _ _).drew.trans hba
        have HLA := hid hla
        clear hla hsa
        go_wp2
        refine hR' _ _ ⟨⟨_, step hb7 hb7a⟩, rfl⟩ ?_
        refine wpMix2_h rfl fun R' hR' hO => ?_
        go_wp2_with fail
        refine (HDR.out _ _ _ (HA.out.ms.grow (step hb7 hb7a))).mono ?_
        rintro e w8 ⟨rfl, hb8⟩
        have hb78 : Below w7.heap.size w7 w8 := step hb7a hb8
        have hl8 := keep_laid HLA.out hb8
        have hf0 := free_laid (i := 0) hl8
        have hf1 := free_laid (i := 1) hl8
        have hd0 := cell_laid (i := 0) hl8 rfl
        have hd1 := cell_laid (i := 1) hl8 rfl
        have HBW := hid (hb78.setCell (p := ⟨E, 0, none⟩) (by show w7.heap.size ≤ E; exact hE2) (.slice none 0 0) |>.setCell (p := ⟨E, 1, none⟩) (by show w7.heap.size ≤ E; exact hE2) (.int .u64 0))
        clear hl8
        go_wp2
        refine hR' _ _ ⟨⟨_, step hb7 hb78⟩, rfl⟩ ?_
        repeat (refine wpMix2_q rfl rfl ?_; go_big_quiet_step (fail); refine wpQuiet_nil ?_)
        refine wpMix2_h rfl fun R' hR' hO => ?_
        go_wp2
        refine hR' _ _ ⟨⟨_, step hb7 HBW.out⟩, rfl⟩ ?_
        repeat (refine wpMix2_q rfl rfl ?_; go_big_quiet_step (fail); refine wpQuiet_nil ?_)
        refine wpMix2_done ?_
        simp only [List.drop_succ_cons, List.drop_nil]
        go_wp2
        go_meet
        exact ⟨rfl, HBW.out⟩
    case rest =>
      obtain ⟨rfl, hb8⟩ := hcut
      have hb78 := step hb7 hb8
      have g0 : ∀ z : Ext wc, z.v.cell? ⟨D, 0, none⟩ = some (.slice am 3 cm) := fun z => f0 ⟨z.v, step hb78 z.b⟩
      have g1 : ∀ z : Ext wc, z.v.cell? ⟨D, 1, none⟩ = some (.int .u64 4) := fun z => f1 ⟨z.v, step hb78 z.b⟩
      have g2 : ∀ z : Ext wc, z.v.cell? ⟨b, off, none⟩ = some (.int .u64 ((47 : Nat) : Int)) := fun z => f2 ⟨z.v, step hb78 z.b⟩
      have HMS := hid (HA.out.ms.grow hb78)
      have HIDS := hid (HA.out.ids.grow hb78)
      have hbw := step (step hb02 hb2c) hb78
      clear f0 f1 f2 f3 f4 f5 hb0 hb5 hb6 hb7 hb8 hb78 hb2c
      go_upto_region 9 with (fail)
      obtain ⟨w9, hw9, hb9, hs9, hl9⟩ := made wc.drew #[.int .u64 1, .int .u64 2, .int .u64 3] 23 3 (wcells [1, 2, 3]) (by decide) (fun i v h => by simpa [wcells] using h)
      have hc9 : Below wc.heap.size wc w9 := (Below.refl _ _).drew.trans hb9
      have L := EqU_any [1, 2, 3] [1, 2, 3] _ _ 3 3 _ 3 w9 rfl rfl (HIDS.out.grow hc9) hl9
      rw [decide_eq_true rfl] at L
      have HQ1 := hid L
      clear L hl9 hs9
      refine wp_region_mix2 (fun w' => ∃ z : Ext wc, w' = z.v) 41 (.q 0 (.q 1 (.q 2 (.q 3 (.q 4 (.q 5 (.q 6 (.q 7 (.q 8 (.q 9 (.q 10 (.q 11 (.q 12 (.q 13 (.q 14 (.q 15 (.q 16 (.q 17 (.q 18 (.q 19 (.h 20 (.h 21 (.q 22 (.q 23 (.q 24 (.q 25 (.q 26 (.q 27 (.q 28 (.q 29 (.q 30 (.q 31 (.q 32 (.q 33 (.q 34 (.q 35 (.h2 36 (.h 37 (.h 38 (.q 39 (.q 40 (.done))))) 37 (.h 36 (.h 38 (.q 39 (.q 40 (.done)))))))))))))))))))))))))))))))))))))))))) (by kernel_rfl) (by kernel_rfl) ⟨⟨_, (Below.refl _ _).drew⟩, rfl⟩ ?_
      repeat (refine wpMix2_q rfl rfl ?_; go_big_quiet_step (fail); refine wpQuiet_nil ?_)
      refine wpMix2_h rfl fun R' hR' hO => ?_
      go_wp2
      refine hR' _ _ ⟨⟨_, hc9⟩, rfl⟩ ?_
      refine wpMix2_h rfl fun R' hR' hO => ?_
      go_wp2_with fail
      refine HQ1.out.mono ?_
      rintro e w10 ⟨rfl, hb10⟩
      have hc10 := step hc9 hb10
      go_wp2
      refine hR' _ _ ⟨⟨_, hc10⟩, rfl⟩ ?_
      repeat (refine wpMix2_q rfl rfl ?_; go_big_quiet_step (fail); refine wpQuiet_nil ?_)
      refine wpMix2_h2 ?_ ?_
      · refine wpMix2_h rfl fun R' hR' hO => ?_
        go_wp2_with fail
        refine (HUN.out _ _ _ (HMS.out.grow hc10)).mono ?_
        rintro e w11 ⟨v, rfl, hov, hb11⟩
        have hov : w11.ownsRow w10.heap.size 23 1 v 2 (wcells [2, 3]) := hov
        obtain ⟨av, cv, rfl, hlv⟩ := Leads.of_own hov
        have hc11 := step hc10 hb11
        obtain ⟨w12, hw12, hb12, hs12, hl12⟩ := made w11 #[.int .u64 2, .int .u64 3] 23 2 (wcells [2, 3]) (by decide) (fun i v h => by simpa [wcells] using h)
        have L := EqU_any [2, 3] [2, 3] _ _ 2 2 _ 2 w12 rfl rfl (hlv.grow hb12) hl12
        rw [decide_eq_true rfl] at L
        have HQ2 := hid L
        clear L hl12 hs12 hov hlv
        go_wp2
        refine hR' _ _ ⟨⟨_, hc11⟩, rfl⟩ ?_
        refine wpMix2_h rfl fun R' hR' hO => ?_
        go_wp2
        refine hR' _ _ ⟨⟨_, step hc11 hb12⟩, rfl⟩ ?_
        refine wpMix2_h rfl fun R' hR' hO => ?_
        go_wp2_with fail
        refine HQ2.out.mono ?_
        rintro e w13 ⟨rfl, hb13⟩
        have hc13 := step (step hc11 hb12) hb13
        go_wp2
        refine hR' _ _ ⟨⟨_, hc13⟩, rfl⟩ ?_
        repeat (refine wpMix2_q rfl rfl ?_; go_big_quiet_step (fail); refine wpQuiet_nil ?_)
        refine wpMix2_done ?_
        simp only [List.drop_succ_cons, List.drop_nil]
        go_wp2
        go_ret
        exact ⟨rfl, step hbw hc13⟩
      · refine wpMix2_h rfl fun R' hR' hO => ?_
        obtain ⟨w11, hw11, hb11, hs11, hl11⟩ := made w10 #[.int .u64 2, .int .u64 3] 23 2 (wcells [2, 3]) (by decide) (fun i v h => by simpa [wcells] using h)
        have HL11 := hid hl11
        have hc11 := step hc10 hb11
        clear hl11 hs11
        go_wp2
        refine hR' _ _ ⟨⟨_, hc11⟩, rfl⟩ ?_
        refine wpMix2_h rfl fun R' hR' hO => ?_
        go_wp2_with fail
        refine (HUN.out _ _ _ (HMS.out.grow hc11)).mono ?_
        rintro e w12 ⟨v, rfl, hov, hb12⟩
        have hov : w12.ownsRow w11.heap.size 23 1 v 2 (wcells [2, 3]) := hov
        obtain ⟨av, cv, rfl, hlv⟩ := Leads.of_own hov
        have hc12 := step hc11 hb12
        have L := EqU_any [2, 3] [2, 3] _ _ 2 2 _ 2 w12 rfl rfl hlv (HL11.out.grow hb12)
        rw [decide_eq_true rfl] at L
        have HQ2 := hid L
        clear L hov hlv
        go_wp2
        refine hR' _ _ ⟨⟨_, hc12⟩, rfl⟩ ?_
        refine wpMix2_h rfl fun R' hR' hO => ?_
        go_wp2_with fail
        refine HQ2.out.mono ?_
        rintro e w13 ⟨rfl, hb13⟩
        have hc13 := step hc12 hb13
        go_wp2
        refine hR' _ _ ⟨⟨_, hc13⟩, rfl⟩ ?_
        repeat (refine wpMix2_q rfl rfl ?_; go_big_quiet_step (fail); refine wpQuiet_nil ?_)
        refine wpMix2_done ?_
        simp only [List.drop_succ_cons, List.drop_nil]
        go_wp2
        go_ret
        exact ⟨rfl, step hbw hc13⟩
end Go.Proofs.Ytbfhppafffhlkaa
