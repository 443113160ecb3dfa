/- The document's lists linked both ways: Nodes. -/
import Derived.Test.YtoihjmdpbbcbjaaDblRef1
namespace Go.Proofs.Ytoihjmdpbbcbjaa
open Go.RowKit
open Go.Proofs
set_option linter.unusedVariables false
attribute [local go_sem] Oper.semAt_some

theorem elemInts : Elem Try.prog 80 3 1 8 := Elem.mk' (z := .int .i64 0) Try.underlying80 (by kernel_rfl) rfl (by decide) (by decide)
/-- What the document's walk over nodes has made. -/
structure RNs (V : World) (X : Nat) (cs : Array Value) (met : List Nat) (pre : List Tw) (v6 v7 : Value) (W : World) : Prop where
  bx : W.heap[X]? = some (.cells cs 25 (0, 0))
  r6 : W.ownsRow V.heap.size 28 3 v6 pre.length (twcells pre)
  r7 : W.ownsRow V.heap.size 3 1 v7 met.length (ncells met)
  below : Below V.heap.size V W
structure RNc (V : World) (X : Nat) (cs : Array Value) where
  w : World
  bx : w.heap[X]? = some (.cells cs 25 (0, 0))
  below : Below V.heap.size V w
section
variable {V W W' : World} {X : Nat} {cs : Array Value} {met : List Nat} {pre : List Tw} {v6 v7 v : Value}
theorem RNs.grow (h : RNs V X cs met pre v6 v7 W) (hb : Below W.heap.size W W') : RNs V X cs met pre v6 v7 W' :=
  ⟨keep_laid h.bx hb, own_grow h.r6 hb, own_grow h.r7 hb, h.below.trans (hb.mono h.below.size)⟩
theorem RNs.cls (h : RNs V X cs met pre v6 v7 W) : ∃ z : RNc V X cs, W = z.w := ⟨⟨W, h.bx, h.below⟩, rfl⟩
theorem own_ne {e e' : TypeId} {size base n : Nat} {xs : List Value} {cur : Array Value} (h : W.ownsRow base e size v n xs) (hX : W.heap[X]? = some (.cells cur e' (0, 0))) (hne : e ≠ e') : v.ownBlock ≠ some X := by
  intro hk
  obtain ⟨c, hc⟩ := own_type h X hk
  exact type_ne hc hX hne rfl
theorem own_own {e e' : TypeId} {size size' base base' n n' : Nat} {xs xs' : List Value} {u : Value} (h : W.ownsRow base e size v n xs) (h' : W.ownsRow base' e' size' u n' xs') (hne : e ≠ e') (hg : W.grownBy W' v.ownBlock) : W'.ownsRow base' e' size' u n' xs' := by
  refine own_keep h' fun k o hk ho => keep_grown ho hg fun hv => ?_
  obtain ⟨c, hc⟩ := own_type h k hv
  obtain ⟨c', hc'⟩ := own_type h' k hk
  exact type_ne hc hc' hne rfl
theorem RNs.app7 {q : Nat} {v7' : Value} (h : RNs V X cs met pre v6 v7 W) (ho : W'.ownsRow V.heap.size 3 1 v7' (met.length + 1) (ncells met ++ [.int .i64 ((q : Nat) : Int)])) (hg : W.grownBy W' v7.ownBlock) : RNs V X cs (met ++ [q]) pre v6 v7' W' := by
  refine ⟨keep_grown h.bx hg (own_ne h.r7 h.bx (by decide)), own_own h.r7 h.r6 (by decide) hg, ?_, h.below.trans (own_below h.r7 hg h.below.size)⟩
  rw [List.length_append, ncells_app]
  exact ho
theorem RNs.app6 {t : Tw} {v6' : Value} (h : RNs V X cs met pre v6 v7 W) (ho : W'.ownsRow V.heap.size 28 3 v6' (pre.length + 1) (twcells pre ++ tw3 t)) (hg : W.grownBy W' v6.ownBlock) : RNs V X cs met (pre ++ [t]) v6' v7 W' := by
  refine ⟨keep_grown h.bx hg (own_ne h.r6 h.bx (by decide)), ?_, own_own h.r6 h.r7 (by decide) hg, h.below.trans (own_below h.r6 hg h.below.size)⟩
  rw [List.length_append, twcells_snoc]
  exact ho
end
def GivesW (M : Mem) (head : Nat) (V : World) (e : Ending) (W : World) : Prop := ∃ v b, e = .returned (.tuple #[v, .bool b]) ∧ Below V.heap.size V W ∧ (nodesN M head = none → b = false) ∧ (∀ xs met, nodesN M head = some (xs, met) → b = true ∧ W.ownsRow V.heap.size 28 3 v xs.length (twcells xs))

set_option maxRecDepth 100000 in
set_option maxHeartbeats 8000000 in
theorem rNodes_any (M : Mem) (wa la : Option Addr) (wc lc head : Nat) (V : World) (h : MemL V wa wc la lc M) (hok : okM M = true) (hh : head < 18446744073709551616) (hW : Wok M) :
    Calls Try.prog 12 #[memV wa wc la lc M, .int .u64 ((head : Nat) : Int)] V (GivesW M head V) := by
  obtain ⟨hn1, hn4, hmn, -⟩ := okM_spec hok
  obtain ⟨V1, hV1, hb1, hs1, hl1⟩ := laid V #[.slice wa M.W.length wc, .slice la M.L.length lc, .bool M.F] 25
  obtain ⟨X, hX⟩ : ∃ X, V.heap.size = X := ⟨_, rfl⟩
  rw [hX] at hl1
  have HM := hid h
  have HLI := hid (fun (q : Nat) (W : World) (hb : Below V.heap.size V W) (hq : q ≤ 1000000) => rlive_any M wa la wc lc q W (h.grow hb) hmn hq)
  have hwl := h.w.len
  have hll := h.l.len
  obtain ⟨n, hn⟩ : ∃ n, M.W.length = n := ⟨_, rfl⟩
  have hm : M.L.length = n := hmn.trans hn
  obtain ⟨F, hF⟩ : ∃ n, M.F = n := ⟨_, rfl⟩
  unfold memV at HLI ⊢
  rw [hn, hm, hF] at hV1 hl1 HLI
  rw [hn] at hn1 hn4 hwl
  rw [hm] at hll
  rw [hn, hm, hF]
  have HN := hid hn
  have HMM := hid hm
  have HW := hid hW
  have HRN1 : Hid (RNs V X #[.slice wa n wc, .slice la n lc, .bool F] [] [] (.slice none 0 0) (.slice none 0 0) V1) := hid ⟨hl1, World.ownsRow_nil _ _ _ _, World.ownsRow_nil _ _ _ _, hb1⟩
  have HPOS := hid (fun (p k : Nat) => posR_live (M := M) (p := p) (k := k) (by rw [hm]; exact hn4))
  have HAT := hid (fun (p k : Nat) (W : World) (hp : p < 18446744073709551616) (hk : k ≤ 1000) => At_any p k W hp hk)
  have HWD : Hid (∀ p k, liveN M (posN p k) = true → ∃ b off, wa = some ⟨b, off, none⟩ ∧ posN p k < n ∧ posR p k = posN p k ∧ ∀ w', Below V.heap.size V w' → w'.cell? ⟨b, off + posN p k, none⟩ = some (.int .u64 ((wAt M p k : Nat) : Int))) := hid (fun p k hl => by
    have hw := w_ex hn hm hl
    have hlt := (List.getElem?_eq_some_iff.1 hw).1
    obtain ⟨b, off, e, -, hc⟩ := h.w.at hlt (wcell_at hw)
    exact ⟨b, off, e, by rw [← hn]; exact hlt, (HPOS.out p k).2 hl, hc⟩)
  let CS : Array Value := #[.slice wa n wc, .slice la n lc, .bool F]
  haveI : Nonempty (RNc V X #[.slice wa n wc, .slice la n lc, .bool F]) := HRN1.out.cls.elim fun z _ => ⟨z⟩
  have r0 : ∀ z : RNc V X #[.slice wa n wc, .slice la n lc, .bool F], z.w.cell? ⟨X, 0, none⟩ = some (.slice wa n wc) := fun z => cell_laid z.bx rfl
  have r1 : ∀ z : RNc V X #[.slice wa n wc, .slice la n lc, .bool F], z.w.cell? ⟨X, 1, none⟩ = some (.slice la n lc) := fun z => cell_laid z.bx rfl
  have r2 : ∀ z : RNc V X #[.slice wa n wc, .slice la n lc, .bool F], z.w.cell? ⟨X, 2, none⟩ = some (.bool F) := fun z => cell_laid z.bx rfl
  clear h hok hn hm hF hmn hb1 hs1 hl1 hW CS
  go_enter Try.func12, Try.ntmps12
  go_upto_region 1 with (fail)
  have HX := hid hX
  clear hX
  have HRD := hid (HRN1.out.grow (Below.refl _ _).drew)
  obtain ⟨D, hD⟩ : ∃ D, V1.drew = D := ⟨_, rfl⟩
  rw [hD] at HRD
  have HD := hid hD
  clear hD
  obtain ⟨L0, hL0⟩ : ∃ b, liveN M (posN head 0) = b := ⟨_, rfl⟩
  obtain ⟨L1, hL1⟩ : ∃ b, liveN M (posN head 1) = b := ⟨_, rfl⟩
  have HL0 := hid hL0
  have HL1 := hid hL1
  have HQ0 : Hid (liveN M (posR head 0) = L0) := hid (by rw [(HPOS.out head 0).1]; exact hL0)
  have HQ1 : Hid (liveN M (posR head 1) = L1) := hid (by rw [(HPOS.out head 1).1]; exact hL1)
  have hp0 := posR_le head 0
  have hp1 := posR_le head 1
  obtain ⟨P0, hP0⟩ : ∃ P, posR head 0 = P := ⟨_, rfl⟩
  obtain ⟨P1, hP1⟩ : ∃ P, posR head 1 = P := ⟨_, rfl⟩
  rw [hP0] at hp0 HQ0
  rw [hP1] at hp1 HQ1
  have HP0 := hid hP0
  have HP1 := hid hP1
  have HNO : Hid ((L0 && L1) = false → nodesN M head = none) := hid (fun hf => by
    refine nodesN_none ?_
    show takeP M head [0, 1] [] = none
    rw [← HL0.out, ← HL1.out] at hf
    unfold takeP
    cases h0 : liveN M (posN head 0) with
    | false => unfold freeB; rw [h0]; rfl
    | true =>
      rw [h0] at hf
      have h1 : liveN M (posN head 1) = false := hf
      split
      · unfold takeP freeB; rw [h1]; rfl
      · rfl)
  clear hL0 hL1 hP0 hP1
  cases L0
  · have HNO2 := hid (HNO.out rfl)
    clear HNO
    refine wp_region_mix2 (fun W => ∃ z : RNc V X #[.slice wa n wc, .slice la n lc, .bool F], W = z.w) 12 (.q 0 (.q 1 (.h 2 (.h 3 (.q 4 (.q 5 (.q 6 (.q 7 (.h 8 (.h 9 (.q 10 (.q 11 .done)))))))))))) (by kernel_rfl) (by kernel_rfl) (by rw [HD.out]; exact HRD.out.cls) ?_
    rw [HD.out]
    repeat (refine wpMix2_q rfl rfl ?_; go_big_quiet_step (fail); refine wpQuiet_nil ?_)
    refine wpMix2_h rfl fun R' hR' hO => ?_
    go_wp2_with fail
    refine (HAT.out (head) (0) D hh (by decide)).mono ?_
    rintro e w2 ⟨rfl, hw2⟩
    rw [hw2]
    clear hw2 w2
    rw [HP0.out]
    go_wp2
    refine hR' _ _ HRD.out.cls ?_
    clear hR' hO R'
    refine wpMix2_h rfl fun R' hR' hO => ?_
    go_wp2_with fail
    refine (HLI.out P0 D HRD.out.below (by omega)).mono ?_
    rw [HQ0.out]
    rintro e w3 ⟨rfl, hb3⟩
    have HR3 := hid (HRD.out.grow hb3)
    clear hb3
    go_wp2
    refine hR' _ _ HR3.out.cls ?_
    clear hR' hO R'
    repeat (refine wpMix2_q rfl rfl ?_; go_big_quiet_step (fail); refine wpQuiet_nil ?_)
    refine wpMix2_h rfl fun R' hR' hO => ?_
    go_wp2
    refine hR' _ _ HR3.out.cls ?_
    clear hR' hO R'
    refine wpMix2_h rfl fun R' hR' hO => ?_
    go_wp2
    refine hR' _ _ HR3.out.cls ?_
    clear hR' hO R'
    repeat (refine wpMix2_q rfl rfl ?_; go_big_quiet_step (fail); refine wpQuiet_nil ?_)
    refine wpMix2_done ?_
    simp only [List.drop_succ_cons, List.drop_zero]
    go_wp2
    go_ret2
    exact ⟨_, _, rfl, HR3.out.below, fun _ => rfl, fun xs met hx => by rw [HNO2.out] at hx; cases hx⟩
  · cases L1
    · have HNO2 := hid (HNO.out rfl)
      clear HNO
      refine wp_region_mix2 (fun W => ∃ z : RNc V X #[.slice wa n wc, .slice la n lc, .bool F], W = z.w) 12 (.q 0 (.q 1 (.h 2 (.h 3 (.q 4 (.q 5 (.q 6 (.q 7 (.h 8 (.h 9 (.q 10 (.q 11 .done)))))))))))) (by kernel_rfl) (by kernel_rfl) (by rw [HD.out]; exact HRD.out.cls) ?_
      rw [HD.out]
      repeat (refine wpMix2_q rfl rfl ?_; go_big_quiet_step (fail); refine wpQuiet_nil ?_)
      refine wpMix2_h rfl fun R' hR' hO => ?_
      go_wp2_with fail
      refine (HAT.out (head) (0) D hh (by decide)).mono ?_
      rintro e w2 ⟨rfl, hw2⟩
      rw [hw2]
      clear hw2 w2
      rw [HP0.out]
      go_wp2
      refine hR' _ _ HRD.out.cls ?_
      clear hR' hO R'
      refine wpMix2_h rfl fun R' hR' hO => ?_
      go_wp2_with fail
      refine (HLI.out P0 D HRD.out.below (by omega)).mono ?_
      rw [HQ0.out]
      rintro e w3 ⟨rfl, hb3⟩
      have HR3 := hid (HRD.out.grow hb3)
      clear hb3
      go_wp2
      refine hR' _ _ HR3.out.cls ?_
      clear hR' hO R'
      repeat (refine wpMix2_q rfl rfl ?_; go_big_quiet_step (fail); refine wpQuiet_nil ?_)
      refine wpMix2_h rfl fun R' hR' hO => ?_
      go_wp2_with fail
      refine (HAT.out (head) (1) w3 hh (by decide)).mono ?_
      rintro e w2 ⟨rfl, hw2⟩
      rw [hw2]
      clear hw2 w2
      rw [HP1.out]
      go_wp2
      refine hR' _ _ HR3.out.cls ?_
      clear hR' hO R'
      refine wpMix2_h rfl fun R' hR' hO => ?_
      go_wp2_with fail
      refine (HLI.out P1 w3 HR3.out.below (by omega)).mono ?_
      rw [HQ1.out]
      rintro e w4 ⟨rfl, hb3⟩
      have HR4 := hid (HR3.out.grow hb3)
      clear hb3
      go_wp2
      refine hR' _ _ HR4.out.cls ?_
      clear hR' hO R'
      repeat (refine wpMix2_q rfl rfl ?_; go_big_quiet_step (fail); refine wpQuiet_nil ?_)
      refine wpMix2_done ?_
      simp only [List.drop_succ_cons, List.drop_zero]
      go_wp2
      go_ret2
      exact ⟨_, _, rfl, HR4.out.below, fun _ => rfl, fun xs met hx => by rw [HNO2.out] at hx; cases hx⟩
    · clear HNO
      refine wp_region_mix2 (fun W => ∃ z : RNc V X #[.slice wa n wc, .slice la n lc, .bool F], W = z.w) 12 (.q 0 (.q 1 (.h 2 (.h 3 (.q 4 (.q 5 (.q 6 (.q 7 (.h 8 (.h 9 (.q 10 (.q 11 .done)))))))))))) (by kernel_rfl) (by kernel_rfl) (by rw [HD.out]; exact HRD.out.cls) ?_
      rw [HD.out]
      repeat (refine wpMix2_q rfl rfl ?_; go_big_quiet_step (fail); refine wpQuiet_nil ?_)
      refine wpMix2_h rfl fun R' hR' hO => ?_
      go_wp2_with fail
      refine (HAT.out (head) (0) D hh (by decide)).mono ?_
      rintro e w2 ⟨rfl, hw2⟩
      rw [hw2]
      clear hw2 w2
      rw [HP0.out]
      go_wp2
      refine hR' _ _ HRD.out.cls ?_
      clear hR' hO R'
      refine wpMix2_h rfl fun R' hR' hO => ?_
      go_wp2_with fail
      refine (HLI.out P0 D HRD.out.below (by omega)).mono ?_
      rw [HQ0.out]
      rintro e w3 ⟨rfl, hb3⟩
      have HR3 := hid (HRD.out.grow hb3)
      clear hb3
      go_wp2
      refine hR' _ _ HR3.out.cls ?_
      clear hR' hO R'
      repeat (refine wpMix2_q rfl rfl ?_; go_big_quiet_step (fail); refine wpQuiet_nil ?_)
      refine wpMix2_h rfl fun R' hR' hO => ?_
      go_wp2_with fail
      refine (HAT.out (head) (1) w3 hh (by decide)).mono ?_
      rintro e w2 ⟨rfl, hw2⟩
      rw [hw2]
      clear hw2 w2
      rw [HP1.out]
      go_wp2
      refine hR' _ _ HR3.out.cls ?_
      clear hR' hO R'
      refine wpMix2_h rfl fun R' hR' hO => ?_
      go_wp2_with fail
      refine (HLI.out P1 w3 HR3.out.below (by omega)).mono ?_
      rw [HQ1.out]
      rintro e w4 ⟨rfl, hb3⟩
      have HR4 := hid (HR3.out.grow hb3)
      clear hb3
      go_wp2
      refine hR' _ _ HR4.out.cls ?_
      clear hR' hO R'
      repeat (refine wpMix2_q rfl rfl ?_; go_big_quiet_step (fail); refine wpQuiet_nil ?_)
      refine wpMix2_done ?_
      simp only [List.drop_succ_cons, List.drop_zero]
      go_wp2_with fail
      refine (HAT.out head 0 w4 hh (by decide)).mono ?_
      rintro e w5 ⟨rfl, hw5⟩
      rw [HP0.out, hw5]
      clear hw5 w5
      go_wp2_with fail
      refine (HAT.out head 1 w4 hh (by decide)).mono ?_
      rintro e w5 ⟨rfl, hw5⟩
      rw [HP1.out, hw5]
      clear hw5 w5
      obtain ⟨w5, hw5, hb5, hs5, hl5⟩ := laid w4 #[.int .i64 ((P0 : Nat) : Int), .int .i64 ((P1 : Nat) : Int)] 3
      obtain ⟨Y, hY⟩ : ∃ Y, w4.heap.size = Y := ⟨_, rfl⟩
      rw [hY] at hl5
      obtain ⟨bw, ow, ewa, hq0, hqe0, hcell0⟩ := HWD.out head 0 HL0.out
      obtain ⟨bw', ow', ewa', hq1, hqe1, hcell1⟩ := HWD.out head 1 HL1.out
      rw [ewa] at ewa'
      obtain ⟨rfl, rfl⟩ : bw = bw' ∧ ow = ow' := by cases ewa'; exact ⟨rfl, rfl⟩
      clear ewa'
      have hPP0 : posN head 0 = P0 := by rw [← HP0.out, hqe0]
      have hPP1 : posN head 1 = P1 := by rw [← HP1.out, hqe1]
      rw [hPP0] at hcell0 hq0
      rw [hPP1] at hcell1 hq1
      have HPN0 := hid hPP0
      have HPN1 := hid hPP1
      have hPne : P0 ≠ P1 := by rw [← hPP0, ← hPP1]; unfold posN; omega
      have HTK : Hid (takeP M head (List.range 2) [] = some [P0, P1]) := hid (by
        show takeP M head [0, 1] [] = _
        unfold takeP freeB
        rw [HL0.out, if_pos (by simp), hPP0]
        unfold takeP freeB
        rw [HL1.out, hPP1, if_pos (by simp; exact fun e => hPne e.symm)]
        rfl)
      have HR5 : Hid (RNs V X #[.slice wa n wc, .slice la n lc, .bool F] [P0, P1] [] (.slice none 0 0) (.slice (some ⟨Y, 0, none⟩) 2 2) w5) := hid (by
        have hr := HR4.out.grow hb5
        exact ⟨hr.bx, hr.r6, row_new hl5 rfl (by decide) (by have := HR4.out.below.size; omega), hr.below⟩)
      obtain ⟨A0, hA0⟩ : ∃ P, wAt M head 0 = P := ⟨_, rfl⟩
      have HA0 := hid hA0
      rw [hA0] at hcell0
      obtain ⟨A1, hA1⟩ : ∃ P, wAt M head 1 = P := ⟨_, rfl⟩
      have HA1 := hid hA1
      rw [hA1] at hcell1
      have hA0l : A0 < 18446744073709551616 := by rw [← hA0]; exact wAt_lt HW.out _ _
      have s0 : ∀ z : RNc V X #[.slice wa n wc, .slice la n lc, .bool F], z.w.cell? ⟨bw, ow + P0, none⟩ = some (.int .u64 ((A0 : Nat) : Int)) := fun z => hcell0 z.w z.below
      have s1 : ∀ z : RNc V X #[.slice wa n wc, .slice la n lc, .bool F], z.w.cell? ⟨bw, ow + P1, none⟩ = some (.int .u64 ((A1 : Nat) : Int)) := fun z => hcell1 z.w z.below
      have HHD : Hid (∀ f : Nat, nodesN M head = endN M head (goN M 4101 0 A0 [P0, P1] [])) := hid (fun _ => by rw [nodesN_some HTK.out, hA0])
      subst ewa
      clear hb5 hs5 hl5 hPP0 hPP1 hqe0 hqe1 hA0 hA1 hcell0 hcell1 HQ0 HQ1
      go_upto_region 6 with (fail)
      have HRD := hid (HR5.out.grow (Below.refl _ _).drew)
      obtain ⟨D, hD⟩ : ∃ DX, (w5).drew = DX := ⟨_, rfl⟩
      rw [hD] at HRD
      have HD := hid hD
      clear hD
      refine wp_region_mix2 (fun W => ∃ z : RNc V X #[.slice (some ⟨bw, ow, none⟩) n wc, .slice la n lc, .bool F], W = z.w) 7 (.q 0 (.q 1 (.q 2 (.h 3 (.q 4 (.q 5 (.q 6 .done))))))) (by kernel_rfl) (by kernel_rfl) (by rw [HD.out]; exact HRD.out.cls) ?_
      rw [HD.out]
      repeat (refine wpMix2_q rfl rfl ?_; go_big_quiet_step (fail); refine wpQuiet_nil ?_)
      refine wpMix2_h rfl fun R' hR' hO => ?_
      go_wp2_with fail
      refine (HAT.out (head) (0) D hh (by decide)).mono ?_
      rintro e w2 ⟨rfl, hw2⟩
      rw [hw2]
      clear hw2 w2
      rw [HP0.out]
      go_wp2
      refine hR' _ _ HRD.out.cls ?_
      clear hR' hO R'
      repeat (refine wpMix2_q rfl rfl ?_; go_big_quiet_step (fail); refine wpQuiet_nil ?_)
      refine wpMix2_done ?_
      simp only [List.drop_succ_cons, List.drop_zero]
      obtain ⟨RES, hRES⟩ : ∃ R, nodesN M head = R := ⟨_, rfl⟩
      have HRES : Hid (endN M head (goN M 4101 0 A0 [P0, P1] []) = RES) := hid (by rw [← HHD.out 0]; exact hRES)
      have HGW : Hid (∀ v b W, Below V.heap.size V W → (RES = none → b = false) → (∀ xs met, RES = some (xs, met) → b = true ∧ W.ownsRow V.heap.size 28 3 v xs.length (twcells xs)) → GivesW M head V (.returned (.tuple #[v, .bool b])) W) := hid (fun v b W h1 h2 h3 => ⟨v, b, rfl, h1, by rw [hRES]; exact h2, by rw [hRES]; exact h3⟩)
      have hPl0 : P0 < n := hq0
      have hPl1 : P1 < n := hq1
      clear hRES HHD HR3 HR4 HR5
      go_wp2
      go_loopg [6, 7, 8, 9] 4101 (fun f t6 t7 t8 t9 wr => ∃ (ahead place : Nat) (met : List Nat) (pre : List Tw) (v6 v7 : Value), t6 = v6 ∧ t7 = v7 ∧ t8 = .int .u64 ((ahead : Nat) : Int) ∧ t9 = .int .u64 ((place : Nat) : Int) ∧ place < 18446744073709551616 ∧ ahead < 18446744073709551616 ∧ Hid (RNs V X #[.slice (some ⟨bw, ow, none⟩) n wc, .slice la n lc, .bool F] met pre v6 v7 wr) ∧ Hid (endN M head (goN M f ahead place met pre) = RES) ∧ Hid (met.Nodup ∧ ∀ x ∈ met, x < n) ∧ Hid (4101 ≤ f + met.length) ∧ Hid (4 * pre.length + 2 ≤ met.length))
      case atStart => exact ⟨0, A0, [P0, P1], [], _, _, rfl, rfl, rfl, rfl, hA0l, by omega, HRD, HRES, hid ⟨by simp; exact hPne, by simp; exact ⟨hPl0, hPl1⟩⟩, hid (by simp), hid (by simp)⟩
      case round =>
        obtain ⟨ahead, place, met, pre, v6, v7, rfl, rfl, rfl, rfl, hpl, hal, hR, hRE, hmet, hf, hpre⟩ := hrel
        have hlen := nodup_lt hmet.out.1 hmet.out.2
        obtain ⟨f1, hf1⟩ : ∃ f1, gk = f1 + 1 := ⟨gk - 1, by have := hf.out; omega⟩
        have HF1 := hid hf1
        have HLEN := hid hlen
        obtain ⟨a6, c6, e6, -⟩ := Leads.of_own hR.out.r6
        obtain ⟨a7, c7, e7, -⟩ := Leads.of_own hR.out.r7
        obtain ⟨n6, hn6⟩ : ∃ k, pre.length = k := ⟨_, rfl⟩
        rw [hn6] at e6
        obtain ⟨n7, hn7⟩ : ∃ k, met.length = k := ⟨_, rfl⟩
        rw [hn7] at e7
        have HN6 := hid hn6
        have HN7 := hid hn7
        subst e6
        subst e7
        clear hf1 hlen hn6 hn7
        by_cases h0 : place = 0
        · subst h0
          have HR3 : Hid ((if A1 = ahead then some (pre, met) else none) = RES) := hid (by rw [← hRE.out, HF1.out, goN_zero]; unfold endN; rw [HA1.out])
          obtain ⟨EQ, hEQ⟩ : ∃ EQ, (((A1 : Nat) : Int) == ((ahead : Nat) : Int)) = EQ := ⟨_, rfl⟩
          have HEQ := hid hEQ
          go_upto_region 20 with (fail)
          have HRD := hid (hR.out.grow (Below.refl _ _).drew)
          obtain ⟨D, hD⟩ : ∃ DX, (wr).drew = DX := ⟨_, rfl⟩
          rw [hD] at HRD
          have HD := hid hD
          clear hD
          refine wp_region_mix2 (fun W => ∃ z : RNc V X #[.slice (some ⟨bw, ow, none⟩) n wc, .slice la n lc, .bool F], W = z.w) 11 (.q 0 (.q 1 (.q 2 (.q 3 (.q 7 (.h 4 (.q 5 (.q 6 (.q 8 (.q 9 (.q 10 .done))))))))))) (by kernel_rfl) (by kernel_rfl) (by rw [HD.out]; exact HRD.out.cls) ?_
          rw [HD.out]
          repeat (refine wpMix2_q rfl rfl ?_; go_big_quiet_step (fail); refine wpQuiet_nil ?_)
          refine wpMix2_h rfl fun R' hR' hO => ?_
          go_wp2_with fail
          refine (HAT.out (head) (1) D hh (by decide)).mono ?_
          rintro e w2 ⟨rfl, hw2⟩
          rw [hw2]
          clear hw2 w2
          rw [HP1.out]
          go_wp2
          refine hR' _ _ HRD.out.cls ?_
          clear hR' hO R'
          repeat (refine wpMix2_q rfl rfl ?_; go_big_quiet_step (fail); refine wpQuiet_nil ?_)
          refine wpMix2_done ?_
          simp only [List.drop_succ_cons, List.drop_zero]
          go_wp2
          go_ret2
          refine HGW.out _ _ _ HRD.out.below ?_ ?_
          · intro hx
            rw [← HR3.out] at hx
            rw [← HEQ.out]
            split at hx
            · cases hx
            · rename_i hne; simp; omega
          · intro xs met2 hx
            rw [← HR3.out] at hx
            rw [← HEQ.out]
            split at hx
            · rename_i he; cases hx; exact ⟨by simp; omega, by have := HRD.out.r6; exact this⟩
            · cases hx
        · have t0 : (((place : Nat) : Int) != 0) = true := by simp; omega
          have HP0n := hid h0
          obtain ⟨RT, hRT⟩ : ∃ R, takeP M place (List.range 4) met = R := ⟨_, rfl⟩
          have HRT := hid hRT
          have HRT4 : Hid (takeP M place (List.range' 0 4) met = RT) := hid (by rw [← List.range_eq_range']; exact hRT)
          have HRESN : Hid (RT = none → RES = none) := hid (fun e => by rw [← hRE.out, HF1.out, goN_none h0 (hRT.trans e)]; rfl)
          have HNN : Hid (∀ W : World, Below V.heap.size V W → RT = none → GivesW M head V (.returned (.tuple #[.slice none 0 0, .bool false])) W) := hid (fun W hb e => HGW.out _ _ _ hb (fun _ => rfl) (fun xs m hx => by rw [HRESN.out e] at hx; cases hx))
          clear h0 hRT
          obtain ⟨G, hG⟩ : ∃ G, G = gk - 1 := ⟨_, rfl⟩
          have HG := hid hG
          clear hG
          go_wp2
          go_loopg [42, 7] 4 (fun g t42 t7 wr => ∃ (k : Nat) (met2 : List Nat) (v7 : Value), g + k = 4 ∧ t42 = .int .i64 ((k : Nat) : Int) ∧ t7 = v7 ∧ Hid (RNs V X #[.slice (some ⟨bw, ow, none⟩) n wc, .slice la n lc, .bool F] met2 pre (.slice a6 n6 c6) v7 wr) ∧ Hid (takeP M place (List.range' k g) met2 = RT) ∧ Hid (met2.length = met.length + k))
          case atStart => exact ⟨0, met, _, rfl, rfl, rfl, hR, HRT4, hid rfl⟩
          case round =>
            obtain ⟨k, met2, v7, hk, rfl, rfl, hR2, hTK, hml⟩ := hrel
            obtain ⟨b7, d7, e7, -⟩ := Leads.of_own hR2.out.r7
            obtain ⟨m7, hm7⟩ : ∃ k, met2.length = k := ⟨_, rfl⟩
            rw [hm7] at e7
            have HM7 := hid hm7
            subst e7
            have hm75 : m7 ≤ 5000 := by have := hml.out; have := HLEN.out; omega
            have HK := hid hk
            clear hm7 hk
            by_cases hlt : k < 4
            · obtain ⟨g1, hg1⟩ : ∃ g1, gk = g1 + 1 := ⟨gk - 1, by have := HK.out; omega⟩
              have hT2 := hTK.out
              rw [hg1, List.range'_succ] at hT2
              unfold takeP at hT2
              have HT2 := hid hT2
              have HG1 := hid hg1
              clear hT2 hg1 hTK
              obtain ⟨L, hL⟩ : ∃ b, liveN M (posN place k) = b := ⟨_, rfl⟩
              have HL := hid hL
              have HQ : Hid (liveN M (posR place k) = L) := hid (by rw [(HPOS.out place k).1]; exact hL)
              have hp := posR_le place k
              obtain ⟨P, hP⟩ : ∃ P, posR place k = P := ⟨_, rfl⟩
              rw [hP] at hp HQ
              have HPP := hid hP
              clear hL hP
              cases L
              · have HRN : Hid (RT = none) := hid (by have := HT2.out; unfold freeB at this; rw [HL.out, if_neg (by simp)] at this; exact this.symm)
                go_upto_region 12 with (fail)
                have HRD := hid (hR2.out.grow (Below.refl _ _).drew)
                obtain ⟨D, hD⟩ : ∃ DX, (wr).drew = DX := ⟨_, rfl⟩
                rw [hD] at HRD
                have HD := hid hD
                clear hD
                refine wp_region_mix2 (fun W => ∃ z : RNc V X #[.slice (some ⟨bw, ow, none⟩) n wc, .slice la n lc, .bool F], W = z.w) 13 (.q 0 (.q 1 (.q 2 (.h 3 (.h 4 (.q 5 (.q 6 (.q 7 (.q 8 (.q 9 (.h 10 (.h 11 (.q 12 .done))))))))))))) (by kernel_rfl) (by kernel_rfl) (by rw [HD.out]; exact HRD.out.cls) ?_
                rw [HD.out]
                repeat (refine wpMix2_q rfl rfl ?_; go_big_quiet_step (fail); refine wpQuiet_nil ?_)
                refine wpMix2_h rfl fun R' hR' hO => ?_
                go_wp2_with fail
                refine (HAT.out (place) (k) D hpl (by omega)).mono ?_
                rintro e w2 ⟨rfl, hw2⟩
                rw [hw2]
                clear hw2 w2
                rw [HPP.out]
                go_wp2
                refine hR' _ _ HRD.out.cls ?_
                clear hR' hO R'
                refine wpMix2_h rfl fun R' hR' hO => ?_
                go_wp2_with fail
                refine (HLI.out P D HRD.out.below (by omega)).mono ?_
                rw [HQ.out]
                rintro e w3 ⟨rfl, hb3⟩
                have HR3 := hid (HRD.out.grow hb3)
                clear hb3
                go_wp2
                refine hR' _ _ HR3.out.cls ?_
                clear hR' hO R'
                repeat (refine wpMix2_q rfl rfl ?_; go_big_quiet_step (fail); refine wpQuiet_nil ?_)
                refine wpMix2_h rfl fun R' hR' hO => ?_
                go_wp2
                refine hR' _ _ HR3.out.cls ?_
                clear hR' hO R'
                refine wpMix2_h rfl fun R' hR' hO => ?_
                go_wp2
                refine hR' _ _ HR3.out.cls ?_
                clear hR' hO R'
                repeat (refine wpMix2_q rfl rfl ?_; go_big_quiet_step (fail); refine wpQuiet_nil ?_)
                refine wpMix2_done ?_
                simp only [List.drop_succ_cons, List.drop_zero]
                go_wp2
                go_ret2
                exact HNN.out _ HR3.out.below HRN.out
              · have HPE : Hid (posN place k = P) := hid (by rw [← HPP.out]; exact ((HPOS.out place k).2 HL.out).symm)
                obtain ⟨B, hB⟩ : ∃ B, decide (P ∈ met2) = B := ⟨_, rfl⟩
                have HB := hid hB
                have HHA := hid (fun W (hr : RNs V X #[.slice (some ⟨bw, ow, none⟩) n wc, .slice la n lc, .bool F] met2 pre (.slice a6 n6 c6) (.slice b7 m7 d7) W) => has_any met2 b7 m7 d7 P W (by have := Leads.of_own hr.r7; obtain ⟨a', c', e, hl⟩ := this; cases e; rw [HM7.out] at hl; exact hl) HM7.out)
                rw [hB] at HHA
                clear hB
                cases B
                case' true =>
                  have HRN : Hid (RT = none) := hid (by have := HT2.out; unfold freeB at this; rw [HPE.out, HB.out, if_neg (by simp)] at this; exact this.symm)
                case' false =>
                  have HRN : Hid (takeP M place (List.range' (k + 1) g1) (met2 ++ [P]) = RT) := hid (by have := HT2.out; unfold freeB at this; rw [HL.out, HPE.out, HB.out, if_pos (by simp)] at this; exact this)
                all_goals
                  go_upto_region 12 with (fail)
                  have HRD := hid (hR2.out.grow (Below.refl _ _).drew)
                  obtain ⟨D, hD⟩ : ∃ DX, (wr).drew = DX := ⟨_, rfl⟩
                  rw [hD] at HRD
                  have HD := hid hD
                  clear hD
                  refine wp_region_mix2 (fun W => ∃ z : RNc V X #[.slice (some ⟨bw, ow, none⟩) n wc, .slice la n lc, .bool F], W = z.w) 13 (.q 0 (.q 1 (.q 2 (.h 3 (.h 4 (.q 5 (.q 6 (.q 7 (.q 8 (.q 9 (.h 10 (.h 11 (.q 12 .done))))))))))))) (by kernel_rfl) (by kernel_rfl) (by rw [HD.out]; exact HRD.out.cls) ?_
                  rw [HD.out]
                  repeat (refine wpMix2_q rfl rfl ?_; go_big_quiet_step (fail); refine wpQuiet_nil ?_)
                  refine wpMix2_h rfl fun R' hR' hO => ?_
                  go_wp2_with fail
                  refine (HAT.out (place) (k) D hpl (by omega)).mono ?_
                  rintro e w2 ⟨rfl, hw2⟩
                  rw [hw2]
                  clear hw2 w2
                  rw [HPP.out]
                  go_wp2
                  refine hR' _ _ HRD.out.cls ?_
                  clear hR' hO R'
                  refine wpMix2_h rfl fun R' hR' hO => ?_
                  go_wp2_with fail
                  refine (HLI.out P D HRD.out.below (by omega)).mono ?_
                  rw [HQ.out]
                  rintro e w3 ⟨rfl, hb3⟩
                  have HR3 := hid (HRD.out.grow hb3)
                  clear hb3
                  go_wp2
                  refine hR' _ _ HR3.out.cls ?_
                  clear hR' hO R'
                  repeat (refine wpMix2_q rfl rfl ?_; go_big_quiet_step (fail); refine wpQuiet_nil ?_)
                  refine wpMix2_h rfl fun R' hR' hO => ?_
                  go_wp2_with fail
                  refine (HAT.out (place) (k) w3 hpl (by omega)).mono ?_
                  rintro e w2 ⟨rfl, hw2⟩
                  rw [hw2]
                  clear hw2 w2
                  rw [HPP.out]
                  go_wp2
                  refine hR' _ _ HR3.out.cls ?_
                  clear hR' hO R'
                  refine wpMix2_h rfl fun R' hR' hO => ?_
                  go_wp2_with fail
                  refine (HHA.out w3 HR3.out).mono ?_
                  rintro e w4 ⟨rfl, hw4⟩
                  rw [hw4]
                  clear hw4 w4
                  go_wp2
                  refine hR' _ _ HR3.out.cls ?_
                  clear hR' hO R'
                  repeat (refine wpMix2_q rfl rfl ?_; go_big_quiet_step (fail); refine wpQuiet_nil ?_)
                  refine wpMix2_done ?_
                  simp only [List.drop_succ_cons, List.drop_zero]
                rotate_left
                · go_wp2
                  go_ret2
                  exact HNN.out _ HR3.out.below HRN.out
                · go_wp2_with fail
                  refine (HAT.out place k w3 hpl (by omega)).mono ?_
                  rintro e w4 ⟨rfl, hw4⟩
                  rw [HPP.out, hw4]
                  clear hw4 w4
                  obtain ⟨w5, hw5, hb5, hs5, hl5⟩ := laid w3 #[.int .i64 ((P : Nat) : Int)] 3
                  obtain ⟨Y, hY⟩ : ∃ Y, w3.heap.size = Y := ⟨_, rfl⟩
                  rw [hY] at hl5
                  have HL5 := hid hl5
                  have HR5 := hid (HR3.out.grow hb5)
                  have HOW7 : Hid (w5.ownsRow V.heap.size 3 1 (.slice b7 m7 d7) m7 (ncells met2)) := hid (by have := HR5.out.r7; rw [HM7.out] at this; exact this)
                  clear hb5 hs5 hl5
                  go_wp2_with ((with_reducible show wpList _ _ _ _ _ _); refine wp_appendM elemInts rfl (.tmp 58) (.tmp 62) rfl V.heap.size (.slice b7 m7 d7) m7 (ncells met2) rfl HOW7.out ⟨Y, 0, none⟩ 1 1 [.int .i64 ((P : Nat) : Int)] rfl rfl ?c1 ?c2 ?c3 ?c4 ?c5)
                  case c1 => intro j u hj; refine cell_add (o := 0) (by rw [Nat.zero_add]; exact cell_laid HL5.out (by simpa using hj))
                  case c2 => first | (intro u hu; simp at hu; subst hu; rfl) | omega
                  try (case c3 => omega)
                  try (case c4 => exact HR5.out.below.size)
                  case c5 =>
                    intro v7' w6 ho hg hmv
                    have HR6 := hid (HR5.out.app7 (q := P) (v7' := v7') (by rw [HM7.out]; exact ho) hg)
                    obtain ⟨x7, y7, e7, -⟩ := Leads.of_own ho
                    subst e7
                    clear ho hg hmv
                    go_wp2
                    go_roundg (gk - 1)
                    case measure => have := HK.out; omega
                    case rel => exact ⟨k + 1, met2 ++ [P], _, by have := HK.out; omega, by go_num, rfl, HR6, hid (by rw [show gk - 1 = g1 by have := HG1.out; omega]; exact HRN.out), hid (by rw [List.length_append, hml.out]; simp; omega)⟩
            · have e4 : k = 4 := by have := HK.out; omega
              have e0 : gk = 0 := by have := HK.out; omega
              subst e4
              have hsome : RT = some met2 := by have := hTK.out; rw [e0] at this; exact this.symm
              have HSOME := hid hsome
              have htk := HRT.out.trans hsome
              obtain ⟨s1, s2, s3, s4⟩ := takeP_spec M place _ _ _ htk
              have HMN := hid (show met2.Nodup ∧ ∀ x ∈ met2, x < n from ⟨s2 hmet.out.1, fun x hx => (s4 x hx).elim (fun h => hmet.out.2 x h) (fun h => by have := live_lt h; rwa [HMM.out] at this)⟩)
              have HLV0 := hid (s1 0 (by decide))
              have HLV1 := hid (s1 1 (by decide))
              have HLV2 := hid (s1 2 (by decide))
              have HLV3 := hid (s1 3 (by decide))
              obtain ⟨bx, ox, ex, hq0, hqe0, hcell0⟩ := HWD.out place 0 HLV0.out
              obtain ⟨rfl, rfl⟩ : bw = bx ∧ ow = ox := by cases ex; exact ⟨rfl, rfl⟩
              clear ex
              obtain ⟨U0, hU0⟩ : ∃ P, posN place 0 = P := ⟨_, rfl⟩
              have HU0 := hid (hqe0.trans hU0)
              rw [hU0] at hq0 hcell0
              obtain ⟨B0, hB0⟩ : ∃ P, wAt M place 0 = P := ⟨_, rfl⟩
              have HB0 := hid hB0
              rw [hB0] at hcell0
              have q0 : ∀ z : RNc V X #[.slice (some ⟨bw, ow, none⟩) n wc, .slice la n lc, .bool F], z.w.cell? ⟨bw, ow + U0, none⟩ = some (.int .u64 ((B0 : Nat) : Int)) := fun z => hcell0 z.w z.below
              obtain ⟨bx, ox, ex, hq1, hqe1, hcell1⟩ := HWD.out place 1 HLV1.out
              obtain ⟨rfl, rfl⟩ : bw = bx ∧ ow = ox := by cases ex; exact ⟨rfl, rfl⟩
              clear ex
              obtain ⟨U1, hU1⟩ : ∃ P, posN place 1 = P := ⟨_, rfl⟩
              have HU1 := hid (hqe1.trans hU1)
              rw [hU1] at hq1 hcell1
              obtain ⟨B1, hB1⟩ : ∃ P, wAt M place 1 = P := ⟨_, rfl⟩
              have HB1 := hid hB1
              rw [hB1] at hcell1
              have q1 : ∀ z : RNc V X #[.slice (some ⟨bw, ow, none⟩) n wc, .slice la n lc, .bool F], z.w.cell? ⟨bw, ow + U1, none⟩ = some (.int .u64 ((B1 : Nat) : Int)) := fun z => hcell1 z.w z.below
              obtain ⟨bx, ox, ex, hq2, hqe2, hcell2⟩ := HWD.out place 2 HLV2.out
              obtain ⟨rfl, rfl⟩ : bw = bx ∧ ow = ox := by cases ex; exact ⟨rfl, rfl⟩
              clear ex
              obtain ⟨U2, hU2⟩ : ∃ P, posN place 2 = P := ⟨_, rfl⟩
              have HU2 := hid (hqe2.trans hU2)
              rw [hU2] at hq2 hcell2
              obtain ⟨B2, hB2⟩ : ∃ P, wAt M place 2 = P := ⟨_, rfl⟩
              have HB2 := hid hB2
              rw [hB2] at hcell2
              have q2 : ∀ z : RNc V X #[.slice (some ⟨bw, ow, none⟩) n wc, .slice la n lc, .bool F], z.w.cell? ⟨bw, ow + U2, none⟩ = some (.int .u64 ((B2 : Nat) : Int)) := fun z => hcell2 z.w z.below
              obtain ⟨bx, ox, ex, hq3, hqe3, hcell3⟩ := HWD.out place 3 HLV3.out
              obtain ⟨rfl, rfl⟩ : bw = bx ∧ ow = ox := by cases ex; exact ⟨rfl, rfl⟩
              clear ex
              obtain ⟨U3, hU3⟩ : ∃ P, posN place 3 = P := ⟨_, rfl⟩
              have HU3 := hid (hqe3.trans hU3)
              rw [hU3] at hq3 hcell3
              obtain ⟨B3, hB3⟩ : ∃ P, wAt M place 3 = P := ⟨_, rfl⟩
              have HB3 := hid hB3
              rw [hB3] at hcell3
              have q3 : ∀ z : RNc V X #[.slice (some ⟨bw, ow, none⟩) n wc, .slice la n lc, .bool F], z.w.cell? ⟨bw, ow + U3, none⟩ = some (.int .u64 ((B3 : Nat) : Int)) := fun z => hcell3 z.w z.below
              have hB2l : B2 < 18446744073709551616 := by rw [← hB2]; exact wAt_lt HW.out _ _
              have HRE2 : Hid (endN M head (if B3 = ahead then goN M f1 place B2 met2 (pre ++ [(place, B0, B1)]) else none) = RES) := hid (by rw [← hRE.out, HF1.out, goN_some HP0n.out htk, hB0, hB1, hB2, hB3])
              have HNI : Hid (∀ W : World, Below V.heap.size V W → ¬ B3 = ahead → GivesW M head V (.returned (.tuple #[.slice none 0 0, .bool false])) W) := hid (fun W hb e => HGW.out _ _ _ hb (fun _ => rfl) (fun xs m hx => by rw [← HRE2.out, if_neg e] at hx; cases hx))
              clear e0 hsome htk s1 s2 s3 s4 hqe0 hqe1 hqe2 hqe3 hU0 hU1 hU2 hU3 hB0 hB1 hB2 hB3 hcell0 hcell1 hcell2 hcell3 hTK hlt
              by_cases he : B3 = ahead
              case' neg =>
                have tq : (((B3 : Nat) : Int) != ((ahead : Nat) : Int)) = true := by simp; omega
              case' pos =>
                have tq : (((B3 : Nat) : Int) != ((ahead : Nat) : Int)) = false := by simp; omega
              all_goals
                go_upto_region 16 with (fail)
                have HRD := hid (hR2.out.grow (Below.refl _ _).drew)
                obtain ⟨D, hD⟩ : ∃ DX, (wr).drew = DX := ⟨_, rfl⟩
                rw [hD] at HRD
                have HD := hid hD
                clear hD
                refine wp_region_mix2 (fun W => ∃ z : RNc V X #[.slice (some ⟨bw, ow, none⟩) n wc, .slice la n lc, .bool F], W = z.w) 8 (.q 0 (.q 1 (.q 2 (.q 6 (.h 3 (.q 4 (.q 5 (.q 7 .done)))))))) (by kernel_rfl) (by kernel_rfl) (by rw [HD.out]; exact HRD.out.cls) ?_
                rw [HD.out]
                repeat (refine wpMix2_q rfl rfl ?_; go_big_quiet_step (fail); refine wpQuiet_nil ?_)
                refine wpMix2_h rfl fun R' hR' hO => ?_
                go_wp2_with fail
                refine (HAT.out (place) (3) D hpl (by decide)).mono ?_
                rintro e w2 ⟨rfl, hw2⟩
                rw [hw2]
                clear hw2 w2
                rw [HU3.out]
                go_wp2
                refine hR' _ _ HRD.out.cls ?_
                clear hR' hO R'
                repeat (refine wpMix2_q rfl rfl ?_; go_big_quiet_step (fail); refine wpQuiet_nil ?_)
                refine wpMix2_done ?_
                simp only [List.drop_succ_cons, List.drop_zero]
              rotate_left
              · go_wp2
                go_ret2
                exact HNI.out _ HRD.out.below he
              · have HRE3 : Hid (endN M head (goN M f1 place B2 met2 (pre ++ [(place, B0, B1)])) = RES) := hid (by have := HRE2.out; rw [if_pos he] at this; exact this)
                have HR20 := HRD
                have HD0 := HD
                clear HRD HD he tq
                go_upto_region 18 with (fail)
                have HRD := hid (HR20.out.grow (Below.refl _ _).drew)
                obtain ⟨D, hD⟩ : ∃ DX, (D).drew = DX := ⟨_, rfl⟩
                rw [hD] at HRD
                have HD := hid hD
                clear hD
                refine wp_region_mix2 (fun W => ∃ z : RNc V X #[.slice (some ⟨bw, ow, none⟩) n wc, .slice la n lc, .bool F], W = z.w) 18 (.q 0 (.q 1 (.q 2 (.q 3 (.q 4 (.q 8 (.q 9 (.q 10 (.h 5 (.q 6 (.q 7 (.h 11 (.q 12 (.q 13 (.q 14 (.h 15 (.h 16 (.q 17 .done)))))))))))))))))) (by kernel_rfl) (by kernel_rfl) (by rw [HD.out]; exact HRD.out.cls) ?_
                rw [HD.out]
                repeat (refine wpMix2_q rfl rfl ?_; go_big_quiet_step (fail); refine wpQuiet_nil ?_)
                refine wpMix2_h rfl fun R' hR' hO => ?_
                go_wp2_with fail
                refine (HAT.out (place) (0) D hpl (by decide)).mono ?_
                rintro e w2 ⟨rfl, hw2⟩
                rw [hw2]
                clear hw2 w2
                rw [HU0.out]
                go_wp2
                refine hR' _ _ HRD.out.cls ?_
                clear hR' hO R'
                repeat (refine wpMix2_q rfl rfl ?_; go_big_quiet_step (fail); refine wpQuiet_nil ?_)
                refine wpMix2_h rfl fun R' hR' hO => ?_
                go_wp2_with fail
                refine (HAT.out (place) (1) D hpl (by decide)).mono ?_
                rintro e w2 ⟨rfl, hw2⟩
                rw [hw2]
                clear hw2 w2
                rw [HU1.out]
                go_wp2
                refine hR' _ _ HRD.out.cls ?_
                clear hR' hO R'
                repeat (refine wpMix2_q rfl rfl ?_; go_big_quiet_step (fail); refine wpQuiet_nil ?_)
                refine wpMix2_h rfl fun R' hR' hO => ?_
                obtain ⟨w5, hw5, hb5, hs5, hl5⟩ := laid D #[.int .u64 ((place : Nat) : Int), .int .u64 ((B0 : Nat) : Int), .int .u64 ((B1 : Nat) : Int)] 28
                obtain ⟨Y, hY⟩ : ∃ Y, D.heap.size = Y := ⟨_, rfl⟩
                rw [hY] at hl5
                have HL5 := hid hl5
                have HR5 := hid (HRD.out.grow hb5)
                have HOW6 : Hid (w5.ownsRow V.heap.size 28 3 (.slice a6 n6 c6) n6 (twcells pre)) := hid (by have := HR5.out.r6; rw [HN6.out] at this; exact this)
                have hn65 : n6 ≤ 5000 := by have := hpre.out; have := HLEN.out; have := HN6.out; omega
                clear hb5 hs5 hl5
                go_wp2
                refine hR' _ _ HR5.out.cls ?_
                clear hR' hO R'
                refine wpMix2_h rfl fun R' hR' hO => ?_
                go_wp2_with ((with_reducible show wpList _ _ _ _ _ _); refine wp_appendM elemTw rfl (.tmp 73) (.tmp 88) rfl V.heap.size (.slice a6 n6 c6) n6 (twcells pre) rfl HOW6.out ⟨Y, 0, none⟩ 1 1 (tw3 (place, B0, B1)) rfl rfl ?c1 ?c2 ?c3 ?c4 ?c5)
                case c1 => intro j u hj; refine cell_add (o := 0) (by rw [Nat.zero_add]; exact cell_laid HL5.out (by simpa [tw3] using hj))
                case c2 => first | (intro u hu; simp [tw3] at hu; rcases hu with rfl | rfl | rfl <;> rfl) | omega
                try (case c3 => omega)
                try (case c4 => exact HR5.out.below.size)
                case c5 =>
                  intro v6' w6 ho hg hmv
                  have HR6 := hid (HR5.out.app6 (t := (place, B0, B1)) (v6' := v6') (by rw [HN6.out]; exact ho) hg)
                  obtain ⟨x6, y6, e6, -⟩ := Leads.of_own ho
                  subst e6
                  clear ho hg hmv
                  go_wp2
                  refine hR' _ _ HR6.out.cls ?_
                  clear hR' hO R'
                  repeat (refine wpMix2_q rfl rfl ?_; go_big_quiet_step (fail); refine wpQuiet_nil ?_)
                  refine wpMix2_done ?_
                  simp only [List.drop_succ_cons, List.drop_zero]
                  have HD1 := HD
                  clear HRD HD
                  go_upto_region 8 with (fail)
                  have HRD := hid (HR6.out.grow (Below.refl _ _).drew)
                  obtain ⟨D, hD⟩ : ∃ DX, (w6).drew = DX := ⟨_, rfl⟩
                  rw [hD] at HRD
                  have HD := hid hD
                  clear hD
                  refine wp_region_mix2 (fun W => ∃ z : RNc V X #[.slice (some ⟨bw, ow, none⟩) n wc, .slice la n lc, .bool F], W = z.w) 7 (.q 0 (.q 1 (.q 2 (.h 3 (.q 4 (.q 5 (.q 6 .done))))))) (by kernel_rfl) (by kernel_rfl) (by rw [HD.out]; exact HRD.out.cls) ?_
                  rw [HD.out]
                  repeat (refine wpMix2_q rfl rfl ?_; go_big_quiet_step (fail); refine wpQuiet_nil ?_)
                  refine wpMix2_h rfl fun R' hR' hO => ?_
                  go_wp2_with fail
                  refine (HAT.out (place) (2) D hpl (by decide)).mono ?_
                  rintro e w2 ⟨rfl, hw2⟩
                  rw [hw2]
                  clear hw2 w2
                  rw [HU2.out]
                  go_wp2
                  refine hR' _ _ HRD.out.cls ?_
                  clear hR' hO R'
                  repeat (refine wpMix2_q rfl rfl ?_; go_big_quiet_step (fail); refine wpQuiet_nil ?_)
                  refine wpMix2_done ?_
                  simp only [List.drop_succ_cons, List.drop_zero]
                  go_wp2
                  go_roundg G
                  case measure => have := HG.out; have := HF1.out; omega
                  case rel => exact ⟨place, B2, met2, _, _, _, rfl, rfl, rfl, rfl, hB2l, hpl, HRD, hid (by rw [show G = f1 by have := HG.out; have := HF1.out; omega]; exact HRE3.out), HMN, hid (by have := hf.out; have := HF1.out; have := hml.out; have := HG.out; omega), hid (by have := hpre.out; have := hml.out; simp only [List.length_append, List.length_singleton]; omega)⟩
end Go.Proofs.Ytoihjmdpbbcbjaa
