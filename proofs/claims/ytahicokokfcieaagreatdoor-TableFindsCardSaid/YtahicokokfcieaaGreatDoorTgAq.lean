/- Several texts in one. -/
import Derived.Test.YtahicokokfcieaaGreatDoorTgAp
import Derived.Test.YtahicokokfcieaaGreatDoorTgAd
namespace Go.Proofs.YtahicokokfcieaaGreatDoor
open Go.RowKit
open Go.Proofs
set_option linter.unusedVariables false
attribute [local go_sem] Oper.semAt_some
theorem elemInts : Elem Tryz.prog 34 3 1 8 := Elem.mk' (z := .int .i64 0) Tryz.underlying34 (by kernel_rfl) rfl (by decide) (by decide)
/-- What the document's walk over nodes has made. -/
structure RNs (V : World) (X : Nat) (cs : Array Value) (met : List Nat) (pre : List Nd) (v6 v7 : Value) (W : World) : Prop where
  bx : W.heap[X]? = some (.cells cs 25 (0, 0))
  r6 : W.ownsRow V.heap.size 50 4 v6 pre.length (ndcells pre)
  r7 : W.ownsRow V.heap.size 3 1 v7 met.length (ncells met)
  below : Below V.heap.size V W
structure RNc (V : World) (X : Nat) (cs : Array Value) where
  w : World
  bx : w.heap[X]? = some (.cells cs 25 (0, 0))
  below : Below V.heap.size V w
section
variable {V W W' : World} {X : Nat} {cs : Array Value} {met : List Nat} {pre : List Nd} {v6 v7 v : Value}
theorem RNs.grow (h : RNs V X cs met pre v6 v7 W) (hb : Below W.heap.size W W') : RNs V X cs met pre v6 v7 W' :=
  ⟨keep_laid h.bx hb, own_grow h.r6 hb, own_grow h.r7 hb, h.below.trans (hb.mono h.below.size)⟩
theorem RNs.cls (h : RNs V X cs met pre v6 v7 W) : ∃ z : RNc V X cs, W = z.w := ⟨⟨W, h.bx, h.below⟩, rfl⟩
theorem own_ne {e e' : TypeId} {size base n : Nat} {xs : List Value} {cur : Array Value} (h : W.ownsRow base e size v n xs) (hX : W.heap[X]? = some (.cells cur e' (0, 0))) (hne : e ≠ e') : v.ownBlock ≠ some X := by
  intro hk
  obtain ⟨c, hc⟩ := own_type h X hk
  exact type_ne hc hX hne rfl
theorem own_own {e e' : TypeId} {size size' base base' n n' : Nat} {xs xs' : List Value} {u : Value} (h : W.ownsRow base e size v n xs) (h' : W.ownsRow base' e' size' u n' xs') (hne : e ≠ e') (hg : W.grownBy W' v.ownBlock) : W'.ownsRow base' e' size' u n' xs' := by
  refine own_keep h' fun k o hk ho => keep_grown ho hg fun hv => ?_
  obtain ⟨c, hc⟩ := own_type h k hv
  obtain ⟨c', hc'⟩ := own_type h' k hk
  exact type_ne hc hc' hne rfl
theorem RNs.app7 {q : Nat} {v7' : Value} (h : RNs V X cs met pre v6 v7 W) (ho : W'.ownsRow V.heap.size 3 1 v7' (met.length + 1) (ncells met ++ [.int .i64 ((q : Nat) : Int)])) (hg : W.grownBy W' v7.ownBlock) : RNs V X cs (met ++ [q]) pre v6 v7' W' := by
  refine ⟨keep_grown h.bx hg (own_ne h.r7 h.bx (by decide)), own_own h.r7 h.r6 (by decide) hg, ?_, h.below.trans (own_below h.r7 hg h.below.size)⟩
  rw [List.length_append, ncells_app]
  exact ho
theorem RNs.app6 {t : Nd} {v6' : Value} (h : RNs V X cs met pre v6 v7 W) (ho : W'.ownsRow V.heap.size 50 4 v6' (pre.length + 1) (ndcells pre ++ nd4 t)) (hg : W.grownBy W' v6.ownBlock) : RNs V X cs met (pre ++ [t]) v6' v7 W' := by
  refine ⟨keep_grown h.bx hg (own_ne h.r6 h.bx (by decide)), ?_, own_own h.r6 h.r7 (by decide) hg, h.below.trans (own_below h.r6 hg h.below.size)⟩
  rw [List.length_append, ndcells_snoc]
  exact ho
end
def GivesRN (M : Mem) (head : Nat) (V : World) (e : Ending) (W : World) : Prop := ∃ v b, e = .returned (.tuple #[v, .bool b]) ∧ Below V.heap.size V W ∧ (nodesR M head = none → b = false ∧ v = .slice none 0 0) ∧ (∀ xs, nodesR M head = some xs → b = true ∧ W.ownsRow V.heap.size 50 4 v xs.length (ndcells xs))
def endR : Option (List Nd) → Option (List Nd)
  | none => none
  | some xs => if incr xs = true then some xs else none
theorem nodesR_eq (M : Mem) (head : Nat) : nodesR M head = endR (nodesW M head) := by unfold nodesR endR; rfl
theorem endR_bad {M : Mem} {f place : Nat} {met : List Nat} {out : List Nd} (h : incr out = false) : endR (goW M f place met out) = none := by
  cases hg : goW M f place met out with
  | none => rfl
  | some xs =>
    show (if incr xs = true then some xs else none) = none
    have hp := goW_prefix _ _ _ _ _ hg
    cases hi : incr xs with
    | false => rfl
    | true => rw [incr_prefix hp hi] at h; cases h
set_option maxRecDepth 100000 in
set_option maxHeartbeats 8000000 in
theorem rNodes_any (M : Mem) (wa la : Option Addr) (wc lc head : Nat) (V : World) (h : MemL V wa wc la lc M) (hok : okM M = true) (hh : head < 18446744073709551616) (hW : ∀ x ∈ M.W, x < 18446744073709551616) :
    Calls Tryz.prog 34 #[memV wa wc la lc M, .int .u64 ((head : Nat) : Int)] V (GivesRN M head V) := by
  obtain ⟨hn1, hn4, hmn, -⟩ := okM_spec hok
  obtain ⟨V1, hV1, hb1, hs1, hl1⟩ := laid V #[.slice wa M.W.length wc, .slice la M.L.length lc, .bool M.F] 25
  obtain ⟨X, hX⟩ : ∃ X, V.heap.size = X := ⟨_, rfl⟩
  rw [hX] at hl1
  have HM := hid h
  have HLI := hid (fun (q : Nat) (W : World) (hb : Below V.heap.size V W) (hq : q ≤ 1000000) => rlive_any M wa la wc lc q W (h.grow hb) hmn hq)
  have hwl := h.w.len
  have hll := h.l.len
  obtain ⟨n, hn⟩ : ∃ n, M.W.length = n := ⟨_, rfl⟩
  have hm : M.L.length = n := hmn.trans hn
  obtain ⟨F, hF⟩ : ∃ n, M.F = n := ⟨_, rfl⟩
  unfold memV at HLI ⊢
  rw [hn, hm, hF] at hV1 hl1 HLI
  rw [hn] at hn1 hn4 hwl
  rw [hm] at hll
  rw [hn, hm, hF]
  have HN := hid hn
  have HMM := hid hm
  have HW := hid hW
  obtain ⟨bw, ow, rfl⟩ : ∃ b o, wa = some ⟨b, o, none⟩ := by
    obtain ⟨_, _, ⟨q, _⟩ | ⟨b', o', q, _⟩⟩ := h.w
    · omega
    · exact ⟨b', o', q⟩
  have HRN1 : Hid (RNs V X #[.slice (some ⟨bw, ow, none⟩) n wc, .slice la n lc, .bool F] [] [] (.slice none 0 0) (.slice none 0 0) V1) := hid ⟨hl1, World.ownsRow_nil _ _ _ _, World.ownsRow_nil _ _ _ _, hb1⟩
  have HAT := hid (fun (p k : Nat) (W : World) (hp : p < 18446744073709551616) (hk : k ≤ 1000) => rat_any p k W hp hk)
  have HWD : Hid (∀ p k, liveN M (posL p k) = true → posL p k < n ∧ ∀ w', Below V.heap.size V w' → w'.cell? ⟨bw, ow + posL p k, none⟩ = some (.int .u64 ((wAt M p k : Nat) : Int))) := hid (fun p k hl => by
    have hw := w_ex hn hm hl
    have hlt := (List.getElem?_eq_some_iff.1 hw).1
    obtain ⟨b, off, e, -, hc⟩ := h.w.at hlt (wcell_at hw)
    cases e
    exact ⟨by rw [← hn]; exact hlt, hc⟩)
  haveI : Nonempty (RNc V X #[.slice (some ⟨bw, ow, none⟩) n wc, .slice la n lc, .bool F]) := HRN1.out.cls.elim fun z _ => ⟨z⟩
  have r0 : ∀ z : RNc V X #[.slice (some ⟨bw, ow, none⟩) n wc, .slice la n lc, .bool F], z.w.cell? ⟨X, 0, none⟩ = some (.slice (some ⟨bw, ow, none⟩) n wc) := fun z => cell_laid z.bx rfl
  have r1 : ∀ z : RNc V X #[.slice (some ⟨bw, ow, none⟩) n wc, .slice la n lc, .bool F], z.w.cell? ⟨X, 1, none⟩ = some (.slice la n lc) := fun z => cell_laid z.bx rfl
  have r2 : ∀ z : RNc V X #[.slice (some ⟨bw, ow, none⟩) n wc, .slice la n lc, .bool F], z.w.cell? ⟨X, 2, none⟩ = some (.bool F) := fun z => cell_laid z.bx rfl
  clear h hok hn hm hF hmn hb1 hs1 hl1 hW
  obtain ⟨RES, hRES⟩ : ∃ R, nodesR M head = R := ⟨_, rfl⟩
  have HGW : Hid (∀ v b W, Below V.heap.size V W → (RES = none → b = false ∧ v = .slice none 0 0) → (∀ xs, RES = some xs → b = true ∧ W.ownsRow V.heap.size 50 4 v xs.length (ndcells xs)) → GivesRN M head V (.returned (.tuple #[v, .bool b])) W) := hid (fun v b W h1 h2 h3 => ⟨v, b, rfl, h1, by rw [hRES]; exact h2, by rw [hRES]; exact h3⟩)
  have HNONE : Hid (∀ W, Below V.heap.size V W → RES = none → GivesRN M head V (.returned (.tuple #[.slice none 0 0, .bool false])) W) := hid (fun W hb e => HGW.out _ _ W hb (fun _ => ⟨rfl, rfl⟩) (fun xs h => by rw [e] at h; cases h))
  obtain ⟨P0, hP0⟩ : ∃ P, posL head 0 = P := ⟨_, rfl⟩
  have HP0 := hid hP0
  have hp04 : P0 ≤ 4096 := by rw [← hP0]; unfold posL; omega
  obtain ⟨L0, hL0⟩ : ∃ b, liveN M P0 = b := ⟨_, rfl⟩
  have HL0 := hid hL0
  have hRES0 : L0 = false → RES = none := fun e => by
    rw [← hRES]
    unfold nodesR
    rw [nodesW_none (by unfold takeP freeB; rw [hP0, hL0, e]; rfl)]
  have hRES1 : L0 = true → endR (goW M 4101 (wAt M head 0) [P0] []) = RES := fun e => by
    rw [← hRES, nodesR_eq]
    rw [nodesW_some (m0 := [P0]) (by unfold takeP freeB; rw [hP0, hL0, e, if_pos (by simp)]; rfl)]
  have HRES0 := hid hRES0
  have HRES1 := hid hRES1
  clear hRES hP0 hL0 hRES0 hRES1
  go_enter Tryz.func34, Tryz.ntmps34
  go_upto_region 1 with (fail)
  have HX := hid hX
  clear hX
  have HRD := hid (HRN1.out.grow (Below.refl _ _).drew)
  obtain ⟨D, hD⟩ : ∃ DX, (V1).drew = DX := ⟨_, rfl⟩
  rw [hD] at HRD
  have HD := hid hD
  clear hD
  refine wp_region_mix2 (fun W => ∃ z : RNc V X #[.slice (some ⟨bw, ow, none⟩) n wc, .slice la n lc, .bool F], W = z.w) 5 (.q 0 (.q 1 (.h 2 (.h 3 (.q 4 .done))))) (by kernel_rfl) (by kernel_rfl) (by rw [HD.out]; exact HRD.out.cls) ?_
  rw [HD.out]
  repeat (refine wpMix2_q rfl rfl ?_; go_big_quiet_step (fail); refine wpQuiet_nil ?_)
  refine wpMix2_h rfl fun R' hR' hO => ?_
  go_wp2_with fail
  refine (HAT.out head 0 D hh (by decide)).mono ?_
  rintro e wq ⟨rfl, hwq⟩
  rw [hwq]
  clear hwq wq
  rw [HP0.out]
  go_wp2
  refine hR' _ _ HRD.out.cls ?_
  clear hR' hO R'
  refine wpMix2_h rfl fun R' hR' hO => ?_
  go_wp2_with fail
  refine (HLI.out P0 D HRD.out.below (by omega)).mono ?_
  rw [HL0.out]
  rintro e w3 ⟨rfl, hb3⟩
  have HR3 := hid (HRD.out.grow hb3)
  clear hb3
  go_wp2
  refine hR' _ _ HR3.out.cls ?_
  clear hR' hO R'
  repeat (refine wpMix2_q rfl rfl ?_; go_big_quiet_step (fail); refine wpQuiet_nil ?_)
  refine wpMix2_done ?_
  simp only [List.drop_succ_cons, List.drop_nil]
  have HD1 := HD
  clear HD HRD
  cases L0 with
  | false =>
    go_wp2
    go_ret2
    exact HNONE.out _ HR3.out.below (HRES0.out (by simp))
  | true =>
    have HRES := hid (HRES1.out (by simp))
    obtain ⟨hP0n, hc0⟩ := HWD.out head 0 (by rw [HP0.out]; exact HL0.out)
    rw [HP0.out] at hP0n hc0
    obtain ⟨A0, hA0⟩ : ∃ P, wAt M head 0 = P := ⟨_, rfl⟩
    rw [hA0] at hc0 HRES
    have hA0l : A0 < 18446744073709551616 := by rw [← hA0]; exact wAt_lt HW.out _ _
    have q0 : ∀ z : RNc V X #[.slice (some ⟨bw, ow, none⟩) n wc, .slice la n lc, .bool F], z.w.cell? ⟨bw, ow + P0, none⟩ = some (.int .u64 ((A0 : Nat) : Int)) := fun z => hc0 z.w z.below
    clear hA0 hc0 HRES0 HRES1
    go_wp2_with fail
    refine (HAT.out head 0 w3 hh (by decide)).mono ?_
    rintro e wq ⟨rfl, hwq⟩
    rw [hwq]
    clear hwq wq
    rw [HP0.out]
    obtain ⟨w5, hw5, hb5, hs5, hl5⟩ := laid w3 #[.int .i64 ((P0 : Nat) : Int)] 3
    obtain ⟨Y, hY⟩ : ∃ Y, w3.heap.size = Y := ⟨_, rfl⟩
    rw [hY] at hl5
    have HR5 : Hid (RNs V X #[.slice (some ⟨bw, ow, none⟩) n wc, .slice la n lc, .bool F] [P0] [] (.slice none 0 0) (.slice (some ⟨Y, 0, none⟩) 1 1) w5) := hid ⟨keep_laid HR3.out.bx hb5, World.ownsRow_nil _ _ _ _, row_new hl5 rfl (by decide) (by rw [← hY]; exact HR3.out.below.size), HR3.out.below.trans (hb5.mono HR3.out.below.size)⟩
    clear hb5 hs5 hl5
    go_upto_region 5 with (fail)
    have HRD := hid (HR5.out.grow (Below.refl _ _).drew)
    obtain ⟨D, hD⟩ : ∃ DX, (w5).drew = DX := ⟨_, rfl⟩
    rw [hD] at HRD
    have HD := hid hD
    clear hD
    refine wp_region_mix2 (fun W => ∃ z : RNc V X #[.slice (some ⟨bw, ow, none⟩) n wc, .slice la n lc, .bool F], W = z.w) 7 (.q 0 (.q 1 (.q 2 (.h 3 (.q 4 (.q 5 (.q 6 .done))))))) (by kernel_rfl) (by kernel_rfl) (by rw [HD.out]; exact HRD.out.cls) ?_
    rw [HD.out]
    repeat (refine wpMix2_q rfl rfl ?_; go_big_quiet_step (fail); refine wpQuiet_nil ?_)
    refine wpMix2_h rfl fun R' hR' hO => ?_
    go_wp2_with fail
    refine (HAT.out head 0 D hh (by decide)).mono ?_
    rintro e wq ⟨rfl, hwq⟩
    rw [hwq]
    clear hwq wq
    rw [HP0.out]
    go_wp2
    refine hR' _ _ HRD.out.cls ?_
    clear hR' hO R'
    repeat (refine wpMix2_q rfl rfl ?_; go_big_quiet_step (fail); refine wpQuiet_nil ?_)
    refine wpMix2_done ?_
    simp only [List.drop_succ_cons, List.drop_nil]
    clear HR3 HR5 HD1
    go_wp2
    go_loopg [6, 7, 8] 4101 (fun f t6 t7 t8 wr => ∃ (place : Nat) (met : List Nat) (pre : List Nd) (v6 v7 : Value), t6 = v6 ∧ t7 = v7 ∧ t8 = .int .u64 ((place : Nat) : Int) ∧ place < 18446744073709551616 ∧ Hid (RNs V X #[.slice (some ⟨bw, ow, none⟩) n wc, .slice la n lc, .bool F] met pre v6 v7 wr) ∧ Hid (endR (goW M f place met pre) = RES) ∧ Hid (met.Nodup ∧ ∀ x ∈ met, x < n) ∧ Hid (4101 ≤ f + met.length) ∧ Hid (4 * pre.length + 1 ≤ met.length) ∧ Hid (incr pre = true))
    case atStart => exact ⟨A0, [P0], [], _, _, rfl, rfl, rfl, hA0l, HRD, HRES, hid ⟨by simp, by simp; exact hP0n⟩, hid (by simp), hid (by simp), hid rfl⟩
    case round =>
      clear q0 HRES HRD HD
      obtain ⟨place, met, pre, v6, v7, rfl, rfl, rfl, hpl, hR, hRE, hmet, hf, hpre, hinc⟩ := hrel
      have hlen := nodup_lt hmet.out.1 hmet.out.2
      obtain ⟨f1, hf1⟩ : ∃ f1, gk = f1 + 1 := ⟨gk - 1, by have := hf.out; omega⟩
      have HF1 := hid hf1
      have HLEN := hid hlen
      obtain ⟨a6, c6, e6, -⟩ := Leads.of_own hR.out.r6
      obtain ⟨a7, c7, e7, -⟩ := Leads.of_own hR.out.r7
      obtain ⟨n6, hn6⟩ : ∃ k, pre.length = k := ⟨_, rfl⟩
      rw [hn6] at e6
      obtain ⟨n7, hn7⟩ : ∃ k, met.length = k := ⟨_, rfl⟩
      rw [hn7] at e7
      have HN6 := hid hn6
      have HN7 := hid hn7
      subst e6
      subst e7
      clear hf1 hlen hn6 hn7
      by_cases h0 : place = 0
      · subst h0
        have HR3 : Hid (some pre = RES) := hid (by rw [← hRE.out, HF1.out, goW_zero]; show some pre = (if incr pre = true then some pre else none); rw [if_pos hinc.out])
        go_wp2
        go_ret2
        refine HGW.out _ _ _ hR.out.below ?_ ?_
        · intro hx; rw [← HR3.out] at hx; cases hx
        · intro xs hx
          rw [← HR3.out] at hx
          cases hx
          exact ⟨rfl, hR.out.r6⟩
      · have t0 : (((place : Nat) : Int) != 0) = true := by simp; omega
        have HP0n := hid h0
        obtain ⟨RT, hRT⟩ : ∃ R, takeP M place (List.range 4) met = R := ⟨_, rfl⟩
        have HRT := hid hRT
        have HRT4 : Hid (takeP M place (List.range' 0 4) met = RT) := hid (by rw [← List.range_eq_range']; exact hRT)
        have HNN : Hid (∀ W : World, Below V.heap.size V W → RT = none → GivesRN M head V (.returned (.tuple #[.slice none 0 0, .bool false])) W) := hid (fun W hb e => HNONE.out W hb (by rw [← hRE.out, HF1.out, goW_none h0 (hRT.trans e)]; rfl))
        clear h0 hRT
        obtain ⟨G, hG⟩ : ∃ G, G = gk - 1 := ⟨_, rfl⟩
        have HG := hid hG
        clear hG
        go_wp2
        go_loopg [28, 7] 4 (fun g t28 t7 wr => ∃ (k : Nat) (met2 : List Nat) (v7 : Value), g + k = 4 ∧ t28 = .int .i64 ((k : Nat) : Int) ∧ t7 = v7 ∧ Hid (RNs V X #[.slice (some ⟨bw, ow, none⟩) n wc, .slice la n lc, .bool F] met2 pre (.slice a6 n6 c6) v7 wr) ∧ Hid (takeP M place (List.range' k g) met2 = RT) ∧ Hid (met2.length = met.length + k))
        case atStart => exact ⟨0, met, _, rfl, rfl, rfl, hR, HRT4, hid rfl⟩
        case round =>
          obtain ⟨k, met2, v7, hk, rfl, rfl, hR2, hTK, hml⟩ := hrel
          obtain ⟨b7, d7, e7, -⟩ := Leads.of_own hR2.out.r7
          obtain ⟨m7, hm7⟩ : ∃ k, met2.length = k := ⟨_, rfl⟩
          rw [hm7] at e7
          have HM7 := hid hm7
          subst e7
          have hm75 : m7 ≤ 5000 := by have := hml.out; have := HLEN.out; omega
          have HK := hid hk
          clear hm7 hk
          by_cases hlt : k < 4
          · obtain ⟨g1, hg1⟩ : ∃ g1, gk = g1 + 1 := ⟨gk - 1, by have := HK.out; omega⟩
            have hT2 := hTK.out
            rw [hg1, List.range'_succ] at hT2
            unfold takeP at hT2
            have HG1 := hid hg1
            obtain ⟨P, hP⟩ : ∃ P, posL place k = P := ⟨_, rfl⟩
            have HPP := hid hP
            have hp46 : P ≤ 1000000 := by rw [← hP]; unfold posL; omega
            rw [hP] at hT2
            have HT2 := hid hT2
            clear hT2 hg1 hTK hP
            obtain ⟨L, hL⟩ : ∃ b, liveN M P = b := ⟨_, rfl⟩
            obtain ⟨B, hB⟩ : ∃ b, decide (P ∈ met2) = b := ⟨_, rfl⟩
            have HL := hid hL
            have HBB := hid hB
            have HHA := hid (fun W (hr : RNs V X #[.slice (some ⟨bw, ow, none⟩) n wc, .slice la n lc, .bool F] met2 pre (.slice a6 n6 c6) (.slice b7 m7 d7) W) => has_any met2 b7 m7 d7 P W (by have := Leads.of_own hr.r7; obtain ⟨a', c', e, hl⟩ := this; cases e; rw [HM7.out] at hl; exact hl) HM7.out)
            rw [hB] at HHA
            have HBAD : Hid ((L && !B) = false → RT = none) := hid (fun e => by have := HT2.out; unfold freeB at this; rw [hL, hB, if_neg (by rw [e]; decide)] at this; exact this.symm)
            have HGOOD : Hid ((L && !B) = true → takeP M place (List.range' (k + 1) g1) (met2 ++ [P]) = RT) := hid (fun e => by have := HT2.out; unfold freeB at this; rw [hL, hB, if_pos e] at this; exact this)
            clear hL hB HT2
            go_upto_region 10 with (fail)
            have HRD := hid (hR2.out.grow (Below.refl _ _).drew)
            obtain ⟨D, hD⟩ : ∃ DX, (wr).drew = DX := ⟨_, rfl⟩
            rw [hD] at HRD
            have HD := hid hD
            clear hD
            refine wp_region_mix2 (fun W => ∃ z : RNc V X #[.slice (some ⟨bw, ow, none⟩) n wc, .slice la n lc, .bool F], W = z.w) 13 (.q 0 (.q 1 (.q 2 (.h 3 (.h 4 (.q 5 (.q 6 (.q 7 (.q 8 (.q 9 (.h 10 (.h 11 (.q 12 .done))))))))))))) (by kernel_rfl) (by kernel_rfl) (by rw [HD.out]; exact HRD.out.cls) ?_
            rw [HD.out]
            repeat (refine wpMix2_q rfl rfl ?_; go_big_quiet_step (fail); refine wpQuiet_nil ?_)
            refine wpMix2_h rfl fun R' hR' hO => ?_
            go_wp2_with fail
            refine (HAT.out place k D hpl (by omega)).mono ?_
            rintro e wq ⟨rfl, hwq⟩
            rw [hwq]
            clear hwq wq
            rw [HPP.out]
            go_wp2
            refine hR' _ _ HRD.out.cls ?_
            clear hR' hO R'
            refine wpMix2_h rfl fun R' hR' hO => ?_
            go_wp2_with fail
            refine (HLI.out P D HRD.out.below (by omega)).mono ?_
            rw [HL.out]
            rintro e w3 ⟨rfl, hb3⟩
            have HR3 := hid (HRD.out.grow hb3)
            clear hb3
            go_wp2
            refine hR' _ _ HR3.out.cls ?_
            clear hR' hO R'
            cases L with
            | false =>
              repeat (refine wpMix2_q rfl rfl ?_; go_big_quiet_step (fail); refine wpQuiet_nil ?_)
              refine wpMix2_h rfl fun R' hR' hO => ?_
              go_wp2
              refine hR' _ _ HR3.out.cls ?_
              clear hR' hO R'
              refine wpMix2_h rfl fun R' hR' hO => ?_
              go_wp2
              refine hR' _ _ HR3.out.cls ?_
              clear hR' hO R'
              repeat (refine wpMix2_q rfl rfl ?_; go_big_quiet_step (fail); refine wpQuiet_nil ?_)
              refine wpMix2_done ?_
              simp only [List.drop_succ_cons, List.drop_nil]
              go_wp2
              go_ret2
              exact HNN.out _ HR3.out.below (HBAD.out (by simp))
            | true =>
              repeat (refine wpMix2_q rfl rfl ?_; go_big_quiet_step (fail); refine wpQuiet_nil ?_)
              refine wpMix2_h rfl fun R' hR' hO => ?_
              go_wp2_with fail
              refine (HAT.out place k w3 hpl (by omega)).mono ?_
              rintro e wq ⟨rfl, hwq⟩
              rw [hwq]
              clear hwq wq
              rw [HPP.out]
              go_wp2
              refine hR' _ _ HR3.out.cls ?_
              clear hR' hO R'
              refine wpMix2_h rfl fun R' hR' hO => ?_
              go_wp2_with fail
              refine (HHA.out w3 HR3.out).mono ?_
              rintro e w4 ⟨rfl, hw4⟩
              rw [hw4]
              clear hw4 w4
              go_wp2
              refine hR' _ _ HR3.out.cls ?_
              clear hR' hO R'
              repeat (refine wpMix2_q rfl rfl ?_; go_big_quiet_step (fail); refine wpQuiet_nil ?_)
              refine wpMix2_done ?_
              simp only [List.drop_succ_cons, List.drop_nil]
              cases B with
              | true =>
                go_wp2
                go_ret2
                exact HNN.out _ HR3.out.below (HBAD.out (by simp))
              | false =>
                have HRN := hid (HGOOD.out (by simp))
                clear HGOOD HBAD
                go_wp2_with fail
                refine (HAT.out place k w3 hpl (by omega)).mono ?_
                rintro e wq ⟨rfl, hwq⟩
                rw [hwq]
                clear hwq wq
                rw [HPP.out]
                obtain ⟨w5, hw5, hb5, hs5, hl5⟩ := laid w3 #[.int .i64 ((P : Nat) : Int)] 3
                obtain ⟨Y, hY⟩ : ∃ Y, w3.heap.size = Y := ⟨_, rfl⟩
                rw [hY] at hl5
                have HL5 := hid hl5
                have HR5 := hid (HR3.out.grow hb5)
                have HOW7 : Hid (w5.ownsRow V.heap.size 3 1 (.slice b7 m7 d7) m7 (ncells met2)) := hid (by have := HR5.out.r7; rw [HM7.out] at this; exact this)
                clear hb5 hs5 hl5
                go_wp2_with ((with_reducible show wpList _ _ _ _ _ _); refine wp_appendM elemInts rfl (.tmp 44) (.tmp 48) rfl V.heap.size (.slice b7 m7 d7) m7 (ncells met2) rfl HOW7.out ⟨Y, 0, none⟩ 1 1 [.int .i64 ((P : Nat) : Int)] rfl rfl ?c1 ?c2 ?c3 ?c4 ?c5)
                case c1 => intro j u hj; refine cell_add (o := 0) (by rw [Nat.zero_add]; exact cell_laid HL5.out (by simpa using hj))
                case c2 => first | (intro u hu; simp at hu; subst hu; rfl) | omega
                try (case c3 => omega)
                try (case c4 => exact HR5.out.below.size)
                case c5 =>
                  intro v7' w6 ho hg hmv
                  have HR6 := hid (HR5.out.app7 (q := P) (v7' := v7') (by rw [HM7.out]; exact ho) hg)
                  obtain ⟨x7, y7, e7, -⟩ := Leads.of_own ho
                  subst e7
                  clear ho hg hmv
                  go_wp2
                  go_roundg (gk - 1)
                  case measure => have := HK.out; omega
                  case rel => exact ⟨k + 1, met2 ++ [P], _, by have := HK.out; omega, by go_num, rfl, HR6, hid (by rw [show gk - 1 = g1 by have := HG1.out; omega]; exact HRN.out), hid (by rw [List.length_append, hml.out]; simp; omega)⟩
          · have e4 : k = 4 := by have := HK.out; omega
            have e0 : gk = 0 := by have := HK.out; omega
            subst e4
            have hsome : RT = some met2 := by have := hTK.out; rw [e0] at this; exact this.symm
            have htk := HRT.out.trans hsome
            obtain ⟨s1, s2, s3, s4⟩ := takeP_spec M place _ _ _ htk
            have HMN := hid (show met2.Nodup ∧ ∀ x ∈ met2, x < n from ⟨s2 hmet.out.1, fun x hx => (s4 x hx).elim (fun h => hmet.out.2 x h) (fun h => by have := live_lt h; rwa [HMM.out] at this)⟩)
            obtain ⟨hq0, hcell0⟩ := HWD.out place 0 (s1 0 (by decide))
            obtain ⟨U0, hU0⟩ : ∃ P, posL place 0 = P := ⟨_, rfl⟩
            have HU0 := hid hU0
            rw [hU0] at hq0 hcell0
            obtain ⟨B0, hB0⟩ : ∃ P, wAt M place 0 = P := ⟨_, rfl⟩
            rw [hB0] at hcell0
            have q0 : ∀ z : RNc V X #[.slice (some ⟨bw, ow, none⟩) n wc, .slice la n lc, .bool F], z.w.cell? ⟨bw, ow + U0, none⟩ = some (.int .u64 ((B0 : Nat) : Int)) := fun z => hcell0 z.w z.below
            obtain ⟨hq1, hcell1⟩ := HWD.out place 1 (s1 1 (by decide))
            obtain ⟨U1, hU1⟩ : ∃ P, posL place 1 = P := ⟨_, rfl⟩
            have HU1 := hid hU1
            rw [hU1] at hq1 hcell1
            obtain ⟨B1, hB1⟩ : ∃ P, wAt M place 1 = P := ⟨_, rfl⟩
            rw [hB1] at hcell1
            have q1 : ∀ z : RNc V X #[.slice (some ⟨bw, ow, none⟩) n wc, .slice la n lc, .bool F], z.w.cell? ⟨bw, ow + U1, none⟩ = some (.int .u64 ((B1 : Nat) : Int)) := fun z => hcell1 z.w z.below
            obtain ⟨hq2, hcell2⟩ := HWD.out place 2 (s1 2 (by decide))
            obtain ⟨U2, hU2⟩ : ∃ P, posL place 2 = P := ⟨_, rfl⟩
            have HU2 := hid hU2
            rw [hU2] at hq2 hcell2
            obtain ⟨B2, hB2⟩ : ∃ P, wAt M place 2 = P := ⟨_, rfl⟩
            rw [hB2] at hcell2
            have q2 : ∀ z : RNc V X #[.slice (some ⟨bw, ow, none⟩) n wc, .slice la n lc, .bool F], z.w.cell? ⟨bw, ow + U2, none⟩ = some (.int .u64 ((B2 : Nat) : Int)) := fun z => hcell2 z.w z.below
            obtain ⟨hq3, hcell3⟩ := HWD.out place 3 (s1 3 (by decide))
            obtain ⟨U3, hU3⟩ : ∃ P, posL place 3 = P := ⟨_, rfl⟩
            have HU3 := hid hU3
            rw [hU3] at hq3 hcell3
            obtain ⟨B3, hB3⟩ : ∃ P, wAt M place 3 = P := ⟨_, rfl⟩
            rw [hB3] at hcell3
            have q3 : ∀ z : RNc V X #[.slice (some ⟨bw, ow, none⟩) n wc, .slice la n lc, .bool F], z.w.cell? ⟨bw, ow + U3, none⟩ = some (.int .u64 ((B3 : Nat) : Int)) := fun z => hcell3 z.w z.below
            have hB2l : B2 < 18446744073709551616 := by rw [← hB2]; exact wAt_lt HW.out _ _
            have HRE2 : Hid (endR (goW M f1 B2 met2 (pre ++ [(place, B0, B1, B3)])) = RES) := hid (by rw [← hRE.out, HF1.out, goW_some HP0n.out htk]; unfold ndAt; rw [hB0, hB1, hB2, hB3])
            clear e0 hsome htk s1 s2 s3 s4 hU0 hU1 hU2 hU3 hB0 hB1 hB2 hB3 hcell0 hcell1 hcell2 hcell3 hTK hlt HNN HRT HRT4
            go_upto_region 14 with (fail)
            have HRD := hid (hR2.out.grow (Below.refl _ _).drew)
            obtain ⟨D, hD⟩ : ∃ DX, (wr).drew = DX := ⟨_, rfl⟩
            rw [hD] at HRD
            have HD := hid hD
            clear hD
            go_cut [10] (fun t10 W => ∃ Y : Nat, t10 = .pointer (some ⟨Y, 0, none⟩) ∧ Hid (RNs V X #[.slice (some ⟨bw, ow, none⟩) n wc, .slice la n lc, .bool F] met2 pre (.slice a6 n6 c6) (.slice b7 m7 d7) W ∧ W.heap[Y]? = some (.cells #[.int .u64 ((place : Nat) : Int), .int .u64 ((B0 : Nat) : Int), .int .u64 ((B1 : Nat) : Int), .int .u64 ((B3 : Nat) : Int)] 50 (0, 0))))
            case first =>
              refine wp_region_mix2 (fun W => ∃ z : RNc V X #[.slice (some ⟨bw, ow, none⟩) n wc, .slice la n lc, .bool F], W = z.w) 22 (.q 0 (.q 1 (.q 2 (.q 3 (.q 7 (.q 8 (.q 9 (.q 13 (.q 14 (.q 15 (.h2 4 (.q 5 (.q 6 (.h2 10 (.q 11 (.q 12 (.h2 16 (.q 17 (.q 18 (.q 19 (.h 20 (.h 21 .done))))) 20 (.h 16 (.q 17 (.q 18 (.q 19 (.h 21 .done)))))))) 20 (.h 10 (.q 11 (.q 12 (.h 16 (.q 17 (.q 18 (.q 19 (.h 21 .done))))))))))) 20 (.h 4 (.q 5 (.q 6 (.h 10 (.q 11 (.q 12 (.h 16 (.q 17 (.q 18 (.q 19 (.h 21 .done)))))))))))))))))))))) (by kernel_rfl) (by kernel_rfl) (by rw [HD.out]; exact HRD.out.cls) ?_
              rw [HD.out]
              repeat (refine wpMix2_q rfl rfl ?_; go_big_quiet_step (fail); refine wpQuiet_nil ?_)
              refine wpMix2_h2 ?_ ?_
              · skip
                refine wpMix2_h rfl fun R' hR' hO => ?_
                go_wp2_with fail
                refine (HAT.out place 0 D hpl (by decide)).mono ?_
                rintro e wq ⟨rfl, hwq⟩
                rw [hwq]
                clear hwq wq
                rw [HU0.out]
                go_wp2
                refine hR' _ _ HRD.out.cls ?_
                clear hR' hO R'
                repeat (refine wpMix2_q rfl rfl ?_; go_big_quiet_step (fail); refine wpQuiet_nil ?_)
                refine wpMix2_h2 ?_ ?_
                · skip
                  refine wpMix2_h rfl fun R' hR' hO => ?_
                  go_wp2_with fail
                  refine (HAT.out place 1 D hpl (by decide)).mono ?_
                  rintro e wq ⟨rfl, hwq⟩
                  rw [hwq]
                  clear hwq wq
                  rw [HU1.out]
                  go_wp2
                  refine hR' _ _ HRD.out.cls ?_
                  clear hR' hO R'
                  repeat (refine wpMix2_q rfl rfl ?_; go_big_quiet_step (fail); refine wpQuiet_nil ?_)
                  refine wpMix2_h2 ?_ ?_
                  · skip
                    refine wpMix2_h rfl fun R' hR' hO => ?_
                    go_wp2_with fail
                    refine (HAT.out place 3 D hpl (by decide)).mono ?_
                    rintro e wq ⟨rfl, hwq⟩
                    rw [hwq]
                    clear hwq wq
                    rw [HU3.out]
                    go_wp2
                    refine hR' _ _ HRD.out.cls ?_
                    clear hR' hO R'
                    repeat (refine wpMix2_q rfl rfl ?_; go_big_quiet_step (fail); refine wpQuiet_nil ?_)
                    refine wpMix2_h rfl fun R' hR' hO => ?_
                    obtain ⟨wy, hwy, hby, hsy, hly⟩ := laid D #[.int .u64 0, .int .u64 0, .int .u64 0, .int .u64 0] 50
                    obtain ⟨Y, hY⟩ : ∃ X, D.heap.size = X := ⟨_, rfl⟩
                    rw [hY] at hly
                    have HNY6 : Hid (∀ k, (.slice a6 n6 c6 : Value).ownBlock = some k → k ≠ Y) := hid (fun k hk => by have := own_lt HRD.out.r6 k hk; omega)
                    have HNY7 : Hid (∀ k, (.slice b7 m7 d7 : Value).ownBlock = some k → k ≠ Y) := hid (fun k hk => by have := own_lt HRD.out.r7 k hk; omega)
                    have hXY : X < Y := by have := lt_laid HRD.out.bx; omega
                    have hVY : V.heap.size ≤ Y := by have := HRD.out.below.size; omega
                    have HYB := hid hly
                    have HRY := hid (HRD.out.grow hby)
                    clear hly hsy hby
                    go_wp2
                    refine hR' _ _ HRY.out.cls ?_
                    clear hR' hO R'
                    refine wpMix2_h rfl fun R' hR' hO => ?_
                    obtain ⟨u, hu, a1, a2, a3⟩ := put4 HYB.out (.int .u64 ((place : Nat) : Int)) (.int .u64 ((B0 : Nat) : Int)) (.int .u64 ((B1 : Nat) : Int)) (.int .u64 ((B3 : Nat) : Int))
                    obtain ⟨z0, zf0, z1, zf1, z2, zf2, z3, zf3⟩ := fcl4 HYB.out
                    have HU := hid hu
                    have HRU : Hid (RNs V X #[.slice (some ⟨bw, ow, none⟩) n wc, .slice la n lc, .bool F] met2 pre (.slice a6 n6 c6) (.slice b7 m7 d7) u ∧ u.heap[Y]? = some (.cells #[.int .u64 ((place : Nat) : Int), .int .u64 ((B0 : Nat) : Int), .int .u64 ((B1 : Nat) : Int), .int .u64 ((B3 : Nat) : Int)] 50 (0, 0))) := hid ⟨⟨a2 X _ (by omega) HRY.out.bx, own_keep HRY.out.r6 fun k o hk ho => a2 k o (HNY6.out k hk) ho, own_keep HRY.out.r7 fun k o hk ho => a2 k o (HNY7.out k hk) ho, a3 _ _ hVY HRY.out.below⟩, a1⟩
                    clear hu a1 a2 a3
                    go_wp2
                    rw [← HU.out]
                    refine hR' _ _ HRU.out.1.cls ?_
                    clear hR' hO R' z0 z1 z2 z3 zf0 zf1 zf2 zf3
                    refine wpMix2_done ?_
                    simp only [List.drop_succ_cons, List.drop_nil]
                    go_wp2
                    go_meet
                    exact ⟨Y, rfl, HRU⟩
                  · skip
                    refine wpMix2_h rfl fun R' hR' hO => ?_
                    obtain ⟨wy, hwy, hby, hsy, hly⟩ := laid D #[.int .u64 0, .int .u64 0, .int .u64 0, .int .u64 0] 50
                    obtain ⟨Y, hY⟩ : ∃ X, D.heap.size = X := ⟨_, rfl⟩
                    rw [hY] at hly
                    have HNY6 : Hid (∀ k, (.slice a6 n6 c6 : Value).ownBlock = some k → k ≠ Y) := hid (fun k hk => by have := own_lt HRD.out.r6 k hk; omega)
                    have HNY7 : Hid (∀ k, (.slice b7 m7 d7 : Value).ownBlock = some k → k ≠ Y) := hid (fun k hk => by have := own_lt HRD.out.r7 k hk; omega)
                    have hXY : X < Y := by have := lt_laid HRD.out.bx; omega
                    have hVY : V.heap.size ≤ Y := by have := HRD.out.below.size; omega
                    have HYB := hid hly
                    have HRY := hid (HRD.out.grow hby)
                    clear hly hsy hby
                    go_wp2
                    refine hR' _ _ HRY.out.cls ?_
                    clear hR' hO R'
                    refine wpMix2_h rfl fun R' hR' hO => ?_
                    go_wp2_with fail
                    refine (HAT.out place 3 wy hpl (by decide)).mono ?_
                    rintro e wq ⟨rfl, hwq⟩
                    rw [hwq]
                    clear hwq wq
                    rw [HU3.out]
                    go_wp2
                    refine hR' _ _ HRY.out.cls ?_
                    clear hR' hO R'
                    repeat (refine wpMix2_q rfl rfl ?_; go_big_quiet_step (fail); refine wpQuiet_nil ?_)
                    refine wpMix2_h rfl fun R' hR' hO => ?_
                    obtain ⟨u, hu, a1, a2, a3⟩ := put4 HYB.out (.int .u64 ((place : Nat) : Int)) (.int .u64 ((B0 : Nat) : Int)) (.int .u64 ((B1 : Nat) : Int)) (.int .u64 ((B3 : Nat) : Int))
                    obtain ⟨z0, zf0, z1, zf1, z2, zf2, z3, zf3⟩ := fcl4 HYB.out
                    have HU := hid hu
                    have HRU : Hid (RNs V X #[.slice (some ⟨bw, ow, none⟩) n wc, .slice la n lc, .bool F] met2 pre (.slice a6 n6 c6) (.slice b7 m7 d7) u ∧ u.heap[Y]? = some (.cells #[.int .u64 ((place : Nat) : Int), .int .u64 ((B0 : Nat) : Int), .int .u64 ((B1 : Nat) : Int), .int .u64 ((B3 : Nat) : Int)] 50 (0, 0))) := hid ⟨⟨a2 X _ (by omega) HRY.out.bx, own_keep HRY.out.r6 fun k o hk ho => a2 k o (HNY6.out k hk) ho, own_keep HRY.out.r7 fun k o hk ho => a2 k o (HNY7.out k hk) ho, a3 _ _ hVY HRY.out.below⟩, a1⟩
                    clear hu a1 a2 a3
                    go_wp2
                    rw [← HU.out]
                    refine hR' _ _ HRU.out.1.cls ?_
                    clear hR' hO R' z0 z1 z2 z3 zf0 zf1 zf2 zf3
                    refine wpMix2_done ?_
                    simp only [List.drop_succ_cons, List.drop_nil]
                    go_wp2
                    go_meet
                    exact ⟨Y, rfl, HRU⟩
                · skip
                  refine wpMix2_h rfl fun R' hR' hO => ?_
                  obtain ⟨wy, hwy, hby, hsy, hly⟩ := laid D #[.int .u64 0, .int .u64 0, .int .u64 0, .int .u64 0] 50
                  obtain ⟨Y, hY⟩ : ∃ X, D.heap.size = X := ⟨_, rfl⟩
                  rw [hY] at hly
                  have HNY6 : Hid (∀ k, (.slice a6 n6 c6 : Value).ownBlock = some k → k ≠ Y) := hid (fun k hk => by have := own_lt HRD.out.r6 k hk; omega)
                  have HNY7 : Hid (∀ k, (.slice b7 m7 d7 : Value).ownBlock = some k → k ≠ Y) := hid (fun k hk => by have := own_lt HRD.out.r7 k hk; omega)
                  have hXY : X < Y := by have := lt_laid HRD.out.bx; omega
                  have hVY : V.heap.size ≤ Y := by have := HRD.out.below.size; omega
                  have HYB := hid hly
                  have HRY := hid (HRD.out.grow hby)
                  clear hly hsy hby
                  go_wp2
                  refine hR' _ _ HRY.out.cls ?_
                  clear hR' hO R'
                  refine wpMix2_h rfl fun R' hR' hO => ?_
                  go_wp2_with fail
                  refine (HAT.out place 1 wy hpl (by decide)).mono ?_
                  rintro e wq ⟨rfl, hwq⟩
                  rw [hwq]
                  clear hwq wq
                  rw [HU1.out]
                  go_wp2
                  refine hR' _ _ HRY.out.cls ?_
                  clear hR' hO R'
                  repeat (refine wpMix2_q rfl rfl ?_; go_big_quiet_step (fail); refine wpQuiet_nil ?_)
                  refine wpMix2_h rfl fun R' hR' hO => ?_
                  go_wp2_with fail
                  refine (HAT.out place 3 wy hpl (by decide)).mono ?_
                  rintro e wq ⟨rfl, hwq⟩
                  rw [hwq]
                  clear hwq wq
                  rw [HU3.out]
                  go_wp2
                  refine hR' _ _ HRY.out.cls ?_
                  clear hR' hO R'
                  repeat (refine wpMix2_q rfl rfl ?_; go_big_quiet_step (fail); refine wpQuiet_nil ?_)
                  refine wpMix2_h rfl fun R' hR' hO => ?_
                  obtain ⟨u, hu, a1, a2, a3⟩ := put4 HYB.out (.int .u64 ((place : Nat) : Int)) (.int .u64 ((B0 : Nat) : Int)) (.int .u64 ((B1 : Nat) : Int)) (.int .u64 ((B3 : Nat) : Int))
                  obtain ⟨z0, zf0, z1, zf1, z2, zf2, z3, zf3⟩ := fcl4 HYB.out
                  have HU := hid hu
                  have HRU : Hid (RNs V X #[.slice (some ⟨bw, ow, none⟩) n wc, .slice la n lc, .bool F] met2 pre (.slice a6 n6 c6) (.slice b7 m7 d7) u ∧ u.heap[Y]? = some (.cells #[.int .u64 ((place : Nat) : Int), .int .u64 ((B0 : Nat) : Int), .int .u64 ((B1 : Nat) : Int), .int .u64 ((B3 : Nat) : Int)] 50 (0, 0))) := hid ⟨⟨a2 X _ (by omega) HRY.out.bx, own_keep HRY.out.r6 fun k o hk ho => a2 k o (HNY6.out k hk) ho, own_keep HRY.out.r7 fun k o hk ho => a2 k o (HNY7.out k hk) ho, a3 _ _ hVY HRY.out.below⟩, a1⟩
                  clear hu a1 a2 a3
                  go_wp2
                  rw [← HU.out]
                  refine hR' _ _ HRU.out.1.cls ?_
                  clear hR' hO R' z0 z1 z2 z3 zf0 zf1 zf2 zf3
                  refine wpMix2_done ?_
                  simp only [List.drop_succ_cons, List.drop_nil]
                  go_wp2
                  go_meet
                  exact ⟨Y, rfl, HRU⟩
              · skip
                refine wpMix2_h rfl fun R' hR' hO => ?_
                obtain ⟨wy, hwy, hby, hsy, hly⟩ := laid D #[.int .u64 0, .int .u64 0, .int .u64 0, .int .u64 0] 50
                obtain ⟨Y, hY⟩ : ∃ X, D.heap.size = X := ⟨_, rfl⟩
                rw [hY] at hly
                have HNY6 : Hid (∀ k, (.slice a6 n6 c6 : Value).ownBlock = some k → k ≠ Y) := hid (fun k hk => by have := own_lt HRD.out.r6 k hk; omega)
                have HNY7 : Hid (∀ k, (.slice b7 m7 d7 : Value).ownBlock = some k → k ≠ Y) := hid (fun k hk => by have := own_lt HRD.out.r7 k hk; omega)
                have hXY : X < Y := by have := lt_laid HRD.out.bx; omega
                have hVY : V.heap.size ≤ Y := by have := HRD.out.below.size; omega
                have HYB := hid hly
                have HRY := hid (HRD.out.grow hby)
                clear hly hsy hby
                go_wp2
                refine hR' _ _ HRY.out.cls ?_
                clear hR' hO R'
                refine wpMix2_h rfl fun R' hR' hO => ?_
                go_wp2_with fail
                refine (HAT.out place 0 wy hpl (by decide)).mono ?_
                rintro e wq ⟨rfl, hwq⟩
                rw [hwq]
                clear hwq wq
                rw [HU0.out]
                go_wp2
                refine hR' _ _ HRY.out.cls ?_
                clear hR' hO R'
                repeat (refine wpMix2_q rfl rfl ?_; go_big_quiet_step (fail); refine wpQuiet_nil ?_)
                refine wpMix2_h rfl fun R' hR' hO => ?_
                go_wp2_with fail
                refine (HAT.out place 1 wy hpl (by decide)).mono ?_
                rintro e wq ⟨rfl, hwq⟩
                rw [hwq]
                clear hwq wq
                rw [HU1.out]
                go_wp2
                refine hR' _ _ HRY.out.cls ?_
                clear hR' hO R'
                repeat (refine wpMix2_q rfl rfl ?_; go_big_quiet_step (fail); refine wpQuiet_nil ?_)
                refine wpMix2_h rfl fun R' hR' hO => ?_
                go_wp2_with fail
                refine (HAT.out place 3 wy hpl (by decide)).mono ?_
                rintro e wq ⟨rfl, hwq⟩
                rw [hwq]
                clear hwq wq
                rw [HU3.out]
                go_wp2
                refine hR' _ _ HRY.out.cls ?_
                clear hR' hO R'
                repeat (refine wpMix2_q rfl rfl ?_; go_big_quiet_step (fail); refine wpQuiet_nil ?_)
                refine wpMix2_h rfl fun R' hR' hO => ?_
                obtain ⟨u, hu, a1, a2, a3⟩ := put4 HYB.out (.int .u64 ((place : Nat) : Int)) (.int .u64 ((B0 : Nat) : Int)) (.int .u64 ((B1 : Nat) : Int)) (.int .u64 ((B3 : Nat) : Int))
                obtain ⟨z0, zf0, z1, zf1, z2, zf2, z3, zf3⟩ := fcl4 HYB.out
                have HU := hid hu
                have HRU : Hid (RNs V X #[.slice (some ⟨bw, ow, none⟩) n wc, .slice la n lc, .bool F] met2 pre (.slice a6 n6 c6) (.slice b7 m7 d7) u ∧ u.heap[Y]? = some (.cells #[.int .u64 ((place : Nat) : Int), .int .u64 ((B0 : Nat) : Int), .int .u64 ((B1 : Nat) : Int), .int .u64 ((B3 : Nat) : Int)] 50 (0, 0))) := hid ⟨⟨a2 X _ (by omega) HRY.out.bx, own_keep HRY.out.r6 fun k o hk ho => a2 k o (HNY6.out k hk) ho, own_keep HRY.out.r7 fun k o hk ho => a2 k o (HNY7.out k hk) ho, a3 _ _ hVY HRY.out.below⟩, a1⟩
                clear hu a1 a2 a3
                go_wp2
                rw [← HU.out]
                refine hR' _ _ HRU.out.1.cls ?_
                clear hR' hO R' z0 z1 z2 z3 zf0 zf1 zf2 zf3
                refine wpMix2_done ?_
                simp only [List.drop_succ_cons, List.drop_nil]
                go_wp2
                go_meet
                exact ⟨Y, rfl, HRU⟩
            case rest =>
              obtain ⟨Y, rfl, hcc⟩ := hcut
              obtain ⟨w4, hw4⟩ : ∃ W, W = wc := ⟨_, rfl⟩
              subst hw4
              have HR4 := hid hcc.out.1
              have HY4 := hid hcc.out.2
              clear hcc HRD HD hR2 q0 q1 q3
              obtain ⟨j0, hj0⟩ : ∃ b, incr (pre ++ [(place, B0, B1, B3)]) = b := ⟨_, rfl⟩
              have HINC := hid hj0
              clear hj0
              have y1 : ∀ z : Ext w4, z.v.cell? ⟨Y, 1, none⟩ = some (.int .u64 ((B0 : Nat) : Int)) := fun z => cell_laid (keep_laid HY4.out z.b) rfl
              have y3 : ∀ z : Ext w4, z.v.cell? ⟨Y, 3, none⟩ = some (.int .u64 ((B3 : Nat) : Int)) := fun z => cell_laid (keep_laid HY4.out z.b) rfl
              have hn65 : n6 ≤ 5000 := by have := hpre.out; have := HLEN.out; have := HN6.out; omega
              have hpml : Hid (met2.length = met.length + 4) := hml
              rcases nil_or_snoc pre with rfl | ⟨L, t, rfl⟩
              · obtain rfl : n6 = 0 := HN6.out.symm
                obtain rfl : j0 = true := HINC.out.symm.trans rfl
                go_upto_region 16 with (fail)
                refine wp_region_ext (by kernel_rfl) (by kernel_rfl) ?_
                repeat (go_big_quiet_step (fail))
                refine wpQuiet_nil ?_
                rintro w8 ⟨x8, e8⟩
                have hb8 := x8.b
                rw [← e8] at hb8
                clear e8 x8
                have HR8 := hid (HR4.out.grow hb8)
                have HY8 := hid (keep_laid HY4.out hb8)
                clear hb8 y1 y3
                have y0 := cell_laid (i := 0) HY8.out rfl
                have y1 := cell_laid (i := 1) HY8.out rfl
                have y2 := cell_laid (i := 2) HY8.out rfl
                have y3 := cell_laid (i := 3) HY8.out rfl
                obtain ⟨w5, hw5, hb5, hs5, hl5⟩ := laid w8 #[.int .u64 ((place : Nat) : Int), .int .u64 ((B0 : Nat) : Int), .int .u64 ((B1 : Nat) : Int), .int .u64 ((B3 : Nat) : Int)] 50
                obtain ⟨Z, hZ⟩ : ∃ Y, w8.heap.size = Y := ⟨_, rfl⟩
                rw [hZ] at hl5
                have HL5 := hid hl5
                have HR5 := hid (HR8.out.grow hb5)
                have HOW6 : Hid (w5.ownsRow V.heap.size 50 4 (.slice a6 0 c6) 0 (ndcells [])) := hid (by have := HR5.out.r6; rw [HN6.out] at this; exact this)
                clear hb5 hs5 hl5
                go_wp2_with ((with_reducible show wpList _ _ _ _ _ _); refine wp_appendM elemNd rfl (.tmp 94) (.tmp 96) rfl V.heap.size (.slice a6 0 c6) 0 (ndcells []) rfl HOW6.out ⟨Z, 0, none⟩ 1 1 (nd4 (place, B0, B1, B3)) rfl rfl ?c1 ?c2 ?c3 ?c4 ?c5)
                case c1 => intro j u hj; first | (refine cell_add (o := 0) (by rw [Nat.zero_add]; exact cell_laid HL5.out (by simpa [nd4] using hj))) | exact cell_laid HL5.out (by simpa [nd4] using hj)
                case c2 => first | (intro u hu; simp [nd4] at hu; rcases hu with rfl | rfl | rfl | rfl <;> rfl) | omega
                try (case c3 => omega)
                try (case c4 => exact HR5.out.below.size)
                case c5 =>
                  intro v6' w6 ho hg hmv
                  have HR6 := hid (HR5.out.app6 (t := (place, B0, B1, B3)) (v6' := v6') (by rw [HN6.out]; exact ho) hg)
                  obtain ⟨x6, y6, e6, -⟩ := Leads.of_own ho
                  subst e6
                  clear ho hg hmv y0 y1 y2 y3 HR8 HY8 HR5 HOW6
                  go_upto_region 19 with (fail)
                  have HRD := hid (HR6.out.grow (Below.refl _ _).drew)
                  obtain ⟨D, hD⟩ : ∃ DX, (w6).drew = DX := ⟨_, rfl⟩
                  rw [hD] at HRD
                  have HD := hid hD
                  clear hD
                  refine wp_region_mix2 (fun W => ∃ z : RNc V X #[.slice (some ⟨bw, ow, none⟩) n wc, .slice la n lc, .bool F], W = z.w) 7 (.q 0 (.q 1 (.q 2 (.h 3 (.q 4 (.q 5 (.q 6 .done))))))) (by kernel_rfl) (by kernel_rfl) (by rw [HD.out]; exact HRD.out.cls) ?_
                  rw [HD.out]
                  repeat (refine wpMix2_q rfl rfl ?_; go_big_quiet_step (fail); refine wpQuiet_nil ?_)
                  refine wpMix2_h rfl fun R' hR' hO => ?_
                  go_wp2_with fail
                  refine (HAT.out place 2 D hpl (by decide)).mono ?_
                  rintro e wq ⟨rfl, hwq⟩
                  rw [hwq]
                  clear hwq wq
                  rw [HU2.out]
                  go_wp2
                  refine hR' _ _ HRD.out.cls ?_
                  clear hR' hO R'
                  repeat (refine wpMix2_q rfl rfl ?_; go_big_quiet_step (fail); refine wpQuiet_nil ?_)
                  refine wpMix2_done ?_
                  simp only [List.drop_succ_cons, List.drop_nil]
                  go_wp2
                  go_roundg G
                  case measure => have := HG.out; have := HF1.out; omega
                  case rel => exact ⟨B2, met2, _, _, _, rfl, rfl, rfl, hB2l, HRD, hid (by rw [show G = f1 by have := HG.out; have := HF1.out; omega]; exact HRE2.out), HMN, hid (by have := hf.out; have := HF1.out; have := hpml.out; have := HG.out; omega), hid (by have e := hpre.out; have := hpml.out; simp only [List.length_append, List.length_singleton] at e ⊢; omega), HINC⟩
              · obtain ⟨t1, t2, t3, t4⟩ := t
                obtain ⟨j, hj⟩ : ∃ j, L.length = j := ⟨_, rfl⟩
                obtain rfl : n6 = j + 1 := by rw [← HN6.out, List.length_append, hj]; rfl
                obtain ⟨vb, vo, rfl, hcc⟩ : ∃ b o, a6 = some ⟨b, o, none⟩ ∧ ∀ (z : Ext w4) i v, (ndcells (L ++ [(t1, t2, t3, t4)]))[i]? = some v → z.v.cell? ⟨b, o + i, none⟩ = some v := by
                  obtain ⟨a', c', e, hl⟩ := Leads.of_own HR4.out.r6
                  simp only [Value.slice.injEq] at e
                  obtain ⟨rfl, -, rfl⟩ := e
                  obtain ⟨_, _, ⟨h, _⟩ | ⟨b, off, e, _, h4⟩⟩ := hl
                  · simp at h
                  · exact ⟨b, off, e, fun z i v hv => (z.b.cell (p := ⟨b, off + i, none⟩) (by subst e; exact (own_lt HR4.out.r6 b rfl))).trans (h4 i v hv)⟩
                have hat : ∀ i v, (nd4 (t1, t2, t3, t4))[i]? = some v → (ndcells (L ++ [(t1, t2, t3, t4)]))[j * 4 + i]? = some v := fun i v hv => by
                  rw [ndcells_snoc, List.getElem?_append_right (by rw [ndcells_len, hj]; omega), ndcells_len, hj, show j * 4 + i - 4 * j = i by omega]
                  exact hv
                have k1 : ∀ z : Ext w4, z.v.cell? ⟨vb, vo + j * 4 + 1, none⟩ = some (.int .u64 ((t2 : Nat) : Int)) := fun z => by rw [Nat.add_assoc]; exact hcc z _ _ (hat 1 _ rfl)
                have k3 : ∀ z : Ext w4, z.v.cell? ⟨vb, vo + j * 4 + 3, none⟩ = some (.int .u64 ((t4 : Nat) : Int)) := fun z => by rw [Nat.add_assoc]; exact hcc z _ _ (hat 3 _ rfl)
                have tj : decide ((0 : Int) ≤ ((j : Nat) : Int)) = true := decide_eq_true (by omega)
                have tjl : j ≤ 5000 := by omega
                obtain ⟨AH, hAH⟩ : ∃ b, (decide (t4 < B3) || (decide (t4 = B3) && decide (t2 < B0))) = b := ⟨_, rfl⟩
                have HAH := hid (fun W => Ahead_any t4 t2 B3 B0 W)
                rw [hAH] at HAH
                have HIA : Hid (j0 = AH) := hid (by
                  have e1 : incr ((L ++ [(t1, t2, t3, t4)]) ++ [(place, B0, B1, B3)]) = AH := by
                    rw [incr_snoc, hinc.out, List.getLast?_append]
                    show (true && aheadN (t1, t2, t3, t4) (place, B0, B1, B3)) = AH
                    rw [← hAH]
                    rfl
                  rw [← HINC.out, e1])
                have HAH2 : Hid (∀ x : Ext w4, Calls Tryz.prog 67 #[.int .u64 ((t4 : Nat) : Int), .int .u64 ((t2 : Nat) : Int), .int .u64 ((B3 : Nat) : Int), .int .u64 ((B0 : Nat) : Int)] x.v (Ret (.bool AH) x.v)) := hid (fun x => (HAH.out x.v).mono fun e W h => by obtain ⟨rfl, rfl⟩ := h; exact ⟨rfl, Below.refl _ _⟩)
                clear hj hcc hat hAH HAH
                go_upto_region 16 with (fail)
                refine wp_region_ext (by kernel_rfl) (by kernel_rfl) ?_
                repeat (go_big_quiet_step ((go_at_call 67; exact ext_of (HAH2.out _))))
                refine wpQuiet_nil ?_
                rintro w8 ⟨x8, e8⟩
                have hb8 := x8.b
                rw [← e8] at hb8
                clear e8 x8
                have HR8 := hid (HR4.out.grow hb8)
                have HY8 := hid (keep_laid HY4.out hb8)
                clear hb8 y1 y3 k1 k3 HAH2
                cases AH with
                | false =>
                  go_wp2
                  go_ret2
                  exact HNONE.out _ HR8.out.below (by rw [← HRE2.out]; exact endR_bad (HINC.out.trans HIA.out))
                | true =>
                  obtain rfl : j0 = true := HIA.out
                  have y0 := cell_laid (i := 0) HY8.out rfl
                  have y1 := cell_laid (i := 1) HY8.out rfl
                  have y2 := cell_laid (i := 2) HY8.out rfl
                  have y3 := cell_laid (i := 3) HY8.out rfl
                  obtain ⟨w5, hw5, hb5, hs5, hl5⟩ := laid w8 #[.int .u64 ((place : Nat) : Int), .int .u64 ((B0 : Nat) : Int), .int .u64 ((B1 : Nat) : Int), .int .u64 ((B3 : Nat) : Int)] 50
                  obtain ⟨Z, hZ⟩ : ∃ Y, w8.heap.size = Y := ⟨_, rfl⟩
                  rw [hZ] at hl5
                  have HL5 := hid hl5
                  have HR5 := hid (HR8.out.grow hb5)
                  have HOW6 : Hid (w5.ownsRow V.heap.size 50 4 (.slice (some ⟨vb, vo, none⟩) (j + 1) c6) (j + 1) (ndcells (L ++ [(t1, t2, t3, t4)]))) := hid (by have := HR5.out.r6; rw [HN6.out] at this; exact this)
                  clear hb5 hs5 hl5
                  go_wp2_with ((with_reducible show wpList _ _ _ _ _ _); refine wp_appendM elemNd rfl (.tmp 94) (.tmp 96) rfl V.heap.size (.slice (some ⟨vb, vo, none⟩) (j + 1) c6) (j + 1) (ndcells (L ++ [(t1, t2, t3, t4)])) rfl HOW6.out ⟨Z, 0, none⟩ 1 1 (nd4 (place, B0, B1, B3)) rfl rfl ?c1 ?c2 ?c3 ?c4 ?c5)
                  case c1 => intro j u hj; first | (refine cell_add (o := 0) (by rw [Nat.zero_add]; exact cell_laid HL5.out (by simpa [nd4] using hj))) | exact cell_laid HL5.out (by simpa [nd4] using hj)
                  case c2 => first | (intro u hu; simp [nd4] at hu; rcases hu with rfl | rfl | rfl | rfl <;> rfl) | omega
                  try (case c3 => omega)
                  try (case c4 => exact HR5.out.below.size)
                  case c5 =>
                    intro v6' w6 ho hg hmv
                    have HR6 := hid (HR5.out.app6 (t := (place, B0, B1, B3)) (v6' := v6') (by rw [HN6.out]; exact ho) hg)
                    obtain ⟨x6, y6, e6, -⟩ := Leads.of_own ho
                    subst e6
                    clear ho hg hmv y0 y1 y2 y3 HR8 HY8 HR5 HOW6
                    go_upto_region 19 with (fail)
                    have HRD := hid (HR6.out.grow (Below.refl _ _).drew)
                    obtain ⟨D, hD⟩ : ∃ DX, (w6).drew = DX := ⟨_, rfl⟩
                    rw [hD] at HRD
                    have HD := hid hD
                    clear hD
                    refine wp_region_mix2 (fun W => ∃ z : RNc V X #[.slice (some ⟨bw, ow, none⟩) n wc, .slice la n lc, .bool F], W = z.w) 7 (.q 0 (.q 1 (.q 2 (.h 3 (.q 4 (.q 5 (.q 6 .done))))))) (by kernel_rfl) (by kernel_rfl) (by rw [HD.out]; exact HRD.out.cls) ?_
                    rw [HD.out]
                    repeat (refine wpMix2_q rfl rfl ?_; go_big_quiet_step (fail); refine wpQuiet_nil ?_)
                    refine wpMix2_h rfl fun R' hR' hO => ?_
                    go_wp2_with fail
                    refine (HAT.out place 2 D hpl (by decide)).mono ?_
                    rintro e wq ⟨rfl, hwq⟩
                    rw [hwq]
                    clear hwq wq
                    rw [HU2.out]
                    go_wp2
                    refine hR' _ _ HRD.out.cls ?_
                    clear hR' hO R'
                    repeat (refine wpMix2_q rfl rfl ?_; go_big_quiet_step (fail); refine wpQuiet_nil ?_)
                    refine wpMix2_done ?_
                    simp only [List.drop_succ_cons, List.drop_nil]
                    go_wp2
                    go_roundg G
                    case measure => have := HG.out; have := HF1.out; omega
                    case rel => exact ⟨B2, met2, _, _, _, rfl, rfl, rfl, hB2l, HRD, hid (by rw [show G = f1 by have := HG.out; have := HF1.out; omega]; exact HRE2.out), HMN, hid (by have := hf.out; have := HF1.out; have := hpml.out; have := HG.out; omega), hid (by have e := hpre.out; have := hpml.out; simp only [List.length_append, List.length_singleton] at e ⊢; omega), HINC⟩
end Go.Proofs.YtahicokokfcieaaGreatDoor
namespace Go.Proofs.YtahicokokfcieaaGreatDoor
open Go.RowKit
open Go.Proofs
set_option linter.unusedVariables false
attribute [local go_sem] Oper.semAt_some
theorem four_snoc (p j : Nat) (h : j < 4) : ([posL p 0, posL p 1, posL p 2, posL p 3] : List Nat).take (j + 1) = ([posL p 0, posL p 1, posL p 2, posL p 3] : List Nat).take j ++ [posL p j] := by
  match j, h with
  | 0, _ => rfl
  | 1, _ => rfl
  | 2, _ => rfl
  | 3, _ => rfl
/-- Between two rounds of the gathering of words. -/
structure Ft (V : World) (X Y : Nat) (csx csy : Array Value) (tk : List Nat) (v9 : Value) (W : World) : Prop where
  bx : W.heap[X]? = some (.cells csx 25 (0, 0))
  by_ : W.heap[Y]? = some (.cells csy 50 (0, 0))
  r9 : W.ownsRow V.heap.size 3 1 v9 tk.length (ncells tk)
  below : Below V.heap.size V W
theorem Ft.grow {V W W' : World} {X Y : Nat} {csx csy : Array Value} {tk : List Nat} {v9 : Value} (h : Ft V X Y csx csy tk v9 W) (hb : Below W.heap.size W W') : Ft V X Y csx csy tk v9 W' :=
  ⟨keep_laid h.bx hb, keep_laid h.by_ hb, own_grow h.r9 hb, h.below.trans (hb.mono h.below.size)⟩
theorem Ft.app {V W W' : World} {X Y q : Nat} {csx csy : Array Value} {tk : List Nat} {v9 v9' : Value} (h : Ft V X Y csx csy tk v9 W) (ho : W'.ownsRow V.heap.size 3 1 v9' (tk.length + 1) (ncells tk ++ [.int .i64 ((q : Nat) : Int)])) (hg : W.grownBy W' v9.ownBlock) : Ft V X Y csx csy (tk ++ [q]) v9' W' := by
  refine ⟨keep_grown h.bx hg (own_ne h.r9 h.bx (by decide)), keep_grown h.by_ hg (own_ne h.r9 h.by_ (by decide)), ?_, h.below.trans (own_below h.r9 hg h.below.size)⟩
  rw [List.length_append, ncells_app]
  exact ho
end Go.Proofs.YtahicokokfcieaaGreatDoor
namespace Go.Proofs.YtahicokokfcieaaGreatDoor
open Go.RowKit
open Go.Proofs
set_option linter.unusedVariables false
attribute [local go_sem] Oper.semAt_some
/-- Who edits, on its way. -/
structure Edl (B R E Z : Nat) (V : World) (M : Mem) (s : Ede) (n g : Nat) (res : Mem × Ede × Nat) (W : World) : Prop where
  run : RunC B R M n W
  be : W.heap[E]? = some (.cells (ed8 s) 97 (0, 0))
  bz : W.heap[Z]? = some (.cells #[.slice none 0 0, .slice none 0 0, .bool false] 25 (0, 0))
  below : Below V.heap.size V W
  ok : okM M = true
  wok : ∀ x ∈ M.W, x < 18446744073709551616
  sok : s.Ok
  p0 : 0 ≤ s.ph
  p7 : s.ph ≤ 7
  res : editRun g M s n = res
  fuel : 6 ≤ g + s.ph
  cnt : g + n ≤ 5000
theorem Edl.grow {B R E Z : Nat} {V : World} {M : Mem} {s : Ede} {n g : Nat} {res : Mem × Ede × Nat} {W W' : World} (h : Edl B R E Z V M s n g res W) (hb : Below W.heap.size W W') : Edl B R E Z V M s n g res W' :=
  ⟨h.run.grow hb, keep_laid h.be hb, keep_laid h.bz hb, h.below.trans (hb.mono h.below.size), h.ok, h.wok, h.sok, h.p0, h.p7, h.res, h.fuel, h.cnt⟩
theorem editRun_step {f : Nat} {M M' : Mem} {s s' : Ede} {b : Bool} {n : Nat} (h : ¬ 6 ≤ s.ph) (e : editE M s = (M', s', b)) : editRun (f + 1) M s n = editRun f M' s' (n + 1) := by
  conv => lhs; unfold editRun
  rw [if_neg h, e]
end Go.Proofs.YtahicokokfcieaaGreatDoor
