/- Lists linked both ways: Insert (printed by gen_dbl20.py). -/
import Derived.Test.YtoihjmdpbbcbjaaDbl19
namespace Go.Proofs.Ytoihjmdpbbcbjaa
open Go.RowKit
open Go.Proofs
set_option linter.unusedVariables false
attribute [local go_sem] Oper.semAt_some

def goodN (M : Mem) (met : List Nat) (t : Tw) (k : Nat) : Bool := !decide (t.1 = 0) && freeB M met (posN t.1 k)
def insP (M : Mem) (head prev : Nat) (t : Tw) : Mem × Nat × Nat :=
  if okM M = false then (zeroM, 0, 120) else match nodesN M head with
  | none => (zeroM, 0, 260)
  | some (xs, met) => if prev ≠ 0 ∧ hasN xs prev = false then (zeroM, 0, 4) else if (List.range 4).all (goodN M met t) = false then (zeroM, 0, 2) else ((runE 12 M (putE head prev t) 0).1, (runE 12 M (putE head prev t) 0).2, 0)
theorem insert_result {W : World} {b : Nat} {v0 v1 v2 s u : Value} {tmps : Array Value} (h : W.heap[b]? = some (.cells #[v0, v1, v2] 25 (0, 0))) (hp : tmps[8]?.getD undef = .pointer (some ⟨b, 0, none⟩)) (hs : tmps[9]?.getD undef = s) (hu : tmps[10]?.getD undef = u) :
    (results Try.f19 tmps).run Try.prog W = .ok (.tuple #[.agg #[v0, v1, v2], s, u]) W := by
  have h0 := cell_laid (i := 0) (v := v0) h rfl
  have h1 := cell_laid (i := 1) (v := v1) h rfl
  have h2 := cell_laid (i := 2) (v := v2) h rfl
  simp [results, Try.results19, go_sem, hp, hs, hu, h0, h1, h2]
theorem ids_run (met : List Nat) (w mb : Nat) (W : World) (h : IdsJ W mb (ones met)) (hw : w ≤ 1000000) : (Instr.lookup 72 (.map (some mb)) (.int .i64 ((w : Nat) : Int)) false).run Try.prog W = .ok (.int .i64 (if w ∈ met then 1 else 0)) W := by
  have := h.run (k := w) (by omega) (t := 72) Try.underlying72
  rw [atM_ones] at this
  rw [this]
  split <;> rfl

set_option maxRecDepth 100000 in
set_option maxHeartbeats 16000000 in
theorem Insert_any (M : Mem) (wa la : Option Addr) (wc lc head prev : Nat) (t : Tw) (V : World) (h : MemL V wa wc la lc M) (hh : head < 18446744073709551616) (hnd : prev < 18446744073709551616) (ht : t.1 < 18446744073709551616 ∧ t.2.1 < 18446744073709551616 ∧ t.2.2 < 18446744073709551616) (hW : Wok M) :
    Calls Try.prog 19 #[memV wa wc la lc M, .int .u64 ((head : Nat) : Int), .int .u64 ((prev : Nat) : Int), twV t] V (GivesI (insP M head prev t) V) := by
  obtain ⟨p1, p2, p3⟩ := t
  obtain ⟨V1, hV1, hb1, hs1, hl1⟩ := laid V #[.slice wa M.W.length wc, .slice la M.L.length lc, .bool M.F] 25
  obtain ⟨V2, hV2, hb2, hs2, hl2⟩ := laid V1 #[.int .u64 ((p1 : Nat) : Int), .int .u64 ((p2 : Nat) : Int), .int .u64 ((p3 : Nat) : Int)] 28
  obtain ⟨V3, hV3, hb3, hs3, hl3⟩ := laid V2 #[.slice none 0 0, .slice none 0 0, .bool false] 25
  obtain ⟨X, hX⟩ : ∃ X, V.heap.size = X := ⟨_, rfl⟩
  obtain ⟨T, hT⟩ : ∃ X, V1.heap.size = X := ⟨_, rfl⟩
  obtain ⟨Z, hZ⟩ : ∃ X, V2.heap.size = X := ⟨_, rfl⟩
  rw [hX] at hl1
  rw [hT] at hl2
  rw [hZ] at hl3
  have HX := hid (keep_laid hl1 (step hb2 hb3))
  have HT := hid (keep_laid hl2 hb3)
  have HZ := hid hl3
  have HB2 := hid (step (step hb1 hb2) hb3)
  have hZV : V.heap.size ≤ Z := by omega
  have HM := hid (h.grow HB2.out)
  have HL := hid (look_any M wa la wc lc head V3 HM.out hh hW)
  have HPUT := hid (fun W => Put_any head prev (p1, p2, p3) W)
  have HRUN := hid (fun (W : World) (hb : Below V3.heap.size V3 W) (hok : okM M = true) => run_any M (putE head prev (p1, p2, p3)) wa la wc lc W (HM.out.grow hb) hok hW (putE_ok hh hnd ht) (show (0 : Int) ≤ 0 by decide) (show (0 : Int) ≤ 10 by decide))
  rw [show decide ((putE head prev (p1, p2, p3)).ph < 9) = true from rfl] at HRUN
  have hwl := h.w.len
  have hll := h.l.len
  unfold memV at HL HRUN ⊢
  unfold twV at HPUT ⊢
  unfold edV at HRUN HPUT
  obtain ⟨n, hn⟩ : ∃ n, M.W.length = n := ⟨_, rfl⟩
  obtain ⟨m, hm⟩ : ∃ n, M.L.length = n := ⟨_, rfl⟩
  obtain ⟨F, hF⟩ : ∃ n, M.F = n := ⟨_, rfl⟩
  obtain ⟨x0, x1, x2⟩ := cells3 HX.out
  rw [hn] at hV1 x0 hwl HL HRUN ⊢
  rw [hm] at hV1 x1 hll HL HRUN ⊢
  rw [hF] at hV1 x2 HL HRUN ⊢
  have HNN := hid hn
  have HMM := hid hm
  have HFF := hid hF
  clear h hn hm hF hs1 hs2 hs3 hl1 hl2 hl3 hb1 hb2 hb3 hW
  go_enter Try.func19, Try.ntmps19
  go_wp2_with fail
  refine HL.out.mono ?_
  intro e W hlk
  obtain ⟨xs, code, v, mv, rfl, hU⟩ := look_uni hlk
  obtain ⟨va, vc, rfl, hlv⟩ := Leads.of_own hU.row
  obtain ⟨q, hq⟩ : ∃ q, xs.length = q := ⟨_, rfl⟩
  rw [hq] at hlv ⊢
  have hq5 : q ≤ 1100 := by have := lookN_len M head; rw [hU.eq] at this; rw [← hq]; exact this
  have hlvl := hlv.len
  have HUB := hid hU.below
  have HEQ := hid hU.eq
  have HIN := hid (in_any xs va q vc prev W hlv hq (by omega))
  by_cases hc : code = 0
  · subst hc
    obtain ⟨hok, mb, met, rfl, hids, hnod⟩ := hU.map rfl
    have HOKK := hid hok
    have HIDS := hid hids
    have HBAD0 := hid (fun (hpr : ¬(prev ≠ 0 ∧ hasN xs prev = false)) (k : Nat) (hk : k < 4) (hg : goodN M met (p1, p2, p3) k = false) => (show insP M head prev (p1, p2, p3) = (zeroM, 0, 2) from by
      unfold insP
      rw [hok, if_neg (by decide), hnod]
      dsimp only
      rw [if_neg hpr, if_pos]
      rw [Bool.eq_false_iff]
      intro ha
      have := List.all_eq_true.1 ha k (List.mem_range.2 hk)
      rw [hg] at this
      cases this))
    have HGOOD0 := hid (fun (hpr : ¬(prev ≠ 0 ∧ hasN xs prev = false)) (hg : ∀ j < 4, goodN M met (p1, p2, p3) j = true) => (show insP M head prev (p1, p2, p3) = ((runE 12 M (putE head prev (p1, p2, p3)) 0).1, (runE 12 M (putE head prev (p1, p2, p3)) 0).2, 0) from by
      unfold insP
      rw [hok, if_neg (by decide), hnod]
      dsimp only
      rw [if_neg hpr, if_neg]
      rw [Bool.eq_false_iff]
      intro ha
      exact ha (List.all_eq_true.2 fun k hk => hg k (List.mem_range.1 hk))))
    have HNO : Hid (prev ≠ 0 → hasN xs prev = false → insP M head prev (p1, p2, p3) = (zeroM, 0, 4)) := hid (fun h1 h2 => by
      unfold insP
      rw [hok, if_neg (by decide), hnod]
      dsimp only
      rw [if_pos ⟨h1, h2⟩])
    clear hlk hU hlv hq hok hids hnod
    by_cases hp : prev = 0
    · have q9 : (((prev : Nat) : Int) != 0) = false := by simp; omega
      have HBAD := hid (HBAD0.out (fun h => h.1 hp))
      have HGOOD := hid (HGOOD0.out (fun h => h.1 hp))
      clear hp HIN HNO
      go_wp2
      go_loopg [40] 4 (fun g i wr => ∃ k : Nat, g + k = 4 ∧ i = .int .i64 ((k : Nat) : Int) ∧ Hid (∀ j < k, goodN M met (p1, p2, p3) j = true) ∧ Hid (Below W.heap.size W wr))
      case atStart => exact ⟨0, rfl, rfl, hid (fun j hj => by omega), hid (Below.refl _ _)⟩
      case round =>
        obtain ⟨k, hk, rfl, hgs, hb⟩ := hrel
        have HK := hid hk
        clear hk
        by_cases hlt : k < 4
        · obtain ⟨w, hw⟩ : ∃ w, posN p1 k = w := ⟨_, rfl⟩
          have hw6 : w ≤ 1000000 := by rw [← hw]; unfold posN; omega
          have HWD := hid (word_any p1 k wr ht.1 (by omega))
          rw [hw] at HWD
          have hXr := keep_laid HX.out (step HUB.out hb.out)
          obtain ⟨x0, x1, x2⟩ := cells3 hXr
          rw [HNN.out] at x0
          rw [HMM.out] at x1
          rw [HFF.out] at x2
          obtain ⟨u0, u1, u2⟩ := cells3 (keep_laid HT.out (step HUB.out hb.out))
          have hrun := ids_run met w mb wr (HIDS.out.grow hb.out) hw6
          have hmr := HM.out.grow (step HUB.out hb.out)
          by_cases hp0 : p1 = 0
          · have HGK : Hid (goodN M met (p1, p2, p3) k = false) := hid (by unfold goodN; rw [decide_eq_true hp0]; rfl)
            have q0 : (((p1 : Nat) : Int) == 0) = true := by simp; omega
            clear hp0 hw hXr hmr
            have HR : Hid (insP M head prev (p1, p2, p3) = (zeroM, 0, 2)) := hid (HBAD.out k hlt HGK.out)
            have hkz := keep_laid HZ.out (step HUB.out hb.out)
            obtain ⟨V6, hV6, a3, -, a5, -⟩ := put_mem hkz (.slice none 0 0) (.slice none 0 0) (.bool false)
            obtain ⟨z0, z1, z2⟩ := cells3 hkz
            have zf0 := free_laid (i := 0) hkz
            have zf1 := free_laid (i := 1) hkz
            have zf2 := free_laid (i := 2) hkz
            have HV6 := hid hV6
            have A3 := hid a3
            have HB6 := hid (a5 V.heap.size V hZV (step HB2.out (step HUB.out hb.out)))
            clear hkz hV6 a3 a5
            go_wp2_with fail
            refine HWD.out.mono ?_
            rintro e Wx ⟨rfl, hwx⟩
            subst hwx
            go_wp2
            rw [← HV6.out]
            refine bodyPost_ret (insert_result A3.out rfl rfl rfl) rfl ?_
            rw [HR.out]
            exact ⟨none, 0, none, 0, rfl, ⟨World.ownsRow_nil _ _ _ _, World.ownsRow_nil _ _ _ _⟩, HB6.out⟩
          · have q0 : (((p1 : Nat) : Int) == 0) = false := by simp; omega
            by_cases hwn : n ≤ w
            · have HGK : Hid (goodN M met (p1, p2, p3) k = false) := hid (by unfold goodN freeB liveN; dsimp only; rw [hw, List.getElem?_eq_none (by have := okM_spec HOKK.out; rw [this.2.2.1, HNN.out]; exact hwn)]; simp)
              have q1 : decide (((n : Nat) : Int) ≤ ((w : Nat) : Int)) = true := decide_eq_true (by omega)
              clear hp0 hw hXr hmr
              have HR : Hid (insP M head prev (p1, p2, p3) = (zeroM, 0, 2)) := hid (HBAD.out k hlt HGK.out)
              have hkz := keep_laid HZ.out (step HUB.out hb.out)
              obtain ⟨V6, hV6, a3, -, a5, -⟩ := put_mem hkz (.slice none 0 0) (.slice none 0 0) (.bool false)
              obtain ⟨z0, z1, z2⟩ := cells3 hkz
              have zf0 := free_laid (i := 0) hkz
              have zf1 := free_laid (i := 1) hkz
              have zf2 := free_laid (i := 2) hkz
              have HV6 := hid hV6
              have A3 := hid a3
              have HB6 := hid (a5 V.heap.size V hZV (step HB2.out (step HUB.out hb.out)))
              clear hkz hV6 a3 a5
              go_wp2_with fail
              refine HWD.out.mono ?_
              rintro e Wx ⟨rfl, hwx⟩
              subst hwx
              go_wp2
              rw [← HV6.out]
              refine bodyPost_ret (insert_result A3.out rfl rfl rfl) rfl ?_
              rw [HR.out]
              exact ⟨none, 0, none, 0, rfl, ⟨World.ownsRow_nil _ _ _ _, World.ownsRow_nil _ _ _ _⟩, HB6.out⟩
            · have q1 : decide (((n : Nat) : Int) ≤ ((w : Nat) : Int)) = false := decide_eq_false (by omega)
              have hwm : w < m := by have := (okM_spec HOKK.out).2.2.1; rw [HMM.out, HNN.out] at this; omega
              obtain ⟨bl, hbl⟩ : ∃ b, M.L[w]? = some b := ⟨_, List.getElem?_eq_getElem (by rw [HMM.out]; exact hwm)⟩
              have hml := hmr.l
              rw [HMM.out] at hml
              obtain ⟨bb, oo, hla, -, hcl⟩ := hml.at hwm (bcell_at hbl)
              subst hla
              have f1 := hcl _ (Below.refl _ _)
              have HBL := hid hbl
              clear hbl hml hcl
              cases bl with
              | false =>
                have HGK : Hid (goodN M met (p1, p2, p3) k = false) := hid (by unfold goodN freeB liveN; dsimp only; rw [hw, HBL.out]; simp)
                clear hp0 hw hXr hmr
                have HR : Hid (insP M head prev (p1, p2, p3) = (zeroM, 0, 2)) := hid (HBAD.out k hlt HGK.out)
                have hkz := keep_laid HZ.out (step HUB.out hb.out)
                obtain ⟨V6, hV6, a3, -, a5, -⟩ := put_mem hkz (.slice none 0 0) (.slice none 0 0) (.bool false)
                obtain ⟨z0, z1, z2⟩ := cells3 hkz
                have zf0 := free_laid (i := 0) hkz
                have zf1 := free_laid (i := 1) hkz
                have zf2 := free_laid (i := 2) hkz
                have HV6 := hid hV6
                have A3 := hid a3
                have HB6 := hid (a5 V.heap.size V hZV (step HB2.out (step HUB.out hb.out)))
                clear hkz hV6 a3 a5
                go_wp2_with fail
                refine HWD.out.mono ?_
                rintro e Wx ⟨rfl, hwx⟩
                subst hwx
                go_wp2
                rw [← HV6.out]
                refine bodyPost_ret (insert_result A3.out rfl rfl rfl) rfl ?_
                rw [HR.out]
                exact ⟨none, 0, none, 0, rfl, ⟨World.ownsRow_nil _ _ _ _, World.ownsRow_nil _ _ _ _⟩, HB6.out⟩
              | true =>
                by_cases hmem : w ∈ met
                · rw [if_pos hmem] at hrun
                  have HGK : Hid (goodN M met (p1, p2, p3) k = false) := hid (by unfold goodN freeB liveN; dsimp only; rw [hw, HBL.out, decide_eq_true hmem]; simp)
                  clear hp0 hw hXr hmr hmem
                  have HR : Hid (insP M head prev (p1, p2, p3) = (zeroM, 0, 2)) := hid (HBAD.out k hlt HGK.out)
                  have hkz := keep_laid HZ.out (step HUB.out hb.out)
                  obtain ⟨V6, hV6, a3, -, a5, -⟩ := put_mem hkz (.slice none 0 0) (.slice none 0 0) (.bool false)
                  obtain ⟨z0, z1, z2⟩ := cells3 hkz
                  have zf0 := free_laid (i := 0) hkz
                  have zf1 := free_laid (i := 1) hkz
                  have zf2 := free_laid (i := 2) hkz
                  have HV6 := hid hV6
                  have A3 := hid a3
                  have HB6 := hid (a5 V.heap.size V hZV (step HB2.out (step HUB.out hb.out)))
                  clear hkz hV6 a3 a5
                  go_wp2_with fail
                  refine HWD.out.mono ?_
                  rintro e Wx ⟨rfl, hwx⟩
                  subst hwx
                  go_wp2
                  rw [← HV6.out]
                  refine bodyPost_ret (insert_result A3.out rfl rfl rfl) rfl ?_
                  rw [HR.out]
                  exact ⟨none, 0, none, 0, rfl, ⟨World.ownsRow_nil _ _ _ _, World.ownsRow_nil _ _ _ _⟩, HB6.out⟩
                · rw [if_neg hmem] at hrun
                  have HGK : Hid (goodN M met (p1, p2, p3) k = true) := hid (by unfold goodN freeB liveN; dsimp only; rw [hw, HBL.out, decide_eq_false hmem, decide_eq_false hp0]; rfl)
                  clear hp0 hw hXr hmr hmem
                  go_wp2_with fail
                  refine HWD.out.mono ?_
                  rintro e Wx ⟨rfl, hwx⟩
                  subst hwx
                  go_wp2
                  go_roundg (gk - 1)
                  case measure => have := HK.out; omega
                  case rel => exact ⟨k + 1, by have := HK.out; omega, by go_num, hid (fun j hj => by
                    by_cases e : j = k
                    · subst e; exact HGK.out
                    · exact hgs.out j (by omega)), hb⟩
        · have e4 : k = 4 := by have := HK.out; omega
          have HR := hid (HGOOD.out (fun j hj => hgs.out j (by omega)))
          subst e4
          have HUB := hid (step HUB.out hb.out)
          clear HK hgs hlt
          go_upto_region 13 with (fail)
          obtain ⟨D, hD⟩ : ∃ D, wr.drew = D := ⟨_, rfl⟩
          have hbD : Below wr.heap.size wr D := by rw [← hD]; exact (Below.refl _ _).drew
          have HD := hid hD
          have HB2D := hid (step HUB.out hbD)
          have HBVD := hid (step HB2.out HB2D.out)
          have hVD : V.heap.size ≤ D.heap.size := HBVD.out.size
          have HXD := hid (keep_laid HX.out HB2D.out)
          have HTD := hid (keep_laid HT.out HB2D.out)
          have HZD := hid (keep_laid HZ.out HB2D.out)
          have HRUN := hid (fun W (hb : Below D.heap.size D W) => HRUN.out W (HB2D.out.trans (hb.mono HB2D.out.size)) HOKK.out)
          have r0 : ∀ z : Ext D, z.v.cell? ⟨X, 0, none⟩ = some (.slice wa n wc) := fun z => by have := cell_laid (i := 0) (keep_laid HXD.out z.b) rfl; rw [HNN.out] at this; exact this
          have r1 : ∀ z : Ext D, z.v.cell? ⟨X, 1, none⟩ = some (.slice la m lc) := fun z => by have := cell_laid (i := 1) (keep_laid HXD.out z.b) rfl; rw [HMM.out] at this; exact this
          have r2 : ∀ z : Ext D, z.v.cell? ⟨X, 2, none⟩ = some (.bool F) := fun z => by have := cell_laid (i := 2) (keep_laid HXD.out z.b) rfl; rw [HFF.out] at this; exact this
          have r3 : ∀ z : Ext D, z.v.cell? ⟨T, 0, none⟩ = some (.int .u64 ((p1 : Nat) : Int)) := fun z => cell_laid (i := 0) (keep_laid HTD.out z.b) rfl
          have r4 : ∀ z : Ext D, z.v.cell? ⟨T, 1, none⟩ = some (.int .u64 ((p2 : Nat) : Int)) := fun z => cell_laid (i := 1) (keep_laid HTD.out z.b) rfl
          have r5 : ∀ z : Ext D, z.v.cell? ⟨T, 2, none⟩ = some (.int .u64 ((p3 : Nat) : Int)) := fun z => cell_laid (i := 2) (keep_laid HTD.out z.b) rfl
          clear hD hbD
          refine wp_region_mix2 (fun V => ∃ z : Ext D, V = z.v) 12 (.q 0 (.q 1 (.q 2 (.q 3 (.h2 4 (.h2 5 (.q 6 (.q 7 (.q 8 (.h 9 (.h 10 (.q 11 (.done))))))) 9 (.h 5 (.q 6 (.q 7 (.q 8 (.h 10 (.q 11 (.done)))))))) 9 (.h 4 (.h 5 (.q 6 (.q 7 (.q 8 (.h 10 (.q 11 (.done))))))))))))) (by kernel_rfl) (by kernel_rfl) (by rw [HD.out]; exact ⟨⟨D, Below.refl _ _⟩, rfl⟩) ?_
          rw [HD.out]
          repeat (refine wpMix2_q rfl rfl ?_; go_big_quiet_step (fail); refine wpQuiet_nil ?_)
          refine wpMix2_h2 ?_ ?_
          rotate_left
          refine wpMix2_h rfl fun R' hR' hO => ?_
          obtain ⟨Wa, hWa, hba, hsa, hla⟩ := laid D #[.slice none 0 0, .slice none 0 0, .bool false] 25
          obtain ⟨q, hq⟩ : ∃ q, D.heap.size = q := ⟨_, rfl⟩
          rw [hq] at hla
          have HQ := hid hla
          have HVq := hid (show D.heap.size ≤ q from by have := ((Below.refl _ _) : Below D.heap.size D D).size; omega)
          have HBA := hid (step (Below.refl _ _) hba)
          clear hba hsa hla
          go_wp2
          refine hR' _ _ ⟨⟨Wa, HBA.out⟩, rfl⟩ ?_
          clear hR' hO R'
          refine wpMix2_h rfl fun R' hR' hO => ?_
          go_wp2_with fail
          refine (HPUT.out Wa).mono ?_
          rintro e Wc ⟨rfl, hbc⟩
          have HBC := hid (step HBA.out hbc)
          have HQ1 := hid (keep_laid HQ.out hbc)
          clear hbc
          go_wp2
          refine hR' _ _ ⟨⟨Wc, HBC.out⟩, rfl⟩ ?_
          clear hR' hO R'
          refine wpMix2_h rfl fun R' hR' hO => ?_
          go_wp2_with fail
          refine (HRUN.out Wc HBC.out).mono ?_
          rintro e Wr ⟨wx, wcx, lx, lcx, rfl, -, hmo, hbr⟩
          have HMO := hid ((hmo rfl).base (Nat.le_trans hVD (HBC.out : Below D.heap.size D Wc).size))
          have HBR := hid (step HBC.out hbr)
          have HQ2 := hid (keep_laid HQ1.out hbr)
          clear hmo hbr
          unfold memV
          go_wp2
          refine hR' _ _ ⟨⟨Wr, HBR.out⟩, rfl⟩ ?_
          clear hR' hO R'
          obtain ⟨Ws, hWs, s1, s2, s3, s4⟩ := put_mem HQ2.out (.slice wx (runE 12 M (putE head prev (p1, p2, p3)) 0).1.W.length wcx) (.slice lx (runE 12 M (putE head prev (p1, p2, p3)) 0).1.L.length lcx) (.bool (runE 12 M (putE head prev (p1, p2, p3)) 0).1.F)
          obtain ⟨z0, z1, z2⟩ := cells3 HQ2.out
          have zf0 := free_laid (i := 0) HQ2.out
          have zf1 := free_laid (i := 1) HQ2.out
          have zf2 := free_laid (i := 2) HQ2.out
          have HWS := hid hWs
          have S1 := hid s1
          have HBS := hid (s3 D.heap.size D HVq.out HBR.out)
          have HMS := hid (s4 _ _ _ _ _ _ HMO.out)
          clear hWs s1 s2 s3 s4
          repeat (refine wpMix2_q rfl rfl ?_; go_big_quiet_step (fail); refine wpQuiet_nil ?_)
          refine wpMix2_h rfl fun R' hR' hO => ?_
          go_wp2
          rw [← HWS.out]
          refine hR' _ _ ⟨⟨Ws, HBS.out⟩, rfl⟩ ?_
          clear hR' hO R'
          repeat (refine wpMix2_q rfl rfl ?_; go_big_quiet_step (fail); refine wpQuiet_nil ?_)
          refine wpMix2_done ?_
          simp only [List.drop_succ_cons, List.drop_zero]
          have hkz := keep_laid HZD.out HBS.out
          obtain ⟨c0, c1, c2⟩ := cells3 S1.out
          obtain ⟨V6, hV6, a3, -, a5, a6⟩ := put_mem hkz (.slice wx (runE 12 M (putE head prev (p1, p2, p3)) 0).1.W.length wcx) (.slice lx (runE 12 M (putE head prev (p1, p2, p3)) 0).1.L.length lcx) (.bool (runE 12 M (putE head prev (p1, p2, p3)) 0).1.F)
          obtain ⟨y0, y1, y2⟩ := cells3 hkz
          have yf0 := free_laid (i := 0) hkz
          have yf1 := free_laid (i := 1) hkz
          have yf2 := free_laid (i := 2) hkz
          have HV6 := hid hV6
          have A3 := hid a3
          have HB6 := hid (a5 V.heap.size V hZV (HBVD.out.trans (HBS.out.mono hVD)))
          have HM6 := hid (a6 _ _ _ _ _ _ HMS.out)
          clear hkz hV6 a3 a5 a6 z0 z1 z2 zf0 zf1 zf2
          go_wp2
          rw [← HV6.out]
          refine bodyPost_ret (insert_result A3.out rfl rfl rfl) rfl ?_
          rw [HR.out]
          exact ⟨_, _, _, _, rfl, HM6.out, HB6.out⟩
          refine wpMix2_h rfl fun R' hR' hO => ?_
          go_wp2_with fail
          refine (HPUT.out D).mono ?_
          rintro e Wc ⟨rfl, hbc⟩
          have HBC := hid (step (Below.refl _ _) hbc)
          clear hbc
          go_wp2
          refine hR' _ _ ⟨⟨Wc, HBC.out⟩, rfl⟩ ?_
          clear hR' hO R'
          refine wpMix2_h2 ?_ ?_
          · skip
            refine wpMix2_h rfl fun R' hR' hO => ?_
            go_wp2_with fail
            refine (HRUN.out Wc HBC.out).mono ?_
            rintro e Wr ⟨wx, wcx, lx, lcx, rfl, -, hmo, hbr⟩
            have HMO := hid ((hmo rfl).base (Nat.le_trans hVD (HBC.out : Below D.heap.size D Wc).size))
            have HBR := hid (step HBC.out hbr)
            clear hmo hbr
            unfold memV
            go_wp2
            refine hR' _ _ ⟨⟨Wr, HBR.out⟩, rfl⟩ ?_
            clear hR' hO R'
            repeat (refine wpMix2_q rfl rfl ?_; go_big_quiet_step (fail); refine wpQuiet_nil ?_)
            refine wpMix2_h rfl fun R' hR' hO => ?_
            obtain ⟨Wa, hWa, hba, hsa, hla⟩ := laid Wr #[.slice none 0 0, .slice none 0 0, .bool false] 25
            obtain ⟨q, hq⟩ : ∃ q, Wr.heap.size = q := ⟨_, rfl⟩
            rw [hq] at hla
            have HQ := hid hla
            have HVq := hid (show D.heap.size ≤ q from by have := (HBR.out : Below D.heap.size D Wr).size; omega)
            have HBA := hid (step HBR.out hba)
            have HMA := hid (HMO.out.grow hba)
            clear hba hsa hla
            go_wp2
            refine hR' _ _ ⟨⟨Wa, HBA.out⟩, rfl⟩ ?_
            clear hR' hO R'
            obtain ⟨Ws, hWs, s1, s2, s3, s4⟩ := put_mem HQ.out (.slice wx (runE 12 M (putE head prev (p1, p2, p3)) 0).1.W.length wcx) (.slice lx (runE 12 M (putE head prev (p1, p2, p3)) 0).1.L.length lcx) (.bool (runE 12 M (putE head prev (p1, p2, p3)) 0).1.F)
            obtain ⟨z0, z1, z2⟩ := cells3 HQ.out
            have zf0 := free_laid (i := 0) HQ.out
            have zf1 := free_laid (i := 1) HQ.out
            have zf2 := free_laid (i := 2) HQ.out
            have HWS := hid hWs
            have S1 := hid s1
            have HBS := hid (s3 D.heap.size D HVq.out HBA.out)
            have HMS := hid (s4 _ _ _ _ _ _ HMA.out)
            clear hWs s1 s2 s3 s4
            repeat (refine wpMix2_q rfl rfl ?_; go_big_quiet_step (fail); refine wpQuiet_nil ?_)
            refine wpMix2_h rfl fun R' hR' hO => ?_
            go_wp2
            rw [← HWS.out]
            refine hR' _ _ ⟨⟨Ws, HBS.out⟩, rfl⟩ ?_
            clear hR' hO R'
            repeat (refine wpMix2_q rfl rfl ?_; go_big_quiet_step (fail); refine wpQuiet_nil ?_)
            refine wpMix2_done ?_
            simp only [List.drop_succ_cons, List.drop_zero]
            have hkz := keep_laid HZD.out HBS.out
            obtain ⟨c0, c1, c2⟩ := cells3 S1.out
            obtain ⟨V6, hV6, a3, -, a5, a6⟩ := put_mem hkz (.slice wx (runE 12 M (putE head prev (p1, p2, p3)) 0).1.W.length wcx) (.slice lx (runE 12 M (putE head prev (p1, p2, p3)) 0).1.L.length lcx) (.bool (runE 12 M (putE head prev (p1, p2, p3)) 0).1.F)
            obtain ⟨y0, y1, y2⟩ := cells3 hkz
            have yf0 := free_laid (i := 0) hkz
            have yf1 := free_laid (i := 1) hkz
            have yf2 := free_laid (i := 2) hkz
            have HV6 := hid hV6
            have A3 := hid a3
            have HB6 := hid (a5 V.heap.size V hZV (HBVD.out.trans (HBS.out.mono hVD)))
            have HM6 := hid (a6 _ _ _ _ _ _ HMS.out)
            clear hkz hV6 a3 a5 a6 z0 z1 z2 zf0 zf1 zf2
            go_wp2
            rw [← HV6.out]
            refine bodyPost_ret (insert_result A3.out rfl rfl rfl) rfl ?_
            rw [HR.out]
            exact ⟨_, _, _, _, rfl, HM6.out, HB6.out⟩
          · skip
            refine wpMix2_h rfl fun R' hR' hO => ?_
            obtain ⟨Wa, hWa, hba, hsa, hla⟩ := laid Wc #[.slice none 0 0, .slice none 0 0, .bool false] 25
            obtain ⟨q, hq⟩ : ∃ q, Wc.heap.size = q := ⟨_, rfl⟩
            rw [hq] at hla
            have HQ := hid hla
            have HVq := hid (show D.heap.size ≤ q from by have := (HBC.out : Below D.heap.size D Wc).size; omega)
            have HBA := hid (step HBC.out hba)
            clear hba hsa hla
            go_wp2
            refine hR' _ _ ⟨⟨Wa, HBA.out⟩, rfl⟩ ?_
            clear hR' hO R'
            refine wpMix2_h rfl fun R' hR' hO => ?_
            go_wp2_with fail
            refine (HRUN.out Wa HBA.out).mono ?_
            rintro e Wr ⟨wx, wcx, lx, lcx, rfl, -, hmo, hbr⟩
            have HMO := hid ((hmo rfl).base (Nat.le_trans hVD (HBA.out : Below D.heap.size D Wa).size))
            have HBR := hid (step HBA.out hbr)
            have HQ2 := hid (keep_laid HQ.out hbr)
            clear hmo hbr
            unfold memV
            go_wp2
            refine hR' _ _ ⟨⟨Wr, HBR.out⟩, rfl⟩ ?_
            clear hR' hO R'
            obtain ⟨Ws, hWs, s1, s2, s3, s4⟩ := put_mem HQ2.out (.slice wx (runE 12 M (putE head prev (p1, p2, p3)) 0).1.W.length wcx) (.slice lx (runE 12 M (putE head prev (p1, p2, p3)) 0).1.L.length lcx) (.bool (runE 12 M (putE head prev (p1, p2, p3)) 0).1.F)
            obtain ⟨z0, z1, z2⟩ := cells3 HQ2.out
            have zf0 := free_laid (i := 0) HQ2.out
            have zf1 := free_laid (i := 1) HQ2.out
            have zf2 := free_laid (i := 2) HQ2.out
            have HWS := hid hWs
            have S1 := hid s1
            have HBS := hid (s3 D.heap.size D HVq.out HBR.out)
            have HMS := hid (s4 _ _ _ _ _ _ HMO.out)
            clear hWs s1 s2 s3 s4
            repeat (refine wpMix2_q rfl rfl ?_; go_big_quiet_step (fail); refine wpQuiet_nil ?_)
            refine wpMix2_h rfl fun R' hR' hO => ?_
            go_wp2
            rw [← HWS.out]
            refine hR' _ _ ⟨⟨Ws, HBS.out⟩, rfl⟩ ?_
            clear hR' hO R'
            repeat (refine wpMix2_q rfl rfl ?_; go_big_quiet_step (fail); refine wpQuiet_nil ?_)
            refine wpMix2_done ?_
            simp only [List.drop_succ_cons, List.drop_zero]
            have hkz := keep_laid HZD.out HBS.out
            obtain ⟨c0, c1, c2⟩ := cells3 S1.out
            obtain ⟨V6, hV6, a3, -, a5, a6⟩ := put_mem hkz (.slice wx (runE 12 M (putE head prev (p1, p2, p3)) 0).1.W.length wcx) (.slice lx (runE 12 M (putE head prev (p1, p2, p3)) 0).1.L.length lcx) (.bool (runE 12 M (putE head prev (p1, p2, p3)) 0).1.F)
            obtain ⟨y0, y1, y2⟩ := cells3 hkz
            have yf0 := free_laid (i := 0) hkz
            have yf1 := free_laid (i := 1) hkz
            have yf2 := free_laid (i := 2) hkz
            have HV6 := hid hV6
            have A3 := hid a3
            have HB6 := hid (a5 V.heap.size V hZV (HBVD.out.trans (HBS.out.mono hVD)))
            have HM6 := hid (a6 _ _ _ _ _ _ HMS.out)
            clear hkz hV6 a3 a5 a6 z0 z1 z2 zf0 zf1 zf2
            go_wp2
            rw [← HV6.out]
            refine bodyPost_ret (insert_result A3.out rfl rfl rfl) rfl ?_
            rw [HR.out]
            exact ⟨_, _, _, _, rfl, HM6.out, HB6.out⟩
    · have q9 : (((prev : Nat) : Int) != 0) = true := by simp; omega
      cases hh2 : hasN xs prev with
      | false =>
        have HR := hid (HNO.out hp hh2)
        rw [hh2] at HIN
        clear hh2 hp
        go_wp2_with fail
        refine HIN.out.mono ?_
        rintro e W2 ⟨rfl, hbw⟩
        have HUB := hid (step HUB.out hbw)
        clear hbw
        have hkz := keep_laid HZ.out HUB.out
        obtain ⟨V6, hV6, a3, -, a5, -⟩ := put_mem hkz (.slice none 0 0) (.slice none 0 0) (.bool false)
        obtain ⟨z0, z1, z2⟩ := cells3 hkz
        have zf0 := free_laid (i := 0) hkz
        have zf1 := free_laid (i := 1) hkz
        have zf2 := free_laid (i := 2) hkz
        have HV6 := hid hV6
        have A3 := hid a3
        have HB6 := hid (a5 V.heap.size V hZV (step HB2.out HUB.out))
        clear hkz hV6 a3 a5
        go_wp2
        rw [← HV6.out]
        refine bodyPost_ret (insert_result A3.out rfl rfl rfl) rfl ?_
        rw [HR.out]
        exact ⟨none, 0, none, 0, rfl, ⟨World.ownsRow_nil _ _ _ _, World.ownsRow_nil _ _ _ _⟩, HB6.out⟩
      | true =>
        have HBAD := hid (HBAD0.out (fun h => by rw [hh2] at h; cases h.2))
        have HGOOD := hid (HGOOD0.out (fun h => by rw [hh2] at h; cases h.2))
        rw [hh2] at HIN
        clear hh2 hp HNO
        go_wp2_with fail
        refine HIN.out.mono ?_
        rintro e W2 ⟨rfl, hbw⟩
        have HUB := hid (step HUB.out hbw)
        have HIDS := hid (HIDS.out.grow hbw)
        clear hbw
        obtain ⟨Wd, hWd⟩ : ∃ Wd, W = Wd := ⟨_, rfl⟩
        clear hWd Wd
        go_wp2
        go_loopg [40] 4 (fun g i wr => ∃ k : Nat, g + k = 4 ∧ i = .int .i64 ((k : Nat) : Int) ∧ Hid (∀ j < k, goodN M met (p1, p2, p3) j = true) ∧ Hid (Below W2.heap.size W2 wr))
        case atStart => exact ⟨0, rfl, rfl, hid (fun j hj => by omega), hid (Below.refl _ _)⟩
        case round =>
          obtain ⟨k, hk, rfl, hgs, hb⟩ := hrel
          have HK := hid hk
          clear hk
          by_cases hlt : k < 4
          · obtain ⟨w, hw⟩ : ∃ w, posN p1 k = w := ⟨_, rfl⟩
            have hw6 : w ≤ 1000000 := by rw [← hw]; unfold posN; omega
            have HWD := hid (word_any p1 k wr ht.1 (by omega))
            rw [hw] at HWD
            have hXr := keep_laid HX.out (step HUB.out hb.out)
            obtain ⟨x0, x1, x2⟩ := cells3 hXr
            rw [HNN.out] at x0
            rw [HMM.out] at x1
            rw [HFF.out] at x2
            obtain ⟨u0, u1, u2⟩ := cells3 (keep_laid HT.out (step HUB.out hb.out))
            have hrun := ids_run met w mb wr (HIDS.out.grow hb.out) hw6
            have hmr := HM.out.grow (step HUB.out hb.out)
            by_cases hp0 : p1 = 0
            · have HGK : Hid (goodN M met (p1, p2, p3) k = false) := hid (by unfold goodN; rw [decide_eq_true hp0]; rfl)
              have q0 : (((p1 : Nat) : Int) == 0) = true := by simp; omega
              clear hp0 hw hXr hmr
              have HR : Hid (insP M head prev (p1, p2, p3) = (zeroM, 0, 2)) := hid (HBAD.out k hlt HGK.out)
              have hkz := keep_laid HZ.out (step HUB.out hb.out)
              obtain ⟨V6, hV6, a3, -, a5, -⟩ := put_mem hkz (.slice none 0 0) (.slice none 0 0) (.bool false)
              obtain ⟨z0, z1, z2⟩ := cells3 hkz
              have zf0 := free_laid (i := 0) hkz
              have zf1 := free_laid (i := 1) hkz
              have zf2 := free_laid (i := 2) hkz
              have HV6 := hid hV6
              have A3 := hid a3
              have HB6 := hid (a5 V.heap.size V hZV (step HB2.out (step HUB.out hb.out)))
              clear hkz hV6 a3 a5
              go_wp2_with fail
              refine HWD.out.mono ?_
              rintro e Wx ⟨rfl, hwx⟩
              subst hwx
              go_wp2
              rw [← HV6.out]
              refine bodyPost_ret (insert_result A3.out rfl rfl rfl) rfl ?_
              rw [HR.out]
              exact ⟨none, 0, none, 0, rfl, ⟨World.ownsRow_nil _ _ _ _, World.ownsRow_nil _ _ _ _⟩, HB6.out⟩
            · have q0 : (((p1 : Nat) : Int) == 0) = false := by simp; omega
              by_cases hwn : n ≤ w
              · have HGK : Hid (goodN M met (p1, p2, p3) k = false) := hid (by unfold goodN freeB liveN; dsimp only; rw [hw, List.getElem?_eq_none (by have := okM_spec HOKK.out; rw [this.2.2.1, HNN.out]; exact hwn)]; simp)
                have q1 : decide (((n : Nat) : Int) ≤ ((w : Nat) : Int)) = true := decide_eq_true (by omega)
                clear hp0 hw hXr hmr
                have HR : Hid (insP M head prev (p1, p2, p3) = (zeroM, 0, 2)) := hid (HBAD.out k hlt HGK.out)
                have hkz := keep_laid HZ.out (step HUB.out hb.out)
                obtain ⟨V6, hV6, a3, -, a5, -⟩ := put_mem hkz (.slice none 0 0) (.slice none 0 0) (.bool false)
                obtain ⟨z0, z1, z2⟩ := cells3 hkz
                have zf0 := free_laid (i := 0) hkz
                have zf1 := free_laid (i := 1) hkz
                have zf2 := free_laid (i := 2) hkz
                have HV6 := hid hV6
                have A3 := hid a3
                have HB6 := hid (a5 V.heap.size V hZV (step HB2.out (step HUB.out hb.out)))
                clear hkz hV6 a3 a5
                go_wp2_with fail
                refine HWD.out.mono ?_
                rintro e Wx ⟨rfl, hwx⟩
                subst hwx
                go_wp2
                rw [← HV6.out]
                refine bodyPost_ret (insert_result A3.out rfl rfl rfl) rfl ?_
                rw [HR.out]
                exact ⟨none, 0, none, 0, rfl, ⟨World.ownsRow_nil _ _ _ _, World.ownsRow_nil _ _ _ _⟩, HB6.out⟩
              · have q1 : decide (((n : Nat) : Int) ≤ ((w : Nat) : Int)) = false := decide_eq_false (by omega)
                have hwm : w < m := by have := (okM_spec HOKK.out).2.2.1; rw [HMM.out, HNN.out] at this; omega
                obtain ⟨bl, hbl⟩ : ∃ b, M.L[w]? = some b := ⟨_, List.getElem?_eq_getElem (by rw [HMM.out]; exact hwm)⟩
                have hml := hmr.l
                rw [HMM.out] at hml
                obtain ⟨bb, oo, hla, -, hcl⟩ := hml.at hwm (bcell_at hbl)
                subst hla
                have f1 := hcl _ (Below.refl _ _)
                have HBL := hid hbl
                clear hbl hml hcl
                cases bl with
                | false =>
                  have HGK : Hid (goodN M met (p1, p2, p3) k = false) := hid (by unfold goodN freeB liveN; dsimp only; rw [hw, HBL.out]; simp)
                  clear hp0 hw hXr hmr
                  have HR : Hid (insP M head prev (p1, p2, p3) = (zeroM, 0, 2)) := hid (HBAD.out k hlt HGK.out)
                  have hkz := keep_laid HZ.out (step HUB.out hb.out)
                  obtain ⟨V6, hV6, a3, -, a5, -⟩ := put_mem hkz (.slice none 0 0) (.slice none 0 0) (.bool false)
                  obtain ⟨z0, z1, z2⟩ := cells3 hkz
                  have zf0 := free_laid (i := 0) hkz
                  have zf1 := free_laid (i := 1) hkz
                  have zf2 := free_laid (i := 2) hkz
                  have HV6 := hid hV6
                  have A3 := hid a3
                  have HB6 := hid (a5 V.heap.size V hZV (step HB2.out (step HUB.out hb.out)))
                  clear hkz hV6 a3 a5
                  go_wp2_with fail
                  refine HWD.out.mono ?_
                  rintro e Wx ⟨rfl, hwx⟩
                  subst hwx
                  go_wp2
                  rw [← HV6.out]
                  refine bodyPost_ret (insert_result A3.out rfl rfl rfl) rfl ?_
                  rw [HR.out]
                  exact ⟨none, 0, none, 0, rfl, ⟨World.ownsRow_nil _ _ _ _, World.ownsRow_nil _ _ _ _⟩, HB6.out⟩
                | true =>
                  by_cases hmem : w ∈ met
                  · rw [if_pos hmem] at hrun
                    have HGK : Hid (goodN M met (p1, p2, p3) k = false) := hid (by unfold goodN freeB liveN; dsimp only; rw [hw, HBL.out, decide_eq_true hmem]; simp)
                    clear hp0 hw hXr hmr hmem
                    have HR : Hid (insP M head prev (p1, p2, p3) = (zeroM, 0, 2)) := hid (HBAD.out k hlt HGK.out)
                    have hkz := keep_laid HZ.out (step HUB.out hb.out)
                    obtain ⟨V6, hV6, a3, -, a5, -⟩ := put_mem hkz (.slice none 0 0) (.slice none 0 0) (.bool false)
                    obtain ⟨z0, z1, z2⟩ := cells3 hkz
                    have zf0 := free_laid (i := 0) hkz
                    have zf1 := free_laid (i := 1) hkz
                    have zf2 := free_laid (i := 2) hkz
                    have HV6 := hid hV6
                    have A3 := hid a3
                    have HB6 := hid (a5 V.heap.size V hZV (step HB2.out (step HUB.out hb.out)))
                    clear hkz hV6 a3 a5
                    go_wp2_with fail
                    refine HWD.out.mono ?_
                    rintro e Wx ⟨rfl, hwx⟩
                    subst hwx
                    go_wp2
                    rw [← HV6.out]
                    refine bodyPost_ret (insert_result A3.out rfl rfl rfl) rfl ?_
                    rw [HR.out]
                    exact ⟨none, 0, none, 0, rfl, ⟨World.ownsRow_nil _ _ _ _, World.ownsRow_nil _ _ _ _⟩, HB6.out⟩
                  · rw [if_neg hmem] at hrun
                    have HGK : Hid (goodN M met (p1, p2, p3) k = true) := hid (by unfold goodN freeB liveN; dsimp only; rw [hw, HBL.out, decide_eq_false hmem, decide_eq_false hp0]; rfl)
                    clear hp0 hw hXr hmr hmem
                    go_wp2_with fail
                    refine HWD.out.mono ?_
                    rintro e Wx ⟨rfl, hwx⟩
                    subst hwx
                    go_wp2
                    go_roundg (gk - 1)
                    case measure => have := HK.out; omega
                    case rel => exact ⟨k + 1, by have := HK.out; omega, by go_num, hid (fun j hj => by
                      by_cases e : j = k
                      · subst e; exact HGK.out
                      · exact hgs.out j (by omega)), hb⟩
          · have e4 : k = 4 := by have := HK.out; omega
            have HR := hid (HGOOD.out (fun j hj => hgs.out j (by omega)))
            subst e4
            have HUB := hid (step HUB.out hb.out)
            clear HK hgs hlt
            go_upto_region 13 with (fail)
            obtain ⟨D, hD⟩ : ∃ D, wr.drew = D := ⟨_, rfl⟩
            have hbD : Below wr.heap.size wr D := by rw [← hD]; exact (Below.refl _ _).drew
            have HD := hid hD
            have HB2D := hid (step HUB.out hbD)
            have HBVD := hid (step HB2.out HB2D.out)
            have hVD : V.heap.size ≤ D.heap.size := HBVD.out.size
            have HXD := hid (keep_laid HX.out HB2D.out)
            have HTD := hid (keep_laid HT.out HB2D.out)
            have HZD := hid (keep_laid HZ.out HB2D.out)
            have HRUN := hid (fun W (hb : Below D.heap.size D W) => HRUN.out W (HB2D.out.trans (hb.mono HB2D.out.size)) HOKK.out)
            have r0 : ∀ z : Ext D, z.v.cell? ⟨X, 0, none⟩ = some (.slice wa n wc) := fun z => by have := cell_laid (i := 0) (keep_laid HXD.out z.b) rfl; rw [HNN.out] at this; exact this
            have r1 : ∀ z : Ext D, z.v.cell? ⟨X, 1, none⟩ = some (.slice la m lc) := fun z => by have := cell_laid (i := 1) (keep_laid HXD.out z.b) rfl; rw [HMM.out] at this; exact this
            have r2 : ∀ z : Ext D, z.v.cell? ⟨X, 2, none⟩ = some (.bool F) := fun z => by have := cell_laid (i := 2) (keep_laid HXD.out z.b) rfl; rw [HFF.out] at this; exact this
            have r3 : ∀ z : Ext D, z.v.cell? ⟨T, 0, none⟩ = some (.int .u64 ((p1 : Nat) : Int)) := fun z => cell_laid (i := 0) (keep_laid HTD.out z.b) rfl
            have r4 : ∀ z : Ext D, z.v.cell? ⟨T, 1, none⟩ = some (.int .u64 ((p2 : Nat) : Int)) := fun z => cell_laid (i := 1) (keep_laid HTD.out z.b) rfl
            have r5 : ∀ z : Ext D, z.v.cell? ⟨T, 2, none⟩ = some (.int .u64 ((p3 : Nat) : Int)) := fun z => cell_laid (i := 2) (keep_laid HTD.out z.b) rfl
            clear hD hbD
            refine wp_region_mix2 (fun V => ∃ z : Ext D, V = z.v) 12 (.q 0 (.q 1 (.q 2 (.q 3 (.h2 4 (.h2 5 (.q 6 (.q 7 (.q 8 (.h 9 (.h 10 (.q 11 (.done))))))) 9 (.h 5 (.q 6 (.q 7 (.q 8 (.h 10 (.q 11 (.done)))))))) 9 (.h 4 (.h 5 (.q 6 (.q 7 (.q 8 (.h 10 (.q 11 (.done))))))))))))) (by kernel_rfl) (by kernel_rfl) (by rw [HD.out]; exact ⟨⟨D, Below.refl _ _⟩, rfl⟩) ?_
            rw [HD.out]
            repeat (refine wpMix2_q rfl rfl ?_; go_big_quiet_step (fail); refine wpQuiet_nil ?_)
            refine wpMix2_h2 ?_ ?_
            rotate_left
            refine wpMix2_h rfl fun R' hR' hO => ?_
            obtain ⟨Wa, hWa, hba, hsa, hla⟩ := laid D #[.slice none 0 0, .slice none 0 0, .bool false] 25
            obtain ⟨q, hq⟩ : ∃ q, D.heap.size = q := ⟨_, rfl⟩
            rw [hq] at hla
            have HQ := hid hla
            have HVq := hid (show D.heap.size ≤ q from by have := ((Below.refl _ _) : Below D.heap.size D D).size; omega)
            have HBA := hid (step (Below.refl _ _) hba)
            clear hba hsa hla
            go_wp2
            refine hR' _ _ ⟨⟨Wa, HBA.out⟩, rfl⟩ ?_
            clear hR' hO R'
            refine wpMix2_h rfl fun R' hR' hO => ?_
            go_wp2_with fail
            refine (HPUT.out Wa).mono ?_
            rintro e Wc ⟨rfl, hbc⟩
            have HBC := hid (step HBA.out hbc)
            have HQ1 := hid (keep_laid HQ.out hbc)
            clear hbc
            go_wp2
            refine hR' _ _ ⟨⟨Wc, HBC.out⟩, rfl⟩ ?_
            clear hR' hO R'
            refine wpMix2_h rfl fun R' hR' hO => ?_
            go_wp2_with fail
            refine (HRUN.out Wc HBC.out).mono ?_
            rintro e Wr ⟨wx, wcx, lx, lcx, rfl, -, hmo, hbr⟩
            have HMO := hid ((hmo rfl).base (Nat.le_trans hVD (HBC.out : Below D.heap.size D Wc).size))
            have HBR := hid (step HBC.out hbr)
            have HQ2 := hid (keep_laid HQ1.out hbr)
            clear hmo hbr
            unfold memV
            go_wp2
            refine hR' _ _ ⟨⟨Wr, HBR.out⟩, rfl⟩ ?_
            clear hR' hO R'
            obtain ⟨Ws, hWs, s1, s2, s3, s4⟩ := put_mem HQ2.out (.slice wx (runE 12 M (putE head prev (p1, p2, p3)) 0).1.W.length wcx) (.slice lx (runE 12 M (putE head prev (p1, p2, p3)) 0).1.L.length lcx) (.bool (runE 12 M (putE head prev (p1, p2, p3)) 0).1.F)
            obtain ⟨z0, z1, z2⟩ := cells3 HQ2.out
            have zf0 := free_laid (i := 0) HQ2.out
            have zf1 := free_laid (i := 1) HQ2.out
            have zf2 := free_laid (i := 2) HQ2.out
            have HWS := hid hWs
            have S1 := hid s1
            have HBS := hid (s3 D.heap.size D HVq.out HBR.out)
            have HMS := hid (s4 _ _ _ _ _ _ HMO.out)
            clear hWs s1 s2 s3 s4
            repeat (refine wpMix2_q rfl rfl ?_; go_big_quiet_step (fail); refine wpQuiet_nil ?_)
            refine wpMix2_h rfl fun R' hR' hO => ?_
            go_wp2
            rw [← HWS.out]
            refine hR' _ _ ⟨⟨Ws, HBS.out⟩, rfl⟩ ?_
            clear hR' hO R'
            repeat (refine wpMix2_q rfl rfl ?_; go_big_quiet_step (fail); refine wpQuiet_nil ?_)
            refine wpMix2_done ?_
            simp only [List.drop_succ_cons, List.drop_zero]
            have hkz := keep_laid HZD.out HBS.out
            obtain ⟨c0, c1, c2⟩ := cells3 S1.out
            obtain ⟨V6, hV6, a3, -, a5, a6⟩ := put_mem hkz (.slice wx (runE 12 M (putE head prev (p1, p2, p3)) 0).1.W.length wcx) (.slice lx (runE 12 M (putE head prev (p1, p2, p3)) 0).1.L.length lcx) (.bool (runE 12 M (putE head prev (p1, p2, p3)) 0).1.F)
            obtain ⟨y0, y1, y2⟩ := cells3 hkz
            have yf0 := free_laid (i := 0) hkz
            have yf1 := free_laid (i := 1) hkz
            have yf2 := free_laid (i := 2) hkz
            have HV6 := hid hV6
            have A3 := hid a3
            have HB6 := hid (a5 V.heap.size V hZV (HBVD.out.trans (HBS.out.mono hVD)))
            have HM6 := hid (a6 _ _ _ _ _ _ HMS.out)
            clear hkz hV6 a3 a5 a6 z0 z1 z2 zf0 zf1 zf2
            go_wp2
            rw [← HV6.out]
            refine bodyPost_ret (insert_result A3.out rfl rfl rfl) rfl ?_
            rw [HR.out]
            exact ⟨_, _, _, _, rfl, HM6.out, HB6.out⟩
            refine wpMix2_h rfl fun R' hR' hO => ?_
            go_wp2_with fail
            refine (HPUT.out D).mono ?_
            rintro e Wc ⟨rfl, hbc⟩
            have HBC := hid (step (Below.refl _ _) hbc)
            clear hbc
            go_wp2
            refine hR' _ _ ⟨⟨Wc, HBC.out⟩, rfl⟩ ?_
            clear hR' hO R'
            refine wpMix2_h2 ?_ ?_
            · skip
              refine wpMix2_h rfl fun R' hR' hO => ?_
              go_wp2_with fail
              refine (HRUN.out Wc HBC.out).mono ?_
              rintro e Wr ⟨wx, wcx, lx, lcx, rfl, -, hmo, hbr⟩
              have HMO := hid ((hmo rfl).base (Nat.le_trans hVD (HBC.out : Below D.heap.size D Wc).size))
              have HBR := hid (step HBC.out hbr)
              clear hmo hbr
              unfold memV
              go_wp2
              refine hR' _ _ ⟨⟨Wr, HBR.out⟩, rfl⟩ ?_
              clear hR' hO R'
              repeat (refine wpMix2_q rfl rfl ?_; go_big_quiet_step (fail); refine wpQuiet_nil ?_)
              refine wpMix2_h rfl fun R' hR' hO => ?_
              obtain ⟨Wa, hWa, hba, hsa, hla⟩ := laid Wr #[.slice none 0 0, .slice none 0 0, .bool false] 25
              obtain ⟨q, hq⟩ : ∃ q, Wr.heap.size = q := ⟨_, rfl⟩
              rw [hq] at hla
              have HQ := hid hla
              have HVq := hid (show D.heap.size ≤ q from by have := (HBR.out : Below D.heap.size D Wr).size; omega)
              have HBA := hid (step HBR.out hba)
              have HMA := hid (HMO.out.grow hba)
              clear hba hsa hla
              go_wp2
              refine hR' _ _ ⟨⟨Wa, HBA.out⟩, rfl⟩ ?_
              clear hR' hO R'
              obtain ⟨Ws, hWs, s1, s2, s3, s4⟩ := put_mem HQ.out (.slice wx (runE 12 M (putE head prev (p1, p2, p3)) 0).1.W.length wcx) (.slice lx (runE 12 M (putE head prev (p1, p2, p3)) 0).1.L.length lcx) (.bool (runE 12 M (putE head prev (p1, p2, p3)) 0).1.F)
              obtain ⟨z0, z1, z2⟩ := cells3 HQ.out
              have zf0 := free_laid (i := 0) HQ.out
              have zf1 := free_laid (i := 1) HQ.out
              have zf2 := free_laid (i := 2) HQ.out
              have HWS := hid hWs
              have S1 := hid s1
              have HBS := hid (s3 D.heap.size D HVq.out HBA.out)
              have HMS := hid (s4 _ _ _ _ _ _ HMA.out)
              clear hWs s1 s2 s3 s4
              repeat (refine wpMix2_q rfl rfl ?_; go_big_quiet_step (fail); refine wpQuiet_nil ?_)
              refine wpMix2_h rfl fun R' hR' hO => ?_
              go_wp2
              rw [← HWS.out]
              refine hR' _ _ ⟨⟨Ws, HBS.out⟩, rfl⟩ ?_
              clear hR' hO R'
              repeat (refine wpMix2_q rfl rfl ?_; go_big_quiet_step (fail); refine wpQuiet_nil ?_)
              refine wpMix2_done ?_
              simp only [List.drop_succ_cons, List.drop_zero]
              have hkz := keep_laid HZD.out HBS.out
              obtain ⟨c0, c1, c2⟩ := cells3 S1.out
              obtain ⟨V6, hV6, a3, -, a5, a6⟩ := put_mem hkz (.slice wx (runE 12 M (putE head prev (p1, p2, p3)) 0).1.W.length wcx) (.slice lx (runE 12 M (putE head prev (p1, p2, p3)) 0).1.L.length lcx) (.bool (runE 12 M (putE head prev (p1, p2, p3)) 0).1.F)
              obtain ⟨y0, y1, y2⟩ := cells3 hkz
              have yf0 := free_laid (i := 0) hkz
              have yf1 := free_laid (i := 1) hkz
              have yf2 := free_laid (i := 2) hkz
              have HV6 := hid hV6
              have A3 := hid a3
              have HB6 := hid (a5 V.heap.size V hZV (HBVD.out.trans (HBS.out.mono hVD)))
              have HM6 := hid (a6 _ _ _ _ _ _ HMS.out)
              clear hkz hV6 a3 a5 a6 z0 z1 z2 zf0 zf1 zf2
              go_wp2
              rw [← HV6.out]
              refine bodyPost_ret (insert_result A3.out rfl rfl rfl) rfl ?_
              rw [HR.out]
              exact ⟨_, _, _, _, rfl, HM6.out, HB6.out⟩
            · skip
              refine wpMix2_h rfl fun R' hR' hO => ?_
              obtain ⟨Wa, hWa, hba, hsa, hla⟩ := laid Wc #[.slice none 0 0, .slice none 0 0, .bool false] 25
              obtain ⟨q, hq⟩ : ∃ q, Wc.heap.size = q := ⟨_, rfl⟩
              rw [hq] at hla
              have HQ := hid hla
              have HVq := hid (show D.heap.size ≤ q from by have := (HBC.out : Below D.heap.size D Wc).size; omega)
              have HBA := hid (step HBC.out hba)
              clear hba hsa hla
              go_wp2
              refine hR' _ _ ⟨⟨Wa, HBA.out⟩, rfl⟩ ?_
              clear hR' hO R'
              refine wpMix2_h rfl fun R' hR' hO => ?_
              go_wp2_with fail
              refine (HRUN.out Wa HBA.out).mono ?_
              rintro e Wr ⟨wx, wcx, lx, lcx, rfl, -, hmo, hbr⟩
              have HMO := hid ((hmo rfl).base (Nat.le_trans hVD (HBA.out : Below D.heap.size D Wa).size))
              have HBR := hid (step HBA.out hbr)
              have HQ2 := hid (keep_laid HQ.out hbr)
              clear hmo hbr
              unfold memV
              go_wp2
              refine hR' _ _ ⟨⟨Wr, HBR.out⟩, rfl⟩ ?_
              clear hR' hO R'
              obtain ⟨Ws, hWs, s1, s2, s3, s4⟩ := put_mem HQ2.out (.slice wx (runE 12 M (putE head prev (p1, p2, p3)) 0).1.W.length wcx) (.slice lx (runE 12 M (putE head prev (p1, p2, p3)) 0).1.L.length lcx) (.bool (runE 12 M (putE head prev (p1, p2, p3)) 0).1.F)
              obtain ⟨z0, z1, z2⟩ := cells3 HQ2.out
              have zf0 := free_laid (i := 0) HQ2.out
              have zf1 := free_laid (i := 1) HQ2.out
              have zf2 := free_laid (i := 2) HQ2.out
              have HWS := hid hWs
              have S1 := hid s1
              have HBS := hid (s3 D.heap.size D HVq.out HBR.out)
              have HMS := hid (s4 _ _ _ _ _ _ HMO.out)
              clear hWs s1 s2 s3 s4
              repeat (refine wpMix2_q rfl rfl ?_; go_big_quiet_step (fail); refine wpQuiet_nil ?_)
              refine wpMix2_h rfl fun R' hR' hO => ?_
              go_wp2
              rw [← HWS.out]
              refine hR' _ _ ⟨⟨Ws, HBS.out⟩, rfl⟩ ?_
              clear hR' hO R'
              repeat (refine wpMix2_q rfl rfl ?_; go_big_quiet_step (fail); refine wpQuiet_nil ?_)
              refine wpMix2_done ?_
              simp only [List.drop_succ_cons, List.drop_zero]
              have hkz := keep_laid HZD.out HBS.out
              obtain ⟨c0, c1, c2⟩ := cells3 S1.out
              obtain ⟨V6, hV6, a3, -, a5, a6⟩ := put_mem hkz (.slice wx (runE 12 M (putE head prev (p1, p2, p3)) 0).1.W.length wcx) (.slice lx (runE 12 M (putE head prev (p1, p2, p3)) 0).1.L.length lcx) (.bool (runE 12 M (putE head prev (p1, p2, p3)) 0).1.F)
              obtain ⟨y0, y1, y2⟩ := cells3 hkz
              have yf0 := free_laid (i := 0) hkz
              have yf1 := free_laid (i := 1) hkz
              have yf2 := free_laid (i := 2) hkz
              have HV6 := hid hV6
              have A3 := hid a3
              have HB6 := hid (a5 V.heap.size V hZV (HBVD.out.trans (HBS.out.mono hVD)))
              have HM6 := hid (a6 _ _ _ _ _ _ HMS.out)
              clear hkz hV6 a3 a5 a6 z0 z1 z2 zf0 zf1 zf2
              go_wp2
              rw [← HV6.out]
              refine bodyPost_ret (insert_result A3.out rfl rfl rfl) rfl ?_
              rw [HR.out]
              exact ⟨_, _, _, _, rfl, HM6.out, HB6.out⟩
  · have hcne : ((((code : Nat) : Int)) != 0) = true := by simp; omega
    have HR : Hid (insP M head prev (p1, p2, p3) = (zeroM, 0, code)) := hid (by
      have he := HEQ.out
      unfold lookN at he
      unfold insP
      cases hok : okM M with
      | false => rw [hok, if_pos rfl] at he; cases he; rfl
      | true =>
        rw [hok, if_neg (by decide)] at he
        rw [if_neg (by decide)]
        cases hnn : nodesN M head with
        | none => rw [hnn] at he; cases he; rfl
        | some r => rw [hnn] at he; obtain ⟨r1, r2⟩ := r; cases he; exact absurd rfl hc)
    clear hc hlk hU hlv hq
    have hkz := keep_laid HZ.out HUB.out
    obtain ⟨V6, hV6, a3, -, a5, -⟩ := put_mem hkz (.slice none 0 0) (.slice none 0 0) (.bool false)
    obtain ⟨z0, z1, z2⟩ := cells3 hkz
    have zf0 := free_laid (i := 0) hkz
    have zf1 := free_laid (i := 1) hkz
    have zf2 := free_laid (i := 2) hkz
    have HV6 := hid hV6
    have A3 := hid a3
    have HB6 := hid (a5 V.heap.size V hZV (step HB2.out HUB.out))
    clear hkz hV6 a3 a5
    go_wp2
    rw [← HV6.out]
    refine bodyPost_ret (insert_result A3.out rfl rfl rfl) rfl ?_
    rw [HR.out]
    exact ⟨none, 0, none, 0, rfl, ⟨World.ownsRow_nil _ _ _ _, World.ownsRow_nil _ _ _ _⟩, HB6.out⟩
end Go.Proofs.Ytoihjmdpbbcbjaa
