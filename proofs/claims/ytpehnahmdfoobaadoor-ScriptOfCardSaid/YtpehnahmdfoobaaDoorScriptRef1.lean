/- The document's answer for layer 3: bits, and runs. -/
import Derived.Test.YtpehnahmdfoobaaDoorScript12
import Derived.Test.YtpehnahmdfoobaaDoorScript4
import Derived.Test.YtpehnahmdfoobaaDoorScriptPlain5
import Derived.Test.YtpehnahmdfoobaaDoorScript18
namespace Go.Proofs.YtpehnahmdfoobaaDoor
open Go.RowKit
open Go.Proofs
set_option linter.unusedVariables false

def pw (n : Nat) : Nat := 2 ^ n
theorem pw_pos (n : Nat) : 1 ≤ pw n := Pl.pow_pos n
theorem pw_le {a b : Nat} (h : a ≤ b) : pw a ≤ pw b := Pl.pow_mono h
theorem pw_62 {n : Nat} (h : n ≤ 62) : pw n ≤ 4611686018427387904 := pw_le (b := 62) h
theorem pw_succ (n : Nat) : pw (n + 1) = 2 * pw n := by unfold pw; rw [Nat.pow_succ, Nat.mul_comm]
theorem Power_any (n : Nat) (w : World) (hn : n ≤ 63) : Calls Tryd.prog 45 #[.int .i64 (n : Nat)] w (Ret (.int .u64 ((pw n : Nat) : Int)) w) := by
  go_enter Tryd.func45, Tryd.ntmps45
  go_wp2
  go_loopg [3, 5] n (fun g x i wr => ∃ k : Nat, g + k = n ∧ i = .int .i64 (k : Nat) ∧ x = .int .u64 ((pw k : Nat) : Int) ∧ w = wr)
  case atStart => exact ⟨0, rfl, rfl, rfl, rfl⟩
  case round =>
    obtain ⟨k, hk, rfl, rfl, rfl⟩ := hrel
    have HK := hid hk
    clear hk
    by_cases hlt : k < n
    · have h1 := pw_62 (n := k) (by omega)
      have E := hid (pw_succ k)
      go_wp2
      go_roundg (gk - 1)
      case measure => have := HK.out; omega
      case rel => exact ⟨k + 1, by have := HK.out; omega, by go_num, by rw [E.out]; go_num, rfl⟩
    · have e : k = n := by have := HK.out; omega
      subst e
      go_wp2
      go_ret
      exact ⟨rfl, Below.refl _ _⟩
theorem shr_succ (x k : Nat) : Pl.shr x (k + 1) = Pl.shr x k / 2 := by unfold Pl.shr; rw [Nat.pow_succ, Nat.div_div_eq_div_mul]
theorem shr_zero (x k n : Nat) (h : Pl.shr x k = 0) (hkn : k ≤ n) : Pl.shr x n = 0 := by
  unfold Pl.shr at *
  have h1 : x / 2 ^ n ≤ x / 2 ^ k := Nat.div_le_div_left (Pl.pow_mono hkn) (Pl.pow_pos k)
  rw [h] at h1
  exact Nat.eq_zero_of_le_zero h1
theorem rRight_any (x n : Nat) (w : World) (hx : x < 18446744073709551616) (hn : n ≤ 9223372036854775807) : Calls Tryd.prog 44 #[.int .u64 (x : Nat), .int .i64 (n : Nat)] w (Ret (.int .u64 ((Pl.shr x n : Nat) : Int)) w) := by
  go_enter Tryd.func44, Tryd.ntmps44
  go_wp2
  go_loopg [0, 5] n (fun g v i wr => ∃ k y : Nat, g + k = n ∧ i = .int .i64 (k : Nat) ∧ v = .int .u64 (y : Nat) ∧ y < 18446744073709551616 ∧ Hid (y = Pl.shr x k) ∧ w = wr)
  case atStart => exact ⟨0, x, rfl, rfl, rfl, hx, hid (by simp [Pl.shr]), rfl⟩
  case round =>
    obtain ⟨k, y, hk, rfl, rfl, hy, hyk, rfl⟩ := hrel
    have HK := hid hk
    clear hk
    by_cases hlt : k < n
    · by_cases h0 : y = 0
      · subst h0
        have e : Pl.shr x n = 0 := shr_zero x k n hyk.out.symm (by omega)
        have E := hid e
        clear e hyk
        go_wp2
        go_ret
        exact ⟨by rw [E.out]; rfl, Below.refl _ _⟩
      · obtain ⟨q, hq⟩ : ∃ q, y / 2 = q := ⟨_, rfl⟩
        have hq2 : ((y : Nat) : Int) / 2 = (q : Int) := by omega
        have hs : q = Pl.shr x (k + 1) := by rw [shr_succ, ← hyk.out, hq]
        have HS := hid hs
        have hy0 : 0 < y := by omega
        have hql : q < 18446744073709551616 := by omega
        clear hs hyk h0 hq
        go_wp2
        go_roundg (gk - 1)
        case measure => have := HK.out; omega
        case rel => exact ⟨k + 1, q, by have := HK.out; omega, by go_num, rfl, hql, HS, rfl⟩
    · have e : k = n := by have := HK.out; omega
      subst e
      have E := hid hyk.out
      clear hyk
      go_wp2
      all_goals go_ret
      all_goals exact ⟨by rw [← E.out]; rfl, Below.refl _ _⟩
theorem shr_lt {x n : Nat} (h : x < 18446744073709551616) : Pl.shr x n < 18446744073709551616 := Nat.lt_of_le_of_lt (Nat.div_le_self _ _) h
/-- So many bits of a word. -/
theorem bits_any (x a c : Nat) (w : World) (hx : x < 18446744073709551616) (ha : a ≤ 64) (hc : c ≤ 8) :
    Calls Tryd.prog 30 #[.int .u64 (x : Nat), .int .i64 (a : Nat), .int .i64 (c : Nat)] w (Ret (.int .i64 ((Pl.get x a c : Nat) : Int)) w) := by
  have HS := hid (rRight_any x a w hx (by omega))
  have HP := hid fun V => Power_any c V (by omega)
  have hg : Pl.get x a c = Pl.shr x a % pw c := rfl
  obtain ⟨y, hy⟩ : ∃ y, Pl.shr x a = y := ⟨_, rfl⟩
  obtain ⟨p, hp⟩ : ∃ p, pw c = p := ⟨_, rfl⟩
  have hyl : y < 18446744073709551616 := by rw [← hy]; exact shr_lt hx
  have hp1 : 1 ≤ p := by rw [← hp]; exact pw_pos c
  have hp8 : p ≤ 256 := by rw [← hp]; exact pw_le (b := 8) hc
  rw [hy] at HS hg
  rw [hp] at HP hg
  obtain ⟨G, hG⟩ : ∃ G, Pl.get x a c = G := ⟨_, rfl⟩
  have hmod : ((y : Nat) : Int) % ((p : Nat) : Int) = ((G : Nat) : Int) := by rw [← hG, hg]; rfl
  have hG8 : G < 256 := by rw [← hG, hg]; exact Nat.lt_of_lt_of_le (Nat.mod_lt _ hp1) hp8
  rw [hG]
  have hp0 : ¬ ((p : Nat) : Int) = 0 := by omega
  clear hy hp hg hG
  go_enter Tryd.func30, Tryd.ntmps30
  go_wp2_with fail
  refine HS.out.mono ?_
  rintro e w1 ⟨rfl, hb1⟩
  go_wp2_with fail
  refine (HP.out _).mono ?_
  rintro e w2 ⟨rfl, hb2⟩
  go_wp2
  go_ret
  exact ⟨rfl, step hb1 hb2⟩
theorem icells_at2 {l : List Int} {k : Nat} {z : Int} (h : l[k]? = some z) : (icells l)[k]? = some (.int .i64 z) := by unfold icells; rw [List.getElem?_map, h]; rfl
theorem rcells_app (a b : List (Int × Nat)) : rcells (a ++ b) = rcells a ++ rcells b := by simp [rcells]
theorem rcells_last (pre : List (Int × Nat)) (c : Int) (q : Nat) : (rcells (pre ++ [(c, q)]))[pre.length * 2]? = some (.int .i64 c) ∧ (rcells (pre ++ [(c, q)]))[pre.length * 2 + 1]? = some (.int .i64 ((q : Nat) : Int)) := by
  have h := rcells_len pre
  rw [rcells_app]
  constructor
  · rw [List.getElem?_append_right (by omega), h, Nat.sub_self]; rfl
  · rw [List.getElem?_append_right (by omega), h, Nat.add_sub_cancel_left]; rfl
theorem nil_or_snoc {α : Type} (l : List α) : l = [] ∨ ∃ pre p, l = pre ++ [p] := by
  rcases List.eq_nil_or_concat l with h | ⟨a, b, h⟩
  · exact .inl h
  · exact .inr ⟨a, b, by rw [h, List.concat_eq_append]⟩
theorem rcells_set (pre : List (Int × Nat)) (c : Int) (q q' : Nat) : (rcells (pre ++ [(c, q)])).set (pre.length * 2 + 1) (.int .i64 ((q' : Nat) : Int)) = rcells (pre ++ [(c, q')]) := by
  have h := rcells_len pre
  rw [rcells_app, rcells_app, List.set_append_right _ _ (by omega), h, Nat.add_sub_cancel_left]
  rfl

set_option maxRecDepth 100000 in
set_option maxHeartbeats 4000000 in
theorem RefRuns_any (l : List Int) (a : Option Addr) (n cap : Nat) (w : World) (hl : l.length = n) (hn : n ≤ 5000) (h : Leads w a n cap (icells l)) :
    Calls Tryd.prog 24 #[.slice a n cap] w (PairsP (runsL l) w) := by
  have HL := hid hl
  have H := hid h
  have hml := h.len
  clear hl h
  go_enter Tryd.func24, Tryd.ntmps24
  go_wp2
  go_loopg [3, 9] n (fun g t3 i V => ∃ (k m : Nat) (ps : List (Int × Nat)) (va : Option Addr) (vc : Nat), g + k = n ∧ i = .int .i64 (k : Nat) ∧ t3 = .slice va m vc ∧ Hid (ps = runsL (l.take k)) ∧ Hid (ps.length = m) ∧ m ≤ k ∧ (∀ p ∈ ps, p.2 ≤ 256) ∧ Hid (V.ownsRow w.heap.size 26 2 (.slice va m vc) m (rcells ps)) ∧ Below w.heap.size w V)
  case atStart => exact ⟨0, 0, [], none, 0, rfl, rfl, rfl, hid rfl, hid rfl, Nat.le_refl _, (fun p hp => by cases hp), World.ownsRow_nil _ _ _ _, Below.refl _ _⟩
  case round =>
    obtain ⟨k, m, ps, va, vc, hk, rfl, rfl, hps, hm, hmk, hq2, ho, hb⟩ := hrel
    have HK := hid hk
    have HQ := hid hq2
    clear hk hq2
    by_cases hlt : k < n
    · obtain ⟨z, hz⟩ : ∃ z, l[k]? = some z := ⟨_, List.getElem?_eq_getElem (by rw [HL.out]; exact hlt)⟩
      have HZ := hid hz
      obtain ⟨b, off, rfl, -, hc⟩ := H.out.at hlt (icells_at2 hz)
      have f1 := hc wr hb
      clear hz hc
      by_cases hcond : ∃ pre q, ps = pre ++ [(z, q)] ∧ q < 256
      · obtain ⟨pre, q, rfl, hq⟩ := hcond
        have hst : Hid (pre ++ [(z, q + 1)] = runsL (l.take (k + 1))) := hid (by rw [runs_next HZ.out, ← hps.out, stepR_last, if_pos ⟨rfl, hq⟩])
        obtain ⟨j, hj⟩ : ∃ j, pre.length = j := ⟨_, rfl⟩
        obtain rfl : m = j + 1 := by rw [← hm.out, List.length_append, hj]; rfl
        have hj1 : (((j + 1 : Nat) : Int)) - 1 = ((j : Nat) : Int) := by omega
        obtain ⟨gb, rfl⟩ : ∃ gb, va = some ⟨gb, 0, none⟩ := by
          rcases ho.out.2 with ⟨h0, _⟩ | ⟨gb, c, cur, e, -⟩
          · cases h0
          · simp only [Value.slice.injEq] at e; exact ⟨gb, e.1⟩
        have hgb : w.heap.size ≤ gb := (ho.out.lt gb rfl).1
        have c0 : wr.cell? ⟨gb, j * 2, none⟩ = some (.int .i64 z) := by rw [ho.out.cellAt (j * 2) (by omega), ← hj]; exact (rcells_last pre z q).1
        have c1 : wr.cell? ⟨gb, j * 2 + 1, none⟩ = some (.int .i64 ((q : Nat) : Int)) := by rw [ho.out.cellAt (j * 2 + 1) (by omega), ← hj]; exact (rcells_last pre z q).2
        have d1 : ∀ x : Ext wr, x.v.cell? ⟨gb, j * 2 + 1, none⟩ = some (.int .i64 ((q : Nat) : Int)) := fun x => (x.b.cell (p := ⟨gb, j * 2 + 1, none⟩) (block_lt_of_cell c1)).trans c1
        obtain ⟨wd, hwd⟩ : ∃ wd, wr.drew = wd := ⟨_, rfl⟩
        have hbd : Below wr.heap.size wr wd := by rw [← hwd]; exact (Below.refl _ _).drew
        have hod := own_grow ho.out hbd
        have hfr := hod.frozenAt (j * 2 + 1)
        have hfc := (hbd.cell (p := ⟨gb, j * 2 + 1, none⟩) (block_lt_of_cell c1)).trans c1
        obtain ⟨q1, hq1⟩ : ∃ q1, q + 1 = q1 := ⟨_, rfl⟩
        have hq1I : ((q : Nat) : Int) + 1 = ((q1 : Nat) : Int) := by omega
        have HST := hid (show (wd.setCell ⟨gb, j * 2 + 1, none⟩ (.int .i64 ((q1 : Nat) : Int))).ownsRow w.heap.size 26 2 (.slice (some ⟨gb, 0, none⟩) (j + 1) vc) (j + 1) (rcells (pre ++ [(z, q1)])) by
          have := (hod.stored (j * 2 + 1) (.int .i64 ((q1 : Nat) : Int))).1
          rwa [← hj, rcells_set, hj] at this)
        have HB := hid ((step hb hbd).setCell (p := ⟨gb, j * 2 + 1, none⟩) hgb (.int .i64 ((q1 : Nat) : Int)))
        have HJ := hid hj
        have hqz : (z == z) = true := by simp
        have tq : decide (((q : Nat) : Int) < 256) = true := decide_eq_true (by omega)
        rw [hq1] at hst
        have HQ1 : Hid (∀ p ∈ pre ++ [(z, q1)], p.2 ≤ 256) := hid (by
          intro p hp
          rcases List.mem_append.1 hp with hp | hp
          · exact HQ.out p (by simp [hp])
          · rw [List.mem_singleton.1 hp]; show q1 ≤ 256; omega)
        have HLN : Hid ((pre ++ [(z, q1)]).length = j + 1) := hid (by rw [List.length_append, hj]; rfl)
        clear hj hq1 ho hm hps hod hbd
        go_upto_region 7 with (fail)
        refine wp_region_mix2 (fun V => ∃ x : Ext wr, V = x.v) 10 (.q 0 (.q 1 (.q 2 (.q 3 (.q 4 (.q 5 (.q 6 (.q 7 (.q 8 (.q 9 (.done))))))))))) (by kernel_rfl) (by kernel_rfl) ⟨⟨_, (Below.refl _ _).drew⟩, rfl⟩ ?_
        repeat (refine wpMix2_q rfl rfl ?_; go_big_quiet_step (fail); refine wpQuiet_nil ?_)
        refine wpMix2_done ?_
        simp only [List.drop_succ_cons, List.drop_zero]
        rw [hwd]
        go_wp2
        go_roundg (gk - 1)
        case measure => have := HK.out; omega
        case rel => exact ⟨k + 1, j + 1, _, _, _, by have := HK.out; omega, by go_num, rfl, hst, HLN, by omega, HQ1.out, HST, HB.out⟩
      · have hst : Hid (ps ++ [(z, 1)] = runsL (l.take (k + 1))) := hid (by
          rw [runs_next HZ.out, ← hps.out]
          rcases nil_or_snoc ps with rfl | ⟨pre, p, rfl⟩
          · rfl
          · obtain ⟨c, q⟩ := p
            rw [stepR_last, if_neg (fun h => hcond ⟨pre, q, by rw [← h.1], h.2⟩), List.append_assoc]; rfl)
        have HP := hid hps.out
        have HM := hid hm.out
        go_upto_region 6 with (fail)
        go_cut [34] (fun t34 V => t34 = .bool false ∧ V = wr)
        case first =>
          rcases nil_or_snoc ps with h0 | ⟨pre, p, h0⟩
          · obtain rfl : m = 0 := by rw [← hm.out, h0]; rfl
            clear hps hm hcond
            go_wp2
            go_meet
            exact ⟨rfl, rfl⟩
          · obtain ⟨c, q⟩ := p
            obtain ⟨j, hj⟩ : ∃ j, pre.length = j := ⟨_, rfl⟩
            obtain rfl : m = j + 1 := by rw [← hm.out, h0, List.length_append, hj]; rfl
            have hj1 : (((j + 1 : Nat) : Int)) - 1 = ((j : Nat) : Int) := by omega
            obtain ⟨gb, rfl⟩ : ∃ gb, va = some ⟨gb, 0, none⟩ := by
              rcases ho.out.2 with ⟨h0, _⟩ | ⟨gb, c, cur, e, -⟩
              · cases h0
              · simp only [Value.slice.injEq] at e; exact ⟨gb, e.1⟩
            have c0 : wr.cell? ⟨gb, j * 2, none⟩ = some (.int .i64 c) := by rw [ho.out.cellAt (j * 2) (by omega), ← hj, h0]; exact (rcells_last pre c q).1
            have c1 : wr.cell? ⟨gb, j * 2 + 1, none⟩ = some (.int .i64 ((q : Nat) : Int)) := by rw [ho.out.cellAt (j * 2 + 1) (by omega), ← hj, h0]; exact (rcells_last pre c q).2
            by_cases hcz : c = z
            · have hq : ¬ q < 256 := fun h => hcond ⟨pre, q, by rw [h0, hcz], h⟩
              subst hcz
              have hqz : (c == c) = true := by simp
              have tq : decide (((q : Nat) : Int) < 256) = false := decide_eq_false (by omega)
              clear hps hm hcond h0 hj
              go_wp2
              go_meet
              exact ⟨rfl, rfl⟩
            · have hqz : (c == z) = false := by simpa using hcz
              clear hps hm hcond h0 hj
              go_wp2
              go_meet
              exact ⟨rfl, rfl⟩
        case rest =>
          obtain ⟨rfl, rfl⟩ := hcut
          clear hps hm hcond
          obtain ⟨w8, hw8, hb8, hs8, hl8⟩ := laid wc #[.int .i64 z, .int .i64 1] 26
          obtain ⟨M, hM⟩ : ∃ M, wc.heap.size = M := ⟨_, rfl⟩
          rw [hM] at hl8 hs8
          have HO8 := hid (own_grow ho.out hb8)
          have HB8 := hid (step hb hb8)
          have HL8 := hid hl8
          have hsz : w.heap.size ≤ w8.heap.size := HB8.out.size
          clear ho hl8 hb8 hb
          go_wp2_with ((with_reducible show wpList _ _ _ _ _ _); refine wp_appendM elemPairs rfl (.tmp 45) (.tmp 48) rfl w.heap.size (.slice va m vc) m (rcells ps) rfl HO8.out ⟨M, 0, none⟩ 1 1 [.int .i64 z, .int .i64 1] rfl rfl ?c1 ?c2 ?c3 ?c4 ?c5)
          case c1 =>
            intro j u hu
            refine cell_add ?_
            rw [Nat.zero_add]
            exact cell_laid HL8.out (by simpa using hu)
          case c2 =>
            intro u hu
            simp only [List.mem_cons, List.not_mem_nil, or_false] at hu
            rcases hu with rfl | rfl <;> rfl
          case c3 => omega
          case c4 => exact hsz
          case c5 =>
            intro v' W' ho' hg' hm'
            obtain ⟨va', vc', rfl, -⟩ := Leads.of_own ho'
            have HO9 : Hid (W'.ownsRow w.heap.size 26 2 (.slice va' (m + 1) vc') (m + 1) (rcells (ps ++ [(z, 1)]))) := hid (by rw [rcells_app]; exact ho')
            have HB9 := hid (HB8.out.trans (own_below HO8.out hg' hsz))
            have HLN : Hid ((ps ++ [(z, 1)]).length = m + 1) := hid (by rw [List.length_append, HM.out]; rfl)
            have HQ1 : Hid (∀ p ∈ ps ++ [(z, 1)], p.2 ≤ 256) := hid (by
              intro p hp
              rcases List.mem_append.1 hp with hp | hp
              · exact HQ.out p hp
              · rw [List.mem_singleton.1 hp]; show 1 ≤ 256; decide)
            clear ho' hg' hm'
            go_wp2
            go_roundg (gk - 1)
            case measure => have := HK.out; omega
            case rel => exact ⟨k + 1, m + 1, _, _, _, by have := HK.out; omega, by go_num, rfl, hst, HLN, by omega, HQ1.out, HO9, HB9.out⟩
    · have e := HK.out
      obtain rfl : k = n := by omega
      have hfin : ps = runsL l := by rw [hps.out, List.take_of_length_le (by rw [HL.out]; exact Nat.le_refl _)]
      have HF := hid hfin
      go_wp2
      go_ret
      have hm' := hm.out
      have ho' := ho.out
      have e' := HF.out
      subst e'
      subst hm'
      exact ⟨_, rfl, ho', hb⟩
end Go.Proofs.YtpehnahmdfoobaaDoor
