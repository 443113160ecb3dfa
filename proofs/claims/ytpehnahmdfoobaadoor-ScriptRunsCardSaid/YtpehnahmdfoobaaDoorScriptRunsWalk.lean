/- ScriptRuns: its walk: the call returns true and writes on nothing that was there. -/
import Derived.Test.YtpehnahmdfoobaaDoorScript19
import Derived.Test.YtpehnahmdfoobaaDoorScriptPlain2
namespace Go.Proofs.YtpehnahmdfoobaaDoor.scriptRuns
open Go.RowKit
open Go.Proofs
set_option linter.unusedVariables false

theorem icells_apps (l r : List Int) : icells (l ++ r) = icells l ++ icells r := by simp [icells]
theorem take_snoc {α : Type} {l : List α} {k : Nat} {x : α} (h : l[k]? = some x) : l.take (k + 1) = l.take k ++ [x] := by rw [List.take_add_one, h]; rfl

set_option maxRecDepth 100000 in
set_option maxHeartbeats 4000000 in
theorem walk (l : List Int) (a : Option Addr) (n cap : Nat) (w : World) (hl : l.length = n) (h : Leads w a n cap (icells l)) (hk : iok l) (hG : Glob w) :
    Calls Tryd.prog 3 #[.slice a n cap] w (Ret (.bool true) w) := by
  have HW := hid (wakes_any w hG)
  obtain ⟨m, hm⟩ : ∃ m, min n 2000 = m := ⟨_, rfl⟩
  have hmI : min (((n : Nat) : Int)) 2000 = ((m : Nat) : Int) := by omega
  have hmn : m ≤ n := by omega
  have hm2 : m ≤ 2000 := by omega
  have hmc : m ≤ cap := Nat.le_trans hmn h.1
  have hml := h.len
  have hmlen : (l.take m).length = m := by rw [List.length_take]; omega
  have HL := hid (h.itake hl hmn)
  obtain ⟨q, hq⟩ : ∃ q, l.take m = q := ⟨_, rfl⟩
  rw [hq] at HL hmlen
  obtain ⟨rs, hrs⟩ : ∃ rs, runsL q = rs := ⟨_, rfl⟩
  have HF := hid (hrs ▸ runs_flatL q)
  have HA := hid (hrs ▸ runs_adjL q)
  have HM := hid (fun (p : Int × Nat) (hp : p ∈ rs) => runs_memL (l := q) (p := p) (by rw [hrs]; exact hp))
  have HQ := hid hmlen
  have HRS := hid hrs
  clear h hk hG hm hq hmlen hl hrs
  go_enter Tryd.func3, Tryd.ntmps3
  go_wp2_with fail
  refine HW.out.mono ?_
  rintro e w2 ⟨rfl, hb2⟩
  go_wp2_with fail
  refine (Runs_any q a m cap w2 HQ.out (by omega) (HL.out.grow hb2)).mono ?_
  rintro e w3 ⟨v, rfl, ho3, hb3⟩
  rw [HRS.out] at ho3
  obtain ⟨ra, rc, rfl, hlr⟩ := Leads.of_own ho3
  have HR := hid hlr
  have HB3 := hid (step hb2 hb3)
  have hr := hlr.len
  obtain ⟨nr, hnr⟩ : ∃ nr, rs.length = nr := ⟨_, rfl⟩
  rw [hnr] at HR hr
  rw [hnr]
  have HN := hid hnr
  clear ho3 hb2 hb3 hlr hnr
  go_wp2
  go_loopg [3, 18] nr (fun g t3 i wr => ∃ (k : Nat) (v : Value), g + k = nr ∧ i = .int .i64 (k : Nat) ∧ t3 = v ∧ Hid (wr.ownsRow w3.heap.size 3 1 v (flatR (rs.take k)).length (icells (flatR (rs.take k)))) ∧ Below w3.heap.size w3 wr)
  case atStart => exact ⟨0, _, rfl, rfl, rfl, World.ownsRow_nil _ _ _ _, Below.refl _ _⟩
  case round =>
    obtain ⟨k, v, hk, rfl, rfl, ho, hb⟩ := hrel
    have HK := hid hk
    clear hk
    by_cases hlt : k < nr
    · obtain ⟨x, hxk⟩ : ∃ x, rs[k]? = some x := ⟨_, List.getElem?_eq_getElem (by rw [HN.out]; exact hlt)⟩
      obtain ⟨x0, x1⟩ := x
      obtain ⟨m1, m2⟩ := HM.out _ (List.mem_of_getElem? hxk)
      dsimp only at m1 m2
      have hwx : ∃ b off, ra = some ⟨b, off, none⟩ ∧ ∀ (j : Nat) (y0 : Int) (y1 : Nat), rs[j]? = some (y0, y1) → ∀ (V : World), Below w3.heap.size w3 V → V.cell? ⟨b, off + j * 2, none⟩ = some (.int .i64 y0) ∧ V.cell? ⟨b, off + j * 2 + 1, none⟩ = some (.int .i64 ((y1 : Nat) : Int)) := by
        obtain ⟨_, _, ⟨h0, _⟩ | ⟨b, off, ea, hlt, hc⟩⟩ := HR.out
        · omega
        · exact ⟨b, off, ea, fun j y0 y1 hj V hV => ⟨(hV.cell (p := ⟨b, off + j * 2, none⟩) hlt).trans (hc _ _ (rflat_at hj).1), (hV.cell (p := ⟨b, off + j * 2 + 1, none⟩) hlt).trans (by rw [Nat.add_assoc]; exact hc _ _ (rflat_at hj).2)⟩⟩
      obtain ⟨b, off, rfl, hcx⟩ := hwx
      have c0 := (hcx k x0 x1 hxk wr hb).1
      have c1 := (hcx k x0 x1 hxk wr hb).2
      obtain ⟨w4, hw4, hb4, hs4, hl4⟩ := laid wr #[.int .i64 x0, .int .i64 ((x1 : Nat) : Int)] 26
      have hB4 := step hb hb4
      obtain ⟨X, hX⟩ : ∃ X, wr.heap.size = X := ⟨_, rfl⟩
      rw [hX] at hl4 hs4
      have HL4 := hid hl4
      have d0 : ∀ z : Ext w4, z.v.cell? ⟨X, 0, none⟩ = some (.int .i64 x0) := fun z => cell_laid (keep_laid HL4.out z.b) rfl
      have d1 : ∀ z : Ext w4, z.v.cell? ⟨X, 1, none⟩ = some (.int .i64 ((x1 : Nat) : Int)) := fun z => cell_laid (keep_laid HL4.out z.b) rfl
      have HO4 := hid (own_grow ho.out hb4)
      have HT : Hid (flatR (rs.take (k + 1)) = flatR (rs.take k) ++ List.replicate x1 x0) := hid (by rw [take_snoc hxk, flatR_snoc])
      have HLE : Hid ((flatR (rs.take (k + 1))).length ≤ 2000) := hid (by have := flatR_take_le rs (k + 1); rw [HF.out, HQ.out] at this; omega)
      have HX4 : Hid (X = wr.heap.size) := hid hX.symm
      clear hl4 hb4 ho
      have t1 : decide (((x1 : Nat) : Int) < 1) = false := decide_eq_false (by omega)
      have t2 : decide ((256 : Int) < ((x1 : Nat) : Int)) = false := decide_eq_false (by omega)
      go_upto_region 9 with (fail)
      go_cut [54] (fun t54 V => t54 = .bool false ∧ Below w4.heap.size w4 V)
      case first =>
        rcases Nat.eq_zero_or_pos k with h0 | h0
        · subst h0
          refine wp_region_ext (by kernel_rfl) (by kernel_rfl) ?_
          repeat (go_big_quiet_step (fail))
          refine wpQuiet_nil ?_
          rintro _ ⟨⟨w5, hb5⟩, rfl⟩
          go_wp2
          go_meet
          exact ⟨rfl, hb5⟩
        · obtain ⟨j, hj⟩ : ∃ j, k = j + 1 := ⟨k - 1, by omega⟩
          obtain ⟨y, hyj⟩ : ∃ y, rs[j]? = some y := ⟨_, List.getElem?_eq_getElem (by rw [HN.out]; omega)⟩
          obtain ⟨y0, y1⟩ := y
          have e0 : ∀ z : Ext w4, z.v.cell? ⟨b, off + j * 2, none⟩ = some (.int .i64 y0) := fun z => (hcx j y0 y1 hyj z.v (step hB4 z.b)).1
          have e1 : ∀ z : Ext w4, z.v.cell? ⟨b, off + j * 2 + 1, none⟩ = some (.int .i64 ((y1 : Nat) : Int)) := fun z => (hcx j y0 y1 hyj z.v (step hB4 z.b)).2
          have hadj : y0 = x0 → y1 = 256 := fun e => HA.out j _ _ hyj (hj ▸ hxk) e
          have hj1 : ((k : Nat) : Int) - 1 = ((j : Nat) : Int) := by omega
          have t3 : decide ((0 : Int) < ((k : Nat) : Int)) = true := decide_eq_true (by omega)
          have hjn : j < nr := by omega
          clear hj
          by_cases hxy : y0 = x0
          · obtain rfl := hadj hxy
            subst hxy
            clear hcx hxk hyj hadj c0 c1
            refine wp_region_ext (by kernel_rfl) (by kernel_rfl) ?_
            repeat (go_big_quiet_step (fail))
            refine wpQuiet_nil ?_
            rintro _ ⟨⟨w5, hb5⟩, rfl⟩
            go_wp2
            go_meet
            exact ⟨rfl, hb5⟩
          · have hd : (y0 == x0) = false := by simpa using hxy
            clear hcx hxk hyj hadj c0 c1
            refine wp_region_ext (by kernel_rfl) (by kernel_rfl) ?_
            repeat (go_big_quiet_step (fail))
            refine wpQuiet_nil ?_
            rintro _ ⟨⟨w5, hb5⟩, rfl⟩
            go_wp2
            go_meet
            exact ⟨rfl, hb5⟩
      case rest =>
        obtain ⟨rfl, hb5⟩ := hcut
        have hB5 := step hB4 hb5
        have HO5 := hid (own_grow HO4.out hb5)
        have u0 : wc.cell? ⟨X, 0, none⟩ = some (.int .i64 x0) := cell_laid (keep_laid HL4.out hb5) rfl
        have HLc := hid (keep_laid HL4.out hb5)
        clear hb5
        obtain ⟨w6, hw6, hb6, hs6, hl6⟩ := laid wc #[.int .i64 x0] 3
        obtain ⟨M, hM⟩ : ∃ M, wc.heap.size = M := ⟨_, rfl⟩
        rw [hM] at hl6 hs6
        have HCM := hid (cell_laid (i := 0) hl6 rfl)
        have hMlt : M < w6.heap.size := by omega
        have HO6 := hid (own_grow HO5.out hb6)
        have hB6 := step hB5 hb6
        have u1 : w6.cell? ⟨X, 1, none⟩ = some (.int .i64 ((x1 : Nat) : Int)) := cell_laid (keep_laid HLc.out hb6) rfl
        clear hl6
        go_wp2_with fail
        refine (Repeat_any x0 x1 M w6 HCM.out hMlt (by omega)).mono ?_
        rintro e w7 ⟨G, rfl, ho7, hb7⟩
        have HO7 := hid ho7
        have HV7 := hid (own_grow HO6.out hb7)
        have hB7 := step hB6 hb7
        have hbs : w3.heap.size ≤ w7.heap.size := hB7.size
        clear ho7 hb7
        go_wp2_with ((with_reducible show wpList _ _ _ _ _ _); refine wp_appendM elemInts rfl (.tmp 55) (.tmp 61) rfl w3.heap.size u3 (flatR (rs.take k)).length (icells (flatR (rs.take k))) rfl HV7.out ⟨G, 0, none⟩ x1 x1 (List.replicate x1 (icell x0)) rfl (by simp) ?c1 ?c2 ?c3 ?c4 ?c5)
        case c1 => exact HO7.out.cells (g := G) rfl
        case c2 =>
          intro u hu
          rw [List.eq_of_mem_replicate hu]
          rfl
        case c3 => have := HLE.out; rw [HT.out, List.length_append, List.length_replicate] at this; omega
        case c4 => exact hbs
        case c5 =>
        intro v' W' ho' hg' hm'
        have HO8 : Hid (W'.ownsRow w3.heap.size 3 1 v' (flatR (rs.take (k + 1))).length (icells (flatR (rs.take (k + 1))))) := hid (by
          rw [HT.out, icells_app, List.length_append, List.length_replicate]; exact ho')
        have hB8 : Below w3.heap.size w3 W' := hB7.trans (own_below HV7.out hg' hbs)
        clear ho' hg' hm'
        go_wp2
        go_roundg (gk - 1)
        case measure => have := HK.out; omega
        case rel => exact ⟨k + 1, v', by have := HK.out; omega, by go_num, rfl, HO8, hB8⟩
    · have e := HK.out
      obtain rfl : k = nr := by omega
      have HT : Hid (flatR (rs.take k) = q) := hid (by rw [List.take_of_length_le (by rw [HN.out]; exact Nat.le_refl _)]; exact HF.out)
      obtain ⟨va, vc, hv, hlv⟩ := Leads.of_own ho.out
      rw [HT.out] at hv hlv
      subst hv
      have HE := hid (EqI_any q q va a q.length m vc cap wr rfl HQ.out hlv (HL.out.grow (HB3.out.trans (hb.mono HB3.out.size))))
      have hb' := HB3.out.trans (hb.mono HB3.out.size)
      clear ho hlv e HK hb
      go_wp2_with fail
      refine HE.out.mono ?_
      rintro e w9 ⟨rfl, hb9⟩
      go_wp2
      go_ret
      exact ⟨rfl, step hb' hb9⟩

end Go.Proofs.YtpehnahmdfoobaaDoor.scriptRuns
