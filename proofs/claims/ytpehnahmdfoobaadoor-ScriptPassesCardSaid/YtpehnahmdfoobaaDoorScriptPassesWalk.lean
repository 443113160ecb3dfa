/- ScriptPasses: its walk: the call returns true and writes on nothing that was there. -/
import Derived.Test.YtpehnahmdfoobaaDoorScript21
import Derived.Test.YtpehnahmdfoobaaDoorScriptPlain4
namespace Go.Proofs.YtpehnahmdfoobaaDoor.scriptPasses
open Go.RowKit
open Go.Proofs
set_option linter.unusedVariables false

theorem wcells_apps (l r : List Nat) : wcells (l ++ r) = wcells l ++ wcells r := by simp [wcells]
theorem wcell_get {l : List Nat} {k x : Nat} (h : l[k]? = some x) : (wcells l)[k]? = some (.int .u64 ((x : Nat) : Int)) := by unfold wcells; rw [List.getElem?_map, h]; rfl
theorem wcell_ex {l : List Nat} {k : Nat} {u : Value} (h : (wcells l)[k]? = some u) : ∃ x, l[k]? = some x ∧ u = .int .u64 ((x : Nat) : Int) := by
  unfold wcells at h
  rw [List.getElem?_map] at h
  cases hx : l[k]? with
  | none => rw [hx] at h; cases h
  | some x => rw [hx] at h; injection h with h; exact ⟨x, rfl, h.symm⟩
theorem wcells_one (l : List Nat) : ∀ u ∈ wcells l, u.oneCell' = true := by
  intro u hu
  obtain ⟨x, -, rfl⟩ := List.mem_map.1 hu
  rfl
theorem junk_bits (m i r : Nat) (hm : m < 18446744073709551616) (hr : i % 2 = r) : bits BinOp.or IntKind.u64 (bits BinOp.andNot IntKind.u64 (m : Int) 3) (3 * (r : Int)) = ((junkW m i : Nat) : Int) := by
  have h2 : r < 2 := by omega
  have e1 : (3 : Int) = ((3 : Nat) : Int) := rfl
  have e2 : (3 : Int) * (r : Int) = ((3 * r : Nat) : Int) := by omega
  rw [e2, e1, u64_andNot_nat _ _ hm (by decide), u64_or_nat _ _ (Nat.lt_of_le_of_lt Nat.and_le_left hm) (by omega)]
  unfold junkW Pl.set Pl.mask
  rw [hr]
  simp

set_option maxRecDepth 100000 in
set_option maxHeartbeats 4000000 in
theorem walk (S : Scr) (la : Option Addr) (lc : Nat) (us : List Value) (pa : Option Addr) (pc : Nat) (ws : List Nat) (a : Option Addr) (n cap : Nat) (w : World) (h : ScrL w la lc us pa pc S) (hS : S.Ok) (hl : ws.length = n) (hw : Leads w a n cap (wcells ws)) (hok : wok ws) (hG : Glob w) :
    Calls Tryd.prog 6 #[scrV la lc pa pc S, .slice a n cap] w (Ret (.bool true) w) := by
  obtain ⟨w1, hw1, hb1, hs1, hl1⟩ := laid w #[.int .i64 S.C, .int .i64 S.P, .slice la S.ls.length lc, .slice pa S.ps.length pc] 35
  obtain ⟨X, hX⟩ : ∃ X, w.heap.size = X := ⟨_, rfl⟩
  rw [hX] at hl1 hs1
  have HW := hid fun V (hV : Below w.heap.size w V) => wakes_any V (hG.grow hV)
  have HO := hid fun V (hV : Below w.heap.size w V) => own_S S la pa lc pc us V hS (h.grow hV)
  have HG := hid fun V (hV : Below w.heap.size w V) => hG.grow hV
  obtain ⟨T, hT⟩ : ∃ T, ownS S = T := ⟨_, rfl⟩
  have HTok : Hid T.Ok := hid (by rw [← hT]; exact ownS_ok hS)
  have HTf := hid (ownS_few S)
  rw [hT] at HO HTf
  have hml := hw.len
  have HMO := hid hok
  have HL := hid hw
  have HMN := hid hl
  have HB1 := hid hb1
  have HL1 := hid hl1
  clear h hS hl hw hok hG hb1 hl1 hT
  unfold scrV at HO ⊢
  go_enter Tryd.func6, Tryd.ntmps6
  go_wp2_with fail
  refine (HW.out _ HB1.out).mono ?_
  rintro e w2 ⟨rfl, hb2⟩
  obtain ⟨p0, p1, p2, p3⟩ := cells4 (keep_laid HL1.out hb2)
  have HB2 := hid (step HB1.out hb2)
  clear hb2
  go_wp2_with fail
  refine (HO.out _ HB2.out).mono ?_
  rintro e w3 ⟨lb, ld, vs, pb, pd, rfl, hT, hb3⟩
  unfold scrV
  have HT := hid hT
  have HB3 := hid (step HB2.out hb3)
  obtain ⟨w4, Y, hw4, hY, hs4, ⟨y0, y1, y2, y3⟩, ⟨z0, z1, z2, z3⟩, hput⟩ := scr_put w3
  go_upto_region 4 with (fail)
  obtain ⟨w5, hw5, hb5, hl5⟩ := hput.out (.int .i64 T.C) (.int .i64 T.P) (.slice lb T.ls.length ld) (.slice pb T.ps.length pd)
  rw [← hw5]
  have HB5 := hid (step HB3.out hb5)
  have HL5 := hid hl5
  have HT5 := hid (HT.out.grow hb5)
  obtain ⟨q0, q1, q2, q3⟩ := cells4 hl5
  clear hw5 y0 y1 y2 y3 z0 z1 z2 z3 hw4 hY hs4 hput hb5 hl5 hT hb3
  go_cut [6, 7] (fun t6 t7 V => Below w5.heap.size w5 V ∧ ((okS T = true ∧ t7 = .int .i64 0 ∧ ∃ a6 c6, t6 = .slice a6 (ofW T).length c6 ∧ Leads V a6 (ofW T).length c6 (wcells (ofW T))) ∨ (okS T = false ∧ t7 = .int .i64 130 ∧ t6 = .slice none 0 0)))
  case first =>
    by_cases hok : okS T = true
    · have HOF := hid (Of_S T lb pb ld pd vs w5 HT5.out HTok.out (HG.out _ HB5.out) hok)
      have HOK := hid hok
      unfold scrV at HOF
      clear hok
      go_wp2_with fail
      refine HOF.out.mono ?_
      rintro e w6 ⟨a6, c6, rfl, hl6, hb6⟩
      have HL6 := hid hl6
      have HB6 := hid hb6
      clear hl6 hb6
      go_wp2
      go_meet
      exact ⟨HB6.out, .inl ⟨HOK.out, rfl, a6, c6, rfl, HL6.out⟩⟩
    · have hno : okS T = false := by simpa using hok
      have HOF := hid (Of_no T lb pb ld pd vs w5 HT5.out (by have := HTf.out.1; omega) (fun cs hcs => by have := HTf.out.2 cs hcs; omega) hno)
      have HOK := hid hno
      unfold scrV at HOF
      clear hok hno
      go_wp2_with fail
      refine HOF.out.mono ?_
      rintro e w6 ⟨rfl, hb6⟩
      have HB6 := hid hb6
      clear hb6
      go_wp2
      go_meet
      exact ⟨HB6.out, .inr ⟨HOK.out, rfl, rfl⟩⟩
  case rest =>
  obtain ⟨wA, hwA⟩ : ∃ wA, wA = wc := ⟨_, rfl⟩
  subst hwA
  obtain ⟨hb6, ⟨hok, rfl, a6, c6, rfl, hl6⟩ | ⟨hok, rfl, rfl⟩⟩ := hcut
  case' inr =>
    have HB56 := hid hb6
    clear hb6 hok
    go_wp2
    go_ret
    exact ⟨rfl, step HB5.out HB56.out⟩
  have HOK := hid hok
  have HB6 := hid (step HB5.out hb6)
  have HT6 := hid (HT5.out.grow hb6)
  have HY6 := hid (keep_laid HL5.out hb6)
  have HL6 := hid hl6
  obtain ⟨w0, hw0⟩ : ∃ w0, wdA (T.C - 1).toNat (T.P - 1).toNat = w0 := ⟨_, rfl⟩
  obtain ⟨recs, hrecs⟩ : ∃ recs, recsS T = recs := ⟨_, rfl⟩
  have hof : ofW T = w0 :: recs.flatten := by rw [ofW_recs, hw0, hrecs]
  obtain ⟨L, hL⟩ : ∃ L, (ofW T).length = L := ⟨_, rfl⟩
  have hL1 : L = 1 + recs.flatten.length := by rw [← hL, hof, List.length_cons]; omega
  have hL4 : L ≤ 4481 := by rw [← hL]; exact ofW_len hok HTok.out
  rw [hL] at HL6
  rw [hL]
  have hLc := HL6.out.1
  have hLcI : ((L : Nat) : Int) ≤ ((c6 : Nat) : Int) := by omega
  obtain ⟨nR, hnR⟩ : ∃ nR, recs.length = nR := ⟨_, rfl⟩
  obtain ⟨NC, hNC⟩ : ∃ NC, sumS T.ls = NC := ⟨_, rfl⟩
  have hNC64 : NC ≤ 64 := by obtain ⟨-, -, -, -, -, -, -, -, -, -, hs, -⟩ := okS_spec hok; omega
  have HREC := hid (fun (i : Nat) (r : List Nat) (h : recs[i]? = some r) => show r.length = if i < NC then 6 else 1 by
    by_cases hi : i < NC
    · rw [if_pos hi]; exact rec_call HTok.out.five (by rw [hrecs]; exact h) (by rw [hNC]; exact hi)
    · rw [if_neg hi]; exact rec_run (S := T) (by rw [hrecs]; exact h) (by rw [hNC]; exact hi))
  have HPASS := hid (read_pass T hok HTok.out (junkJ ws) (fun i x hx => by
    obtain ⟨m, hm, rfl⟩ := junkJ_in hx
    exact junk_idle (HMO.out m hm)))
  have HPW := hid (passR_word (junkJ ws) (fun i x hx => by
    obtain ⟨m, hm, rfl⟩ := junkJ_in hx
    exact junk_lt (HMO.out m hm)) recs 0 (by rw [← hrecs]; exact recs_word hok HTok.out))
  have HPN := hid (passR_len (junkJ ws) (junkJ_len ws) recs 0)
  have HW0 : Hid (w0 < 18446744073709551616) := hid (ofW_word hok HTok.out w0 (by rw [hof]; simp))
  have hnR5 : nR ≤ 5000 := by
    obtain ⟨-, -, -, -, -, -, -, -, -, h4, hs, -⟩ := okS_spec hok
    have := recs_len T
    have := runs_few T.ps
    rw [hrecs] at *
    omega
  rw [hw0, hrecs] at HPASS
  have HOF := hid hof
  have HNR := hid hnR
  have HNC := hid hNC
  have HL1 := hid hL1
  have k0 : wA.cell? ⟨Y, 2, none⟩ = some (.slice lb T.ls.length ld) := (cells4 HY6.out).2.2.1
  obtain ⟨nl, hnl⟩ : ∃ nl, T.ls.length = nl := ⟨_, rfl⟩
  have hnl8 : nl ≤ 10 := by have := HTf.out.1; omega
  have HTL := hid HT6.out.lists
  have HTR := hid HT6.out.rows
  have HTN := hid HT6.out.len
  rw [hnl] at k0 HTL HTN
  have HNL := hid hnl
  have HF := hid HTf.out.2
  clear hb6 hok hl6 hw0 hrecs hof hL hnR hNC hnl q0 q1 q2 q3 hL1
  obtain ⟨b6, o6, rfl, hb6lt, hc6⟩ := HL6.out.at (k := 0) (by have := HL1.out; omega) (wcell_get (l := ofW T) (k := 0) (x := w0) (by rw [HOF.out]; rfl))
  have g0 : wA.cell? ⟨b6, o6, none⟩ = some (.int .u64 ((w0 : Nat) : Int)) := hc6 wA (Below.refl _ _)
  have hLp : 0 < L := by have := HL1.out; omega
  obtain ⟨w7, hw7, hb7, hs7, hl7⟩ := laid wA #[.int .u64 ((w0 : Nat) : Int)] 32
  obtain ⟨M, hM⟩ : ∃ M, wA.heap.size = M := ⟨_, rfl⟩
  rw [hM] at hl7 hs7
  have HO7 : Hid (w7.ownsRow wA.heap.size 32 1 (.slice (some ⟨M, 0, none⟩) 1 1) 1 (wcells [w0])) := hid (by
    refine ⟨by simp [wcells], .inr ⟨M, 1, _, rfl, by omega, hl7, Nat.le_refl _, by decide, by simp, ?_⟩⟩
    simp [wcells])
  have HB7 := hid hb7
  have k7 : w7.cell? ⟨Y, 2, none⟩ = some (.slice lb nl ld) := (hb7.cell (p := ⟨Y, 2, none⟩) (lt_laid HY6.out)).trans k0
  have HM := hid hM
  clear hb7 hl7 hc6 k0
  go_wp2
  go_loopg [9, 36] nl (fun g t9 i wr => ∃ k N : Nat, g + k = nl ∧ i = .int .i64 (k : Nat) ∧ t9 = .int .i64 (N : Nat) ∧ Hid (sumS (T.ls.take k) = N) ∧ wr = w7)
  case atStart => exact ⟨0, 0, rfl, rfl, rfl, hid rfl, rfl⟩
  case round =>
    obtain ⟨k, N, hk, rfl, rfl, hN, rfl⟩ := hrel
    have HK := hid hk
    clear hk hM
    by_cases hlt : k < nl
    · obtain ⟨cs, hck⟩ : ∃ x, T.ls[k]? = some x := ⟨_, List.getElem?_eq_getElem (by rw [HNL.out]; exact hlt)⟩
      obtain ⟨v, hvk⟩ : ∃ x, vs[k]? = some x := ⟨_, List.getElem?_eq_getElem (by rw [HTN.out]; exact hlt)⟩
      obtain ⟨b', off, rfl, -, hc⟩ := HTL.out.at hlt hvk
      obtain ⟨va, vc, rfl, -⟩ := HTR.out k v cs hvk hck
      have f1 := hc wr HB7.out
      have HTK := hid ((sum_take T.ls k cs hck).trans (by rw [hN.out]))
      have hM1 : N ≤ 70 * nl := by
        rw [← hN.out, ← HNL.out]
        have h1 := sum_le (T.ls.take k) 70 (fun q hq => HF.out q (List.mem_of_mem_take hq))
        have h2 : (T.ls.take k).length ≤ T.ls.length := by rw [List.length_take]; exact Nat.min_le_right _ _
        have h3 := Nat.mul_le_mul_right 70 h2
        omega
      have hcl := HF.out cs (List.mem_of_getElem? hck)
      obtain ⟨M2, hM2⟩ : ∃ M2, N + cs.length = M2 := ⟨_, rfl⟩
      have hM2i : ((N : Nat) : Int) + ((cs.length : Nat) : Int) = ((M2 : Nat) : Int) := by omega
      have HM2 := hid hM2
      have hM3 : M2 ≤ 10000 := by omega
      clear hc hvk hck hM1 hM2
      go_wp2
      go_roundg (gk - 1)
      case measure => have := HK.out; omega
      case rel => exact ⟨k + 1, M2, by have := HK.out; omega, by go_num, rfl, hid (HTK.out.trans HM2.out), rfl⟩
    · have e := HK.out
      obtain rfl : k = nl := by omega
      obtain rfl : N = NC := by
        have := hN.out
        rw [List.take_of_length_le (by rw [HNL.out]; exact Nat.le_refl _), HNC.out] at this
        exact this.symm
      clear hN e HK
      go_wp2
      go_loopg [8, 12, 13] nR (fun g t8 t12 t13 V => ∃ (i : Nat) (va : Option Addr) (vc : Nat), g + i = nR ∧ t12 = .int .i64 (i : Nat) ∧ t13 = .int .i64 ((atR recs i : Nat) : Int) ∧ t8 = .slice va (w0 :: passR (junkJ ws) 0 (recs.take i)).length vc ∧ Hid (V.ownsRow wA.heap.size 32 1 (.slice va (w0 :: passR (junkJ ws) 0 (recs.take i)).length vc) (w0 :: passR (junkJ ws) 0 (recs.take i)).length (wcells (w0 :: passR (junkJ ws) 0 (recs.take i)))) ∧ Below wA.heap.size wA V)
      case atStart => exact ⟨0, some ⟨M, 0, none⟩, 1, rfl, rfl, by rw [atR_zero]; rfl, rfl, HO7, HB7.out⟩
      case round =>
        obtain ⟨i, va, vc, hi, rfl, rfl, rfl, ho, hb⟩ := hrel
        obtain ⟨A, hA⟩ : ∃ A, atR recs i = A := ⟨_, rfl⟩
        obtain ⟨O, hO⟩ : ∃ O, w0 :: passR (junkJ ws) 0 (recs.take i) = O := ⟨_, rfl⟩
        have hOlen : O.length ≤ 9600 := by
          have h1 := passR_take_le (junkJ ws) recs i
          have h2 := HPN.out
          have h3 := HL1.out
          have h4 := HNR.out
          rw [← hO, List.length_cons]; omega
        rw [hO] at ho
        rw [hO, hA]
        have HA := hid hA
        have HO := hid hO
        have HI := hid hi
        have HBw := hid (HB6.out.trans (hb.mono HB6.out.size))
        clear hA hi hO
        by_cases hlt2 : i < nR
        · obtain ⟨r, hr⟩ : ∃ r, recs[i]? = some r := ⟨_, List.getElem?_eq_getElem (by rw [HNR.out]; exact hlt2)⟩
          obtain ⟨rl, hrl⟩ : ∃ rl, r.length = rl := ⟨_, rfl⟩
          have hAL : A + rl ≤ L := by have := atR_lt hr; rw [HA.out, hrl] at this; have := HL1.out; omega
          have hrl6 := HREC.out i r hr
          rw [hrl] at hrl6
          have hrl1 : 1 ≤ rl ∧ rl ≤ 6 := by split at hrl6 <;> omega
          have hAlt : A < L := by omega
          have HR := hid hr
          have HRL := hid hrl
          have HR6 := hid hrl6
          have HBV := hid hb
          clear hr hrl hrl6 hb
          go_upto_if 54 with (fail)
          go_cut [8] (fun t8 V => ∃ (va : Option Addr) (vc : Nat), t8 = .slice va (O ++ junkJ ws i).length vc ∧ Hid (V.ownsRow wA.heap.size 32 1 (.slice va (O ++ junkJ ws i).length vc) (O ++ junkJ ws i).length (wcells (O ++ junkJ ws i))) ∧ Below wA.heap.size wA V)
          case first =>
            by_cases him : i < n
            · obtain ⟨m, hm⟩ : ∃ m, ws[i]? = some m := ⟨_, List.getElem?_eq_getElem (by rw [HMN.out]; exact him)⟩
              obtain ⟨bm, om, rfl, -, hcm⟩ := HL.out.at him (wcell_get hm)
              have f1 := hcm _ HBw.out
              obtain ⟨r2, hr2⟩ : ∃ r2, i % 2 = r2 := ⟨_, rfl⟩
              have hr2I : Int.tmod ((i : Nat) : Int) 2 = ((r2 : Nat) : Int) := by rw [← hr2]; exact (Int.ofNat_tmod _ _).symm
              have hr22 : r2 ≤ 1 := by omega
              obtain ⟨jw, hjw⟩ : ∃ jw, junkW m i = jw := ⟨_, rfl⟩
              have hbits := junk_bits m i r2 (HMO.out m (List.mem_of_getElem? hm)) hr2
              have HJ : Hid (junkJ ws i = [jw]) := hid (by rw [junkJ_some hm, hjw])
              rw [hjw] at hbits
              obtain ⟨w8, hw8, hb8, hs8, hl8⟩ := laid wr #[.int .u64 ((jw : Nat) : Int)] 32
              obtain ⟨M8, hM8⟩ : ∃ M8, wr.heap.size = M8 := ⟨_, rfl⟩
              rw [hM8] at hl8 hs8
              have HO8 := hid (own_grow ho.out hb8)
              have HB8 := hid (step HBV.out hb8)
              have HL8 := hid hl8
              have hsz : wA.heap.size ≤ w8.heap.size := HB8.out.size
              clear hb8 hl8 hm hcm hr2 hjw
              go_wp2_with ((with_reducible show wpList _ _ _ _ _ _); refine wp_appendM elemWords rfl (.tmp 55) (.tmp 66) rfl wA.heap.size (.slice va O.length vc) O.length (wcells O) rfl HO8.out ⟨M8, 0, none⟩ 1 1 [.int .u64 ((jw : Nat) : Int)] rfl rfl ?c1 ?c2 ?c3 ?c4 ?c5)
              case c1 =>
                intro j u hu
                refine cell_add ?_
                rw [Nat.zero_add]
                exact cell_laid HL8.out (by simpa using hu)
              case c2 =>
                intro u hu
                rw [List.mem_singleton.1 hu]; rfl
              case c3 => omega
              case c4 => exact hsz
              case c5 =>
                intro v' W' ho' hg' hm'
                have HO9 : Hid (W'.ownsRow wA.heap.size 32 1 v' (O ++ junkJ ws i).length (wcells (O ++ junkJ ws i))) := hid (by rw [HJ.out, wcells_apps, List.length_append]; exact ho')
                have HB9 := hid (HB8.out.trans (own_below HO8.out hg' hsz))
                obtain ⟨va', vc', rfl, -⟩ := Leads.of_own HO9.out
                clear ho' hg' hm'
                go_wp2
                go_meet
                exact ⟨_, _, rfl, HO9, HB9.out⟩
            · have HJ : Hid (junkJ ws i = []) := hid (junkJ_none (by rw [HMN.out]; omega))
              go_wp2
              go_meet
              rw [HJ.out, List.append_nil]
              exact ⟨va, vc, rfl, ho, HBV.out⟩
          case rest =>
            obtain ⟨va', vc', rfl, ho1, hb1⟩ := hcut
            obtain ⟨O1, hO1⟩ : ∃ O1, O ++ junkJ ws i = O1 := ⟨_, rfl⟩
            have hO1len : O1.length ≤ 9700 := by rw [← hO1, List.length_append]; have := junkJ_len ws i; omega
            rw [hO1] at ho1
            rw [hO1]
            have HO1 := hid hO1
            have HBX := hid hb1
            clear hO1 hb1 ho
            obtain ⟨wB, hwB⟩ : ∃ wB, wB = wc := ⟨_, rfl⟩
            subst hwB
            go_upto_if 70 with (fail)
            go_cut [14] (fun t14 V => t14 = .int .i64 ((rl : Nat) : Int) ∧ V = wB)
            case first =>
              by_cases hiN : i < N
              · have e6 := HR6.out
                rw [if_pos hiN] at e6
                subst e6
                go_wp2
                go_meet
                exact ⟨rfl, rfl⟩
              · have e6 := HR6.out
                rw [if_neg hiN] at e6
                subst e6
                go_wp2
                go_meet
                exact ⟨rfl, rfl⟩
            case rest =>
              obtain ⟨rfl, rfl⟩ := hcut
              obtain ⟨A2, hA2⟩ : ∃ A2, A + rl = A2 := ⟨_, rfl⟩
              have hA2I : ((A : Nat) : Int) + ((rl : Nat) : Int) = ((A2 : Nat) : Int) := by omega
              have hA2L : A2 ≤ L := by omega
              have hAA2 : A ≤ A2 := by omega
              have hA2c : A2 ≤ c6 := by omega
              have HA2 := hid hA2
              clear hA2
              have hsz : wA.heap.size ≤ wc.heap.size := HBX.out.size
              have HRLE := hid (show A2 - A = rl by omega)
              go_wp2_with ((with_reducible show wpList _ _ _ _ _ _); refine wp_appendM elemWords rfl (.tmp 71) (.tmp 77) rfl wA.heap.size (.slice va' O1.length vc') O1.length (wcells O1) rfl ho1.out ⟨b6, o6 + A, none⟩ (A2 - A) (c6 - A) (wcells r) rfl ?d1 ?d2 ?d3 ?d4 ?d5 ?d6)
              case d1 => rw [HRLE.out, ← HRL.out]; simp [wcells]
              case d2 =>
                intro j u hu
                obtain ⟨x, hx, rfl⟩ := wcell_ex hu
                have h1 := atR_cells HR.out w0 j x hx
                rw [HA.out, ← HOF.out] at h1
                refine cell_add ?_
                obtain ⟨-, -, ⟨h0, -⟩ | ⟨b, o, e, hlt6, hc⟩⟩ := HL6.out
                · omega
                · simp only [Option.some.injEq, Addr.mk.injEq, and_true] at e
                  obtain ⟨rfl, rfl⟩ := e
                  rw [Nat.add_assoc]
                  exact (HBX.out.cell (p := ⟨b6, o6 + (A + j), none⟩) hlt6).trans (hc _ _ (wcell_get h1))
              case d3 => exact wcells_one r
              case d4 => omega
              case d5 => exact hsz
              case d6 =>
                intro v' W' ho' hg' hm'
                have HO9 : Hid (W'.ownsRow wA.heap.size 32 1 v' (w0 :: passR (junkJ ws) 0 (recs.take (i + 1))).length (wcells (w0 :: passR (junkJ ws) 0 (recs.take (i + 1))))) := hid (by
                  rw [passR_snoc _ HR.out, ← List.cons_append, ← List.cons_append, HO.out, HO1.out, wcells_apps, List.length_append, HRL.out, ← HRLE.out]; exact ho')
                have HB9 := hid (HBX.out.trans (own_below ho1.out hg' hsz))
                obtain ⟨va9, vc9, rfl, -⟩ := Leads.of_own HO9.out
                have HAN : Hid (atR recs (i + 1) = A2) := hid (by rw [atR_next HR.out, HA.out, HRL.out, HA2.out])
                clear ho' hg' hm'
                go_wp2
                go_roundg (gk - 1)
                case measure => have := HI.out; omega
                case rel => exact ⟨i + 1, _, _, by have := HI.out; omega, by go_num, by rw [HAN.out], rfl, HO9, HB9.out⟩
        · obtain rfl : i = nR := by have := HI.out; omega
          obtain rfl : A = L := by rw [← HA.out, ← HNR.out, atR_end]; exact HL1.out.symm
          have e1 := HNR.out
          have hOe : O = w0 :: passR (junkJ ws) 0 recs := by rw [← HO.out, List.take_of_length_le (by omega)]
          have HOE := hid hOe
          have hbb := HBw.out
          have HT9 := hid (HT6.out.grow hb)
          have HLO := hid (Leads.of_own1 ho.out)
          have HY9 := hid (keep_laid HY6.out hb)
          have r0 : ∀ z : Ext wr, z.v.cell? ⟨Y, 0, none⟩ = some (.int .i64 T.C) := fun z => (cells4 (keep_laid HY9.out z.b)).1
          have r1 : ∀ z : Ext wr, z.v.cell? ⟨Y, 1, none⟩ = some (.int .i64 T.P) := fun z => (cells4 (keep_laid HY9.out z.b)).2.1
          have r2 : ∀ z : Ext wr, z.v.cell? ⟨Y, 2, none⟩ = some (.slice lb T.ls.length ld) := fun z => (cells4 (keep_laid HY9.out z.b)).2.2.1
          have r3 : ∀ z : Ext wr, z.v.cell? ⟨Y, 3, none⟩ = some (.slice pb T.ps.length pd) := fun z => (cells4 (keep_laid HY9.out z.b)).2.2.2
          clear e1 hOe ho
          go_upto_region 24 with (fail)
          refine wp_region_mix2 (fun V => ∃ z : Ext wr, V = z.v) 5 (.q 0 (.q 2 (.h 1 (.h 3 (.q 4 (.done)))))) (by kernel_rfl) (by kernel_rfl) ⟨⟨_, (Below.refl _ _).drew⟩, rfl⟩ ?_
          repeat (refine wpMix2_q rfl rfl ?_; go_big_quiet_step (fail); refine wpQuiet_nil ?_)
          refine wpMix2_h rfl fun R' hR' hO => ?_
          have hbd : Below wr.heap.size wr wr.drew := (Below.refl _ _).drew
          have HRD := hid (Read_S O va O.length vc wr.drew rfl (by omega) (by
            rw [HOE.out]
            intro x hx
            rcases List.mem_cons.1 hx with rfl | hx
            · exact HW0.out
            · exact HPW.out x hx) (HLO.out.grow hbd) (HG.out _ (step hbb hbd)))
          rw [HOE.out, HPASS.out, ← HOE.out] at HRD
          go_wp2_with fail
          refine HRD.out.mono ?_
          rintro e w8 ⟨la7, lc7, vs7, pa7, pc7, rfl, hS7, hb8⟩
          unfold scrV
          have hb68 := step hbd hb8
          have HS7 := hid hS7
          have HT7 := hid (HT9.out.grow hb68)
          have HSM := hid (Same_S T la7 lb pa7 pb lc7 ld pc7 pd vs7 vs w8 HTok.out HS7.out HT7.out)
          unfold scrV at HSM
          clear hS7
          go_wp2
          refine hR' _ _ ⟨⟨w8, hb68⟩, rfl⟩ ?_
          refine wpMix2_h rfl fun R' hR' hO => ?_
          go_wp2_with fail
          refine HSM.out.mono ?_
          rintro e w9 ⟨rfl, hb9⟩
          have hb69 := step hb68 hb9
          go_wp2
          refine hR' _ _ ⟨⟨w9, hb69⟩, rfl⟩ ?_
          repeat (refine wpMix2_q rfl rfl ?_; go_big_quiet_step (fail); refine wpQuiet_nil ?_)
          refine wpMix2_done ?_
          simp only [List.drop_succ_cons, List.drop_nil]
          go_wp2
          go_ret
          exact ⟨rfl, step hbb hb69⟩
end Go.Proofs.YtpehnahmdfoobaaDoor.scriptPasses
