/- The document's answer for layer 3: the script that words say. -/
import Derived.Test.YtpehnahmdfoobaaDoorScriptRef4
import Derived.Test.YtpehnahmdfoobaaDoorScript21
namespace Go.Proofs.YtpehnahmdfoobaaDoor
open Go.RowKit
open Go.Proofs
set_option linter.unusedVariables false

theorem refread_result {W : World} {b : Nat} {v0 v1 v2 v3 : Value} {tmps : Array Value} (h : W.heap[b]? = some (.cells #[v0, v1, v2, v3] 35 (0, 0))) (hp : tmps[2]?.getD undef = .pointer (some ⟨b, 0, none⟩)) :
    (results Tryd.f14 tmps).run Tryd.prog W = .ok (.agg #[v0, v1, v2, v3]) W := by
  have h0 := cell_laid (i := 0) (v := v0) h rfl
  have h1 := cell_laid (i := 1) (v := v1) h rfl
  have h2 := cell_laid (i := 2) (v := v2) h rfl
  have h3 := cell_laid (i := 3) (v := v3) h rfl
  simp [results, Tryd.results14, go_sem, hp, h0, h1, h2, h3]
theorem wcell_get5 {l : List Nat} {k x : Nat} (h : l[k]? = some x) : (wcells l)[k]? = some (.int .u64 ((x : Nat) : Int)) := by unfold wcells; rw [List.getElem?_map, h]; rfl
theorem rep_next (A : Int) (j m : Nat) (h : j < m) : List.replicate (min (j + 1) m) A = List.replicate (min j m) A ++ [A] := by
  rw [Nat.min_eq_left (by omega), Nat.min_eq_left (by omega), List.replicate_succ']

structure R17 (Y gl A b o1 o2 o3 o4 o5 : Nat) (lv rv : Value) (x1 x2 x3 x4 x5 : Nat) where
  v : World
  y2 : v.cell? ⟨Y, 2, none⟩ = some lv
  ga : v.cell? ⟨gl, A, none⟩ = some rv
  d1 : v.cell? ⟨b, o1, none⟩ = some (.int .u64 ((x1 : Nat) : Int))
  d2 : v.cell? ⟨b, o2, none⟩ = some (.int .u64 ((x2 : Nat) : Int))
  d3 : v.cell? ⟨b, o3, none⟩ = some (.int .u64 ((x3 : Nat) : Int))
  d4 : v.cell? ⟨b, o4, none⟩ = some (.int .u64 ((x4 : Nat) : Int))
  d5 : v.cell? ⟨b, o5, none⟩ = some (.int .u64 ((x5 : Nat) : Int))

set_option maxRecDepth 100000 in
set_option maxHeartbeats 8000000 in
theorem RefRead_any (l : List Nat) (a : Option Addr) (n c : Nat) (w : World) (hl : l.length = n) (hn : n ≤ 1000) (hlb : ∀ x ∈ l, x < 18446744073709551616) (h : Leads w a n c (wcells l)) :
    Calls Tryd.prog 14 #[.slice a n c] w (GivesO (rdS l) w) := by
  obtain ⟨wZ, hwZ, hbZ, hsZ, hlZ⟩ := laid w #[.int .i64 0, .int .i64 0, .slice none 0 0, .slice none 0 0] 35
  obtain ⟨w0, Y, hw0, hY, hs0, ⟨y0, y1, y2, y3⟩, ⟨z0, z1, z2, z3⟩, hput⟩ := scr_put wZ
  obtain ⟨Z, hZ⟩ : ∃ Z, w.heap.size = Z := ⟨_, rfl⟩
  rw [hZ] at hlZ hsZ
  obtain rfl : Z + 1 = Y := by omega
  have HZ := hid hZ
  have HL := hid hl
  have HLB := hid hlb
  have H := hid h
  have hml := h.len
  have HLZ0 := hid hlZ
  have HBZ := hid hbZ
  have HPB := hid fun (x a c : Nat) (hx : x < 18446744073709551616) (ha : a ≤ 64) (hc : c ≤ 8) (V : World) => bits_any x a c V hx ha hc
  obtain ⟨C, hC⟩ : ∃ C, readC l = C := ⟨_, rfl⟩
  obtain ⟨P, hP⟩ : ∃ P, readP l = P := ⟨_, rfl⟩
  have hCin := readC_in l
  rw [hC, hP] at hCin
  obtain ⟨hC1, hC8, hP1, hP64⟩ := hCin
  have HC := hid hC
  have HP := hid hP
  clear hl hlb h hlZ hC hP hbZ hY
  go_enter Tryd.func14, Tryd.ntmps14
  go_upto_if 10 with (fail)
  obtain ⟨w1, hw1, hb1, hl1⟩ := hput.out (.int .i64 1) (.int .i64 1) (.slice none 0 0) (.slice none 0 0)
  rw [← hw1]
  have HLZ := hid (keep_laid HLZ0.out hb1)
  have HL1 := hid hl1
  have HB1 := hid (step HBZ.out hb1)
  have HBZ1 := hid hb1
  have HSZ := hid hsZ
  clear hw1 hb1 hl1 y0 y1 y2 y3 z0 z1 z2 z3 hput hs0 hw0 hwZ
  go_cut [] (fun ws => ws.heap[Z + 1]? = some (.cells #[.int .i64 ((C : Nat) : Int), .int .i64 ((P : Nat) : Int), .slice none 0 0, .slice none 0 0] 35 (0, 0)) ∧ ws.heap[Z]? = some (.cells #[.int .i64 0, .int .i64 0, .slice none 0 0, .slice none 0 0] 35 (0, 0)) ∧ Below w.heap.size w ws)
  case first =>
    rcases l with _ | ⟨x0, tl⟩
    · obtain rfl : n = 0 := HL.out.symm
      obtain rfl : 1 = C := HC.out
      obtain rfl : 1 = P := HP.out
      go_wp2
      go_meet
      exact ⟨HL1.out, HLZ.out, HB1.out⟩
    · have hn1 : 0 < n := by have := HL.out; simp at this; omega
      have hx0 : x0 < 18446744073709551616 := HLB.out x0 (List.mem_cons_self ..)
      obtain ⟨b, off, rfl, hblt, hcc⟩ := H.out.at (k := 0) hn1 (wcell_get5 (l := x0 :: tl) (k := 0) (x := x0) rfl)
      have w0c : ∀ z : Ext wZ, z.v.cell? ⟨b, off, none⟩ = some (.int .u64 ((x0 : Nat) : Int)) := fun z => hcc z.v (step HBZ.out z.b)
      obtain ⟨G1, hG1⟩ : ∃ G1, Pl.get x0 0 3 = G1 := ⟨_, rfl⟩
      obtain ⟨G2, hG2⟩ : ∃ G2, Pl.get x0 8 6 = G2 := ⟨_, rfl⟩
      have hq1 : G1 + 1 = C := by rw [← hG1]; exact HC.out
      have hq2 : G2 + 1 = P := by rw [← hG2]; exact HP.out
      have hC1i : ((G1 : Nat) : Int) + 1 = ((C : Nat) : Int) := by omega
      have hP1i : ((G2 : Nat) : Int) + 1 = ((P : Nat) : Int) := by omega
      have hg1l : G1 < 8 := by omega
      have hg2l : G2 < 64 := by omega
      have HP1 : Hid (∀ V : World, Calls Tryd.prog 30 #[.int .u64 (x0 : Nat), .int .i64 0, .int .i64 3] V (Ret (.int .i64 ((G1 : Nat) : Int)) V)) := hid (fun V => by rw [← hG1]; exact HPB.out x0 0 3 hx0 (by decide) (by decide) V)
      have HP2 : Hid (∀ V : World, Calls Tryd.prog 30 #[.int .u64 (x0 : Nat), .int .i64 8, .int .i64 6] V (Ret (.int .i64 ((G2 : Nat) : Int)) V)) := hid (fun V => by rw [← hG2]; exact HPB.out x0 8 6 hx0 (by decide) (by decide) V)
      clear hcc hG1 hG2 hq1 hq2
      go_upto_region 3 with (fail)
      refine wp_region_mix2 (fun V => ∃ z : Ext wZ, V = z.v) 13 (.q 0 (.q 1 (.q 2 (.q 5 (.q 6 (.q 7 (.h 3 (.q 4 (.q 10 (.h 8 (.q 9 (.h 11 (.q 12 (.done)))))))))))))) (by kernel_rfl) (by kernel_rfl) ⟨⟨_, HBZ1.out.drew⟩, rfl⟩ ?_
      repeat (refine wpMix2_q rfl rfl ?_; go_big_quiet_step (fail); refine wpQuiet_nil ?_)
      refine wpMix2_h rfl fun R' hR' hO => ?_
      go_wp2_with fail
      refine (HP1.out _).mono ?_
      rintro e w2 ⟨rfl, hb2⟩
      have hb12 : Below w1.heap.size w1 w2 := (Below.refl _ _).drew.trans hb2
      go_wp2
      refine hR' _ _ ⟨⟨_, step HBZ1.out hb12⟩, rfl⟩ ?_
      repeat (refine wpMix2_q rfl rfl ?_; go_big_quiet_step (fail); refine wpQuiet_nil ?_)
      refine wpMix2_h rfl fun R' hR' hO => ?_
      go_wp2_with fail
      refine (HP2.out _).mono ?_
      rintro e w3 ⟨rfl, hb3⟩
      have hb13 := step hb12 hb3
      have k1 := keep_laid HL1.out hb13
      have kz := keep_laid HLZ.out hb13
      have t0 := free_laid (i := 0) k1
      have t1 := free_laid (i := 1) k1
      have c0 := cell_laid (i := 0) k1 rfl
      have c1 := cell_laid (i := 1) k1 rfl
      have K1 := hid (set_laid (i := 1) (set_laid (i := 0) k1 (.int .i64 ((C : Nat) : Int))) (.int .i64 ((P : Nat) : Int)))
      have KZ : Hid (((w3.setCell ⟨Z + 1, 0, none⟩ (.int .i64 ((C : Nat) : Int))).setCell ⟨Z + 1, 1, none⟩ (.int .i64 ((P : Nat) : Int))).heap[Z]? = some (.cells #[.int .i64 0, .int .i64 0, .slice none 0 0, .slice none 0 0] 35 (0, 0))) := hid (other_laid (other_laid kz (by omega) _) (by omega) _)
      have HB3 := hid (((step HB1.out hb13).setCell (p := ⟨Z + 1, 0, none⟩) (by show w.heap.size ≤ Z + 1; have := HZ.out; omega) (.int .i64 ((C : Nat) : Int))).setCell (p := ⟨Z + 1, 1, none⟩) (by show w.heap.size ≤ Z + 1; have := HZ.out; omega) (.int .i64 ((P : Nat) : Int)))
      have hs0 : Below wZ.heap.size wZ (w3.setCell ⟨Z + 1, 0, none⟩ (.int .i64 ((C : Nat) : Int))) := (step HBZ1.out hb13).setCell (p := ⟨Z + 1, 0, none⟩) (by show wZ.heap.size ≤ Z + 1; have := HSZ.out; omega) _
      clear k1 kz
      go_wp2
      refine hR' _ _ ⟨⟨_, step HBZ1.out hb13⟩, rfl⟩ ?_
      repeat (refine wpMix2_q rfl rfl ?_; go_big_quiet_step (fail); refine wpQuiet_nil ?_)
      refine wpMix2_h rfl fun R' hR' hO => ?_
      go_wp2
      refine hR' _ _ ⟨⟨_, hs0⟩, rfl⟩ ?_
      repeat (refine wpMix2_q rfl rfl ?_; go_big_quiet_step (fail); refine wpQuiet_nil ?_)
      refine wpMix2_done ?_
      simp only [List.drop_succ_cons, List.drop_zero]
      clear w0c
      go_wp2
      go_meet
      exact ⟨K1.out, KZ.out, HB3.out⟩
  case rest =>
    obtain ⟨hY, hZb, hbw⟩ := hcut
    have HJ0 : Hid (RefJ Z (Z + 1) C P (List.replicate 0 []) [] (.slice none 0 0) (.slice none 0 0) [] w wc) := hid (RefJ.init hY hZb hbw (by rw [HZ.out]; exact Nat.le_refl _) (Nat.le_refl _))
    have y0 := cell_laid (i := 0) hY rfl
    clear hY hZb hbw
    go_wp2
    go_loopg [25] C (fun g i V => ∃ (k : Nat) (lv : Value) (vs : List Value), g + k = C ∧ i = .int .i64 (k : Nat) ∧ Hid (RefJ Z (Z + 1) C P (List.replicate k []) [] lv (.slice none 0 0) vs w V))
    case atStart => exact ⟨0, _, _, rfl, rfl, HJ0⟩
    case round =>
      obtain ⟨k, lv, vs, hk, rfl, hJ⟩ := hrel
      have HK := hid hk
      clear hk
      obtain ⟨la, lc, rfl, -⟩ := Leads.of_own hJ.out.o.lrow
      rw [List.length_replicate] at hJ
      by_cases hlt : k < C
      · have y2 := cell_laid (i := 2) hJ.out.o.blk rfl
        obtain ⟨w2, hw2, hb2, hs2, hl2⟩ := laid wr #[.slice none 0 0] 46
        obtain ⟨M, hM⟩ : ∃ M, wr.heap.size = M := ⟨_, rfl⟩
        rw [hM] at hl2 hs2
        have HJ2 := hid (hJ.out.grow hb2)
        have HR2 := hid HJ2.out.o.lrow
        rw [List.length_replicate] at HR2
        have HL2 := hid hl2
        have hsz : Z + 1 ≤ w2.heap.size := HJ2.out.o.lo.2.1
        clear hb2 hl2
        go_wp2_with ((with_reducible show wpList _ _ _ _ _ _); refine wp_appendM elemLists rfl (.tmp 28) (.tmp 29) rfl (Z + 1) (.slice la k lc) k vs rfl HR2.out ⟨M, 0, none⟩ 1 1 [.slice none 0 0] rfl rfl ?c1 ?c2 ?c3 ?c4 ?c5)
        case c1 =>
          intro i u hu
          refine cell_add ?_
          rw [Nat.zero_add]
          exact cell_laid HL2.out (by simpa using hu)
        case c2 => intro u hu; rw [List.mem_singleton.1 hu]; rfl
        case c3 => omega
        case c4 => exact hsz
        case c5 =>
          intro v' W' ho' hg' hm'
          have hbk := HJ2.out.o.blk_grown hg'
          have f2 := free_laid (i := 2) hbk
          have g2 := cell_laid (i := 2) hbk rfl
          have HN : Hid (RefJ Z (Z + 1) C P (List.replicate (k + 1) []) [] v' (.slice none 0 0) (vs ++ [.slice none 0 0]) w (W'.setCell ⟨Z + 1, 2, none⟩ v')) := hid (by
            rw [List.replicate_succ']
            exact HJ2.out.addNil hg' (by rw [List.length_replicate]; exact ho'))
          obtain ⟨la', lc', rfl, -⟩ := Leads.of_own ho'
          clear ho' hg' hm' hbk
          go_wp2
          go_roundg (gk - 1)
          case measure => have := HK.out; omega
          case rel => exact ⟨k + 1, _, _, by have := HK.out; omega, by go_num, HN⟩
      · have e := HK.out
        obtain rfl : k = C := by omega
        obtain ⟨RES, hRES⟩ : ∃ RES, readL l = RES := ⟨_, rfl⟩
        have HGO : Hid (readF k (l.drop 1) 0 (List.replicate k []) [] = RES) := hid (by rw [← hRES, readL_F, HC.out])
        have HRES := hid hRES
        have HJS := hJ
        clear e HK hRES hJ
        go_wp2
        go_loopg [4, 5] (n - 1) (fun g t4 t5 V => ∃ (i calls : Nat) (ls : List (List (List Nat))) (ps : List Int) (lv pv : Value) (vs : List Value), g = n - i ∧ 1 ≤ i ∧ t5 = .int .i64 (i : Nat) ∧ t4 = .int .i64 (calls : Nat) ∧ Hid (RefJ Z (Z + 1) k P ls ps lv pv vs w V) ∧ Hid (readF k (l.drop i) calls ls ps = RES) ∧ calls ≤ 64 ∧ Hid (ps.length ≤ 4096) ∧ Hid (ls.length = k) ∧ Hid (∀ cs ∈ ls, cs.length ≤ calls) ∧ i ≤ 2000)
        case atStart => exact ⟨1, 0, _, [], _, _, _, rfl, Nat.le_refl _, rfl, rfl, HJS, HGO, by omega, hid (by simp), hid (by simp), hid (fun cs hcs => by rw [(List.mem_replicate.1 hcs).2]; exact Nat.le_refl _), by omega⟩
        case round =>
          obtain ⟨i, calls, ls, ps, lv, pv, vs, hgi, hi1, rfl, rfl, hJ, hgo, hc64, hp4, hlk, hfew, hi2⟩ := hrel
          obtain ⟨la, lc2, rfl, -⟩ := Leads.of_own hJ.out.o.lrow
          obtain ⟨pa, pc2, rfl, -⟩ := Leads.of_own hJ.out.o.pick
          have HGI := hid hgi
          clear hgi
          by_cases hin : i < n
          · obtain ⟨x, hx⟩ : ∃ x, l[i]? = some x := ⟨_, List.getElem?_eq_getElem (by rw [HL.out]; exact hin)⟩
            have hxb : x < 18446744073709551616 := HLB.out x (List.mem_of_getElem? hx)
            have hdrop : l.drop i = x :: l.drop (i + 1) := by
              rw [List.drop_eq_getElem_cons (by rw [HL.out]; exact hin), (List.getElem?_eq_some_iff.1 hx).2]
            have HGX : Hid (readF k (x :: l.drop (i + 1)) calls ls ps = RES) := hid (by rw [← hdrop]; exact hgo.out)
            have hrl : (l.drop (i + 1)).length = n - i - 1 := by rw [List.length_drop, HL.out]; omega
            have HRL := hid hrl
            obtain ⟨b, off, rfl, hblt, hcc⟩ := H.out.at hin (wcell_get5 hx)
            have HWB := hid hJ.out.o.below
            have f0 : ∀ z : Ext wr, z.v.cell? ⟨b, off + i, none⟩ = some (.int .u64 ((x : Nat) : Int)) := fun z => hcc z.v (step HWB.out z.b)
            have g0 : ∀ z : Ext wr, z.v.cell? ⟨Z + 1, 0, none⟩ = some (.int .i64 ((k : Nat) : Int)) := fun z => cell_laid (keep_laid hJ.out.o.blk z.b) rfl
            obtain ⟨GV, hGV⟩ : ∃ GV, Pl.get x 8 3 = GV := ⟨_, rfl⟩
            obtain ⟨A, hA⟩ : ∃ A, GV % k = A := ⟨_, rfl⟩
            have hGV8 : GV < 8 := by rw [← hGV]; exact get_lt x 8 3
            have hAk : A < k := by rw [← hA]; exact Nat.mod_lt _ (by omega)
            have hAI : Int.tmod ((GV : Nat) : Int) ((k : Nat) : Int) = ((A : Nat) : Int) := by rw [← hA]; exact (Int.ofNat_tmod _ _).symm
            have hC0 : ¬ ((k : Nat) : Int) = 0 := by omega
            obtain ⟨KD, hKD⟩ : ∃ KD, Pl.get x 0 2 = KD := ⟨_, rfl⟩
            have hKD4 : KD < 4 := by rw [← hKD]; exact get_lt x 0 2
            obtain ⟨GM, hGM⟩ : ∃ GM, Pl.get x 16 8 = GM := ⟨_, rfl⟩
            have hGM8 : GM < 256 := by rw [← hGM]; exact get_lt x 16 8
            have HPA : Hid (∀ V : World, Calls Tryd.prog 30 #[.int .u64 (x : Nat), .int .i64 8, .int .i64 3] V (Ret (.int .i64 ((GV : Nat) : Int)) V)) := hid (fun V => by rw [← hGV]; exact HPB.out x 8 3 hxb (by decide) (by decide) V)
            have HPK : Hid (∀ V : World, Calls Tryd.prog 30 #[.int .u64 (x : Nat), .int .i64 0, .int .i64 2] V (Ret (.int .i64 ((KD : Nat) : Int)) V)) := hid (fun V => by rw [← hKD]; exact HPB.out x 0 2 hxb (by decide) (by decide) V)
            have HPM : Hid (∀ V : World, Calls Tryd.prog 30 #[.int .u64 (x : Nat), .int .i64 16, .int .i64 8] V (Ret (.int .i64 ((GM : Nat) : Int)) V)) := hid (fun V => by rw [← hGM]; exact HPB.out x 16 8 hxb (by decide) (by decide) V)
            have HKD := hid hKD
            have HGVA : Hid (Pl.get x 8 3 % k = A) := hid (by rw [hGV]; exact hA)
            have HGM := hid hGM
            have HCC := hid hcc
            clear hcc hx hdrop hgo hGV hA hKD hGM hrl hxb
            go_upto_region 12 with (fail)
            refine wp_region_ext (by kernel_rfl) (by kernel_rfl) ?_
            repeat (go_big_quiet_step ((go_at_call 30; exact ext_of (HPA.out _))))
            refine wpQuiet_nil ?_
            rintro _ ⟨z2, rfl⟩
            obtain ⟨w2, hw2⟩ : ∃ w2, z2.v = w2 := ⟨_, rfl⟩
            have hb2 : Below wr.heap.size wr w2 := hw2 ▸ z2.b
            rw [hw2]
            clear hw2
            have f1 : w2.cell? ⟨b, off + i, none⟩ = some (.int .u64 ((x : Nat) : Int)) := f0 ⟨w2, hb2⟩
            have HJ2 := hid (hJ.out.grow hb2)
            clear f0 g0 hJ HWB
            go_wp2_with fail
            refine (HPK.out _).mono ?_
            rintro e w3 ⟨rfl, hb3⟩
            have f3 : w3.cell? ⟨b, off + i, none⟩ = some (.int .u64 ((x : Nat) : Int)) := HCC.out w3 (step HJ2.out.o.below hb3)
            have HJ3 := hid (HJ2.out.grow hb3)
            clear f1 HJ2 hb2 hb3
            by_cases hk1 : KD = 1
            · subst hk1
              obtain ⟨i5, hi5⟩ : ∃ i5, i + 5 = i5 := ⟨_, rfl⟩
              have hi5I : ((i : Nat) : Int) + 5 = ((i5 : Nat) : Int) := by omega
              by_cases h5 : i5 < n
              · have hlen5 : ((l.drop (i + 1)).take 5).length = 5 := by rw [List.length_take, HRL.out]; omega
                obtain ⟨x1, x2, x3, x4, x5, hxs⟩ := five_ex hlen5
                have hat : ∀ j y, [x1, x2, x3, x4, x5][j]? = some y → j < 5 → l[i + 1 + j]? = some y := fun j y hy hj => by
                  rw [← hxs, List.getElem?_take_of_lt hj, List.getElem?_drop] at hy
                  exact hy
                have hdd : (l.drop (i + 1)).drop 5 = l.drop (i5 + 1) := by rw [List.drop_drop]; congr 1; omega
                have hR5 : 5 ≤ (l.drop (i + 1)).length := by rw [HRL.out]; omega
                obtain ⟨i1, hi1'⟩ : ∃ i1, i + 1 = i1 := ⟨_, rfl⟩
                obtain ⟨i2', hi2'⟩ : ∃ i1, i + 2 = i1 := ⟨_, rfl⟩
                obtain ⟨i3, hi3'⟩ : ∃ i1, i + 3 = i1 := ⟨_, rfl⟩
                obtain ⟨i4, hi4'⟩ : ∃ i1, i + 4 = i1 := ⟨_, rfl⟩
                have hi1I : ((i : Nat) : Int) + 1 = ((i1 : Nat) : Int) := by omega
                have hi2I : ((i : Nat) : Int) + 2 = ((i2' : Nat) : Int) := by omega
                have hi3I : ((i : Nat) : Int) + 3 = ((i3 : Nat) : Int) := by omega
                have hi4I : ((i : Nat) : Int) + 4 = ((i4 : Nat) : Int) := by omega
                have hi1n : i1 < n := by omega
                have hi2n : i2' < n := by omega
                have hi3n : i3 < n := by omega
                have hi4n : i4 < n := by omega
                have hi5n : i5 < 2000 := by omega
                have wd : ∀ j y, [x1, x2, x3, x4, x5][j]? = some y → j < 5 → ∀ V : World, Below w.heap.size w V → V.cell? ⟨b, off + (i + 1 + j), none⟩ = some (.int .u64 ((y : Nat) : Int)) := fun j y hy hj V hV => by
                  obtain ⟨_, _, ⟨h0, -⟩ | ⟨b', off', e, hblt', hc⟩⟩ := H.out
                  · omega
                  · simp only [Option.some.injEq, Addr.mk.injEq, and_true] at e
                    obtain ⟨rfl, rfl⟩ := e
                    exact (hV.cell (p := ⟨b, off + (i + 1 + j), none⟩) hblt').trans (hc _ _ (wcell_get5 (hat j y hy hj)))
                have HWD : Hid (∀ V : World, Below w.heap.size w V → V.cell? ⟨b, off + i1, none⟩ = some (.int .u64 ((x1 : Nat) : Int)) ∧ V.cell? ⟨b, off + i2', none⟩ = some (.int .u64 ((x2 : Nat) : Int)) ∧ V.cell? ⟨b, off + i3, none⟩ = some (.int .u64 ((x3 : Nat) : Int)) ∧ V.cell? ⟨b, off + i4, none⟩ = some (.int .u64 ((x4 : Nat) : Int)) ∧ V.cell? ⟨b, off + i5, none⟩ = some (.int .u64 ((x5 : Nat) : Int))) := hid (fun V hV => by
                  rw [← hi1', ← hi2', ← hi3', ← hi4', ← hi5]
                  exact ⟨wd 0 x1 rfl (by decide) V hV, wd 1 x2 rfl (by decide) V hV, wd 2 x3 rfl (by decide) V hV, wd 3 x4 rfl (by decide) V hV, wd 4 x5 rfl (by decide) V hV⟩)
                have HI5 := hid hi5
                have HONE := hid (readF_one k x (l.drop (i + 1)) calls ls ps HKD.out hR5)
                rw [HGVA.out, hxs, hdd, HGX.out] at HONE
                clear wd hat hxs hdd hR5 hlen5 hi1' hi2' hi3' hi4' hi5
                by_cases h64 : calls < 64
                · rw [if_pos h64, if_pos h64] at HONE
                  obtain ⟨cs, hcs⟩ : ∃ cs, ls[A]? = some cs := ⟨_, List.getElem?_eq_getElem (by rw [hlk.out]; exact hAk)⟩
                  obtain ⟨v, hv⟩ : ∃ v, vs[A]? = some v := ⟨_, List.getElem?_eq_getElem (by rw [HJ3.out.vlen, hlk.out]; exact hAk)⟩
                  have hrow := HJ3.out.o.row A v cs hv hcs
                  obtain ⟨va, vcc, rfl, -⟩ := Leads.of_own hrow
                  obtain ⟨nc, hnc⟩ : ∃ nc, cs.length = nc := ⟨_, rfl⟩
                  have hnc64 : nc ≤ 64 := by rw [← hnc]; have := hfew.out cs (List.mem_of_getElem? hcs); omega
                  rw [hnc] at hv hrow
                  obtain ⟨gl, rfl⟩ : ∃ gl, la = some ⟨gl, 0, none⟩ := by
                    rcases HJ3.out.o.lrow.2 with ⟨h0, h1⟩ | ⟨g, c, cur, e, -⟩
                    · have := hlk.out; omega
                    · simp only [Value.slice.injEq] at e; exact ⟨g, e.1⟩
                  obtain ⟨nls, hnls⟩ : ∃ nls, ls.length = nls := ⟨_, rfl⟩
                  have hAls : A < nls := by rw [← hnls, hlk.out]; exact hAk
                  have HCL : Hid (∀ V : World, V.cell? ⟨Z + 1, 2, none⟩ = some (.slice (some ⟨gl, 0, none⟩) nls lc2) → V.cell? ⟨gl, A, none⟩ = some (.slice va nc vcc) → Below w.heap.size w V → ∃ z : R17 (Z + 1) gl A b (off + i1) (off + i2') (off + i3) (off + i4) (off + i5) (.slice (some ⟨gl, 0, none⟩) nls lc2) (.slice va nc vcc) x1 x2 x3 x4 x5, V = z.v) := hid (fun V h1 h2 h3 => by
                    obtain ⟨k1, k2, k3, k4, k5⟩ := HWD.out V h3
                    exact ⟨⟨V, h1, h2, k1, k2, k3, k4, k5⟩, rfl⟩)
                  have HCE : Hid (∀ V : World, Below w3.heap.size w3 V → ∃ z : R17 (Z + 1) gl A b (off + i1) (off + i2') (off + i3) (off + i4) (off + i5) (.slice (some ⟨gl, 0, none⟩) nls lc2) (.slice va nc vcc) x1 x2 x3 x4 x5, V = z.v) := hid (fun V hV => HCL.out V (by rw [← hnls]; exact cell_laid (keep_laid HJ3.out.o.blk hV) rfl) (by
                    have := (own_grow HJ3.out.o.lrow hV).cellAt A (by rw [hnls]; omega)
                    rw [this]; exact hv) (step HJ3.out.o.below hV))
                  have hdr := HCE.out w3.drew (Below.refl _ _).drew
                  haveI : Nonempty (R17 (Z + 1) gl A b (off + i1) (off + i2') (off + i3) (off + i4) (off + i5) (.slice (some ⟨gl, 0, none⟩) nls lc2) (.slice va nc vcc) x1 x2 x3 x4 x5) := hdr.elim fun z _ => ⟨z⟩
                  have e2 : ∀ z : R17 (Z + 1) gl A b (off + i1) (off + i2') (off + i3) (off + i4) (off + i5) (.slice (some ⟨gl, 0, none⟩) nls lc2) (.slice va nc vcc) x1 x2 x3 x4 x5, z.v.cell? ⟨Z + 1, 2, none⟩ = some (.slice (some ⟨gl, 0, none⟩) nls lc2) := fun z => z.y2
                  have eA : ∀ z : R17 (Z + 1) gl A b (off + i1) (off + i2') (off + i3) (off + i4) (off + i5) (.slice (some ⟨gl, 0, none⟩) nls lc2) (.slice va nc vcc) x1 x2 x3 x4 x5, z.v.cell? ⟨gl, A, none⟩ = some (.slice va nc vcc) := fun z => z.ga
                  have d1 : ∀ z : R17 (Z + 1) gl A b (off + i1) (off + i2') (off + i3) (off + i4) (off + i5) (.slice (some ⟨gl, 0, none⟩) nls lc2) (.slice va nc vcc) x1 x2 x3 x4 x5, z.v.cell? ⟨b, off + i1, none⟩ = some (.int .u64 ((x1 : Nat) : Int)) := fun z => z.d1
                  have d2 : ∀ z : R17 (Z + 1) gl A b (off + i1) (off + i2') (off + i3) (off + i4) (off + i5) (.slice (some ⟨gl, 0, none⟩) nls lc2) (.slice va nc vcc) x1 x2 x3 x4 x5, z.v.cell? ⟨b, off + i2', none⟩ = some (.int .u64 ((x2 : Nat) : Int)) := fun z => z.d2
                  have d3 : ∀ z : R17 (Z + 1) gl A b (off + i1) (off + i2') (off + i3) (off + i4) (off + i5) (.slice (some ⟨gl, 0, none⟩) nls lc2) (.slice va nc vcc) x1 x2 x3 x4 x5, z.v.cell? ⟨b, off + i3, none⟩ = some (.int .u64 ((x3 : Nat) : Int)) := fun z => z.d3
                  have d4 : ∀ z : R17 (Z + 1) gl A b (off + i1) (off + i2') (off + i3) (off + i4) (off + i5) (.slice (some ⟨gl, 0, none⟩) nls lc2) (.slice va nc vcc) x1 x2 x3 x4 x5, z.v.cell? ⟨b, off + i4, none⟩ = some (.int .u64 ((x4 : Nat) : Int)) := fun z => z.d4
                  have d5 : ∀ z : R17 (Z + 1) gl A b (off + i1) (off + i2') (off + i3) (off + i4) (off + i5) (.slice (some ⟨gl, 0, none⟩) nls lc2) (.slice va nc vcc) x1 x2 x3 x4 x5, z.v.cell? ⟨b, off + i5, none⟩ = some (.int .u64 ((x5 : Nat) : Int)) := fun z => z.d5
                  have HROW := hid hrow
                  have HCS := hid hcs
                  have HV := hid hv
                  have HNC := hid hnc
                  have HNLS := hid hnls
                  have hnlsI : nls ≤ 100 := by rw [← hnls, hlk.out]; omega
                  clear hrow hcs hv hnc hnls
                  go_upto_region 17 with (fail)
                  refine wp_region_mix2 (fun V => ∃ z : R17 (Z + 1) gl A b (off + i1) (off + i2') (off + i3) (off + i4) (off + i5) (.slice (some ⟨gl, 0, none⟩) nls lc2) (.slice va nc vcc) x1 x2 x3 x4 x5, V = z.v) 38 (.q 0 (.q 1 (.q 2 (.q 3 (.q 4 (.q 5 (.q 6 (.q 7 (.q 8 (.q 9 (.q 10 (.q 11 (.q 12 (.q 13 (.q 14 (.q 15 (.q 16 (.q 17 (.q 18 (.q 19 (.q 20 (.q 21 (.q 22 (.q 23 (.q 24 (.q 25 (.q 26 (.q 27 (.q 28 (.q 29 (.q 30 (.q 31 (.q 32 (.q 33 (.q 34 (.h 35 (.h 36 (.q 37 (.done))))))))))))))))))))))))))))))))))))))) (by kernel_rfl) (by kernel_rfl) hdr ?_
                  repeat (refine wpMix2_q rfl rfl ?_; go_big_quiet_step (fail); refine wpQuiet_nil ?_)
                  refine wpMix2_h rfl fun R' hR' hO => ?_
                  obtain ⟨w4, hw4, hb4, hs4, hl4⟩ := laid w3.drew #[.int .u64 ((x1 : Nat) : Int), .int .u64 ((x2 : Nat) : Int), .int .u64 ((x3 : Nat) : Int), .int .u64 ((x4 : Nat) : Int), .int .u64 ((x5 : Nat) : Int)] 53
                  obtain ⟨M, hM⟩ : ∃ M, w3.heap.size = M := ⟨_, rfl⟩
                  have hM' : w3.drew.heap.size = M := hM
                  rw [hM'] at hl4 hs4
                  have hb34 : Below w3.heap.size w3 w4 := (Below.refl _ _).drew.trans hb4
                  have HL4 := hid hl4
                  have HJ4 := hid (HJ3.out.grow hb34)
                  have HR4 := hid (own_grow HROW.out hb34)
                  clear hl4 hs4 hb4
                  go_wp2
                  refine hR' _ _ (HCE.out _ hb34) ?_
                  refine wpMix2_h rfl fun R' hR' hO => ?_
                  refine wp_appendM elemCalls rfl (.tmp 68) (.tmp 96) rfl (Z + 1) (.slice va nc vcc) nc (wcells cs.flatten) rfl HR4.out ⟨M, 0, none⟩ 1 1 (wcells [x1, x2, x3, x4, x5]) rfl rfl ?_ ?_ ?_ ?_ ?_
                  · intro j u hu
                    refine cell_add ?_
                    rw [Nat.zero_add]
                    exact cell_laid HL4.out (by simpa [wcells] using hu)
                  · intro u hu
                    obtain ⟨y, -, rfl⟩ := List.mem_map.1 hu
                    rfl
                  · omega
                  · exact HJ4.out.o.lo.2.1
                  intro v' W' ho' hg' hm'
                  have hlr := HJ4.out.lrow_grown HV.out HCS.out hg'
                  rw [HNLS.out] at hlr
                  have hfrA := hlr.frozenAt A
                  have hcA := hlr.cellAt A (by omega)
                  rw [HV.out] at hcA
                  have hJN := HJ4.out.call HV.out HCS.out (by rw [HNC.out]; exact ho') hg' hm'
                  rw [HNLS.out] at hJN
                  have HJN := hid hJN
                  have HFN : Hid (∀ cs' ∈ ls.modify A (· ++ [[x1, x2, x3, x4, x5]]), cs'.length ≤ calls + 1) := hid (by
                    intro cs' hcs'
                    obtain ⟨j, hj⟩ := List.getElem?_of_mem hcs'
                    rw [List.getElem?_modify] at hj
                    by_cases hjA : A = j
                    · subst hjA
                      have hcsA := HCS.out
                      rw [hcsA] at hj
                      simp only [if_true, Option.map_eq_map, Option.map_some, Option.some.injEq] at hj
                      rw [← hj, List.length_append]
                      have := hfew.out cs (List.mem_of_getElem? HCS.out)
                      simpa using this
                    · simp only [if_neg hjA] at hj
                      have hj' : ls[j]? = some cs' := by simpa using hj
                      have := hfew.out cs' (List.mem_of_getElem? hj')
                      omega)
                  obtain ⟨va9, vc9, rfl, -⟩ := Leads.of_own ho'
                  obtain ⟨c1, hc1⟩ : ∃ c1, calls + 1 = c1 := ⟨_, rfl⟩
                  have hc1I : ((calls : Nat) : Int) + 1 = ((c1 : Nat) : Int) := by omega
                  have hc64 : c1 ≤ 64 := by omega
                  have HLM : Hid ((ls.modify A (· ++ [[x1, x2, x3, x4, x5]])).length = k) := hid (by rw [List.length_modify]; exact hlk.out)
                  rw [hc1] at HFN HONE
                  have hcw := HCL.out W' (by
                    have := cell_laid (i := 2) (keep_grown HJ4.out.o.blk hg' fun e => by
                      obtain ⟨cur, hc⟩ := own_type HR4.out _ e
                      exact type_ne hc HJ4.out.o.blk (by decide) rfl) rfl
                    rw [this, HNLS.out]
                    rfl) hcA (HJ4.out.o.below.trans ((own_below HR4.out hg' HJ4.out.o.lo.2.1).mono (by have := HJ4.out.zw; omega)))
                  clear ho' hg' hm' hlr hJN hc1
                  go_wp2
                  refine hR' _ _ hcw ?_
                  repeat (refine wpMix2_q rfl rfl ?_; go_big_quiet_step (fail); refine wpQuiet_nil ?_)
                  refine wpMix2_done ?_
                  simp only [List.drop_succ_cons, List.drop_zero]
                  clear d1 d2 d3 d4 d5 e2 eA
                  go_wp2
                  go_roundg (n - (i5 + 1))
                  case measure => have := HGI.out; have := HI5.out; omega
                  case rel => exact ⟨i5 + 1, c1, _, ps, _, _, _, rfl, by omega, by go_num, rfl, HJN, hid HONE.out.symm, hc64, hp4, HLM, HFN, by omega⟩
                · rw [if_neg h64, if_neg h64] at HONE
                  have hcd : decide (((calls : Nat) : Int) < 64) = false := decide_eq_false (by omega)
                  go_wp2
                  go_roundg (n - (i5 + 1))
                  case measure => have := HGI.out; have := HI5.out; omega
                  case rel => exact ⟨i5 + 1, calls, ls, ps, _, _, _, rfl, by omega, by go_num, rfl, HJ3, hid HONE.out.symm, hc64, hp4, hlk, hfew, by omega⟩
              · have HN : Hid (readF k (l.drop (i + 1)) calls ls ps = RES) := hid (by rw [← HGX.out, readF_short k x _ _ _ _ HKD.out (by rw [HRL.out]; omega)])
                go_wp2
                go_roundg (n - (i + 1))
                case measure => have := HGI.out; omega
                case rel => exact ⟨i + 1, calls, ls, ps, _, _, vs, rfl, by omega, by go_num, rfl, HJ3, HN, hc64, hp4, hlk, hfew, by omega⟩
            · by_cases hk2 : KD = 2
              · subst hk2
                have HN : Hid (readF k (l.drop (i + 1)) calls ls (ps ++ List.replicate (min (GM + 1) (4096 - ps.length)) ((A : Nat) : Int)) = RES) := hid (by rw [← HGX.out, readF_two k x _ _ _ _ HKD.out, HGM.out, HGVA.out])
                obtain ⟨np, hnp⟩ : ∃ np, ps.length = np := ⟨_, rfl⟩
                have hnp4 : np ≤ 4096 := by rw [← hnp]; exact hp4.out
                have HNP := hid hnp
                rw [hnp] at HN HJ3
                clear hnp
                go_wp2_with fail
                refine (HPM.out _).mono ?_
                rintro e w4 ⟨rfl, hb4⟩
                have HJ4 := hid (HJ3.out.grow hb4)
                clear f3 HJ3 hb4
                obtain ⟨M1, hM1⟩ : ∃ M1, GM + 1 = M1 := ⟨_, rfl⟩
                have hM1I : ((GM : Nat) : Int) + 1 = ((M1 : Nat) : Int) := by omega
                rw [hM1] at HN
                have hM1l : M1 ≤ 256 := by omega
                clear hM1
                go_wp2
                obtain ⟨G, hG⟩ : ∃ G, n - (i + 1) = G := ⟨_, rfl⟩
                have HG := hid hG
                clear hG
                go_loopg [111] M1 (fun g t V => ∃ (j : Nat) (pv : Value), g + j = M1 ∧ t = .int .i64 (j : Nat) ∧ Hid (RefJ Z (Z + 1) k P ls (ps ++ List.replicate (min j (4096 - np)) ((A : Nat) : Int)) (.slice la ls.length lc2) pv vs w V))
                case atStart => exact ⟨0, _, rfl, rfl, by rw [Nat.zero_min, List.replicate_zero, List.append_nil]; exact HJ4⟩
                case round =>
                  obtain ⟨j, pv, hj, rfl, hJ⟩ := hrel
                  have HJ := hid hj
                  clear hj
                  obtain ⟨nq, hnq⟩ : ∃ nq, (ps ++ List.replicate (min j (4096 - np)) ((A : Nat) : Int)).length = nq := ⟨_, rfl⟩
                  have hnq2 : nq = np + min j (4096 - np) := by rw [← hnq, List.length_append, List.length_replicate, HNP.out]
                  obtain ⟨pa5, pc5, rfl, -⟩ := Leads.of_own hJ.out.o.pick
                  rw [hnq] at hJ
                  have HNQ := hid hnq
                  have HNQ2 := hid hnq2
                  have hnq4 : nq ≤ 4096 := by omega
                  have y3 := cell_laid (i := 3) hJ.out.o.blk rfl
                  clear hnq hnq2
                  by_cases hlj : j < M1
                  · by_cases hroom : nq < 4096
                    · obtain ⟨w5, hw5, hb5, hs5, hl5⟩ := laid wr #[.int .i64 ((A : Nat) : Int)] 3
                      obtain ⟨M, hM⟩ : ∃ M, wr.heap.size = M := ⟨_, rfl⟩
                      rw [hM] at hl5 hs5
                      have HJ5 := hid (hJ.out.grow hb5)
                      have HP5 := hid HJ5.out.o.pick
                      rw [HNQ.out] at HP5
                      have HL5 := hid hl5
                      have hsz : Z + 1 ≤ w5.heap.size := HJ5.out.o.lo.2.1
                      clear hb5 hl5
                      go_wp2_with ((with_reducible show wpList _ _ _ _ _ _); refine wp_appendM elemInts rfl (.tmp 118) (.tmp 120) rfl (Z + 1) (.slice pa5 nq pc5) nq _ rfl HP5.out ⟨M, 0, none⟩ 1 1 [.int .i64 ((A : Nat) : Int)] rfl rfl ?c1 ?c2 ?c3 ?c4 ?c5)
                      case c1 =>
                        intro i u hu
                        refine cell_add ?_
                        rw [Nat.zero_add]
                        exact cell_laid HL5.out (by simpa using hu)
                      case c2 => intro u hu; rw [List.mem_singleton.1 hu]; rfl
                      case c3 => omega
                      case c4 => exact hsz
                      case c5 =>
                        intro v' W' ho' hg' hm'
                        have hbk := HJ5.out.pick_blk hg'
                        have f3 := free_laid (i := 3) hbk
                        have g3 := cell_laid (i := 3) hbk rfl
                        have HJN : Hid (RefJ Z (Z + 1) k P ls (ps ++ List.replicate (min (j + 1) (4096 - np)) ((A : Nat) : Int)) (.slice la ls.length lc2) v' vs w (W'.setCell ⟨Z + 1, 3, none⟩ v')) := hid (by
                          rw [rep_next _ j _ (by have := HNQ2.out; omega), ← List.append_assoc]
                          refine HJ5.out.pick hg' ?_
                          rw [List.length_append, HNQ.out]
                          have e : ∀ (l : List Int) (z : Int), icells (l ++ [z]) = icells l ++ [.int .i64 z] := fun l z => by simp [icells]
                          rw [e]
                          exact ho')
                        obtain ⟨va9, vc9, rfl, -⟩ := Leads.of_own ho'
                        clear ho' hg' hm' hbk y3
                        go_wp2
                        go_roundg (gk - 1)
                        case measure => have := HJ.out; omega
                        case rel => exact ⟨j + 1, _, by have := HJ.out; omega, by go_num, HJN⟩
                    · have hrd : decide (((nq : Nat) : Int) < 4096) = false := decide_eq_false (by omega)
                      have HJN : Hid (RefJ Z (Z + 1) k P ls (ps ++ List.replicate (min (j + 1) (4096 - np)) ((A : Nat) : Int)) (.slice la ls.length lc2) (.slice pa5 nq pc5) vs w wr) := hid (by
                        rw [show min (j + 1) (4096 - np) = min j (4096 - np) by have := HNQ2.out; omega]
                        exact hJ.out)
                      go_wp2
                      go_roundg (gk - 1)
                      case measure => have := HJ.out; omega
                      case rel => exact ⟨j + 1, _, by have := HJ.out; omega, by go_num, HJN⟩
                  · have e := HJ.out
                    obtain rfl : j = M1 := by omega
                    have HP4 : Hid ((ps ++ List.replicate (min j (4096 - np)) ((A : Nat) : Int)).length ≤ 4096) := hid (by rw [HNQ.out]; exact hnq4)
                    clear e HJ y3
                    go_wp2
                    go_roundg G
                    case measure => have := HG.out; have := HGI.out; omega
                    case rel => exact ⟨i + 1, calls, ls, _, _, _, vs, by have := HG.out; omega, by omega, by go_num, rfl, hJ, HN, hc64, HP4, hlk, hfew, by omega⟩
              · have hq1 : (((KD : Nat) : Int) == 1) = false := by simp; omega
                have hq2 : (((KD : Nat) : Int) == 2) = false := by simp; omega
                have HN : Hid (readF k (l.drop (i + 1)) calls ls ps = RES) := hid (by rw [← HGX.out, readF_idle k x _ _ _ _ ⟨by rw [HKD.out]; exact hk1, by rw [HKD.out]; exact hk2⟩])
                go_wp2
                go_roundg (n - (i + 1))
                case measure => have := HGI.out; omega
                case rel => exact ⟨i + 1, calls, ls, ps, _, _, vs, rfl, by omega, by go_num, rfl, HJ3, HN, hc64, hp4, hlk, hfew, by omega⟩
          · have hRE : RES = (ls, ps) := by rw [← hgo.out, List.drop_eq_nil_of_le (by rw [HL.out]; omega), readF_nil]
            have HRD : Hid (rdS l = ⟨((k : Nat) : Int), ((P : Nat) : Int), ls, ps⟩) := hid (by unfold rdS; rw [HC.out, HP.out, HRES.out, hRE])
            have hZB := hJ.out.z
            obtain ⟨r0, r1, r2, r3⟩ := cells4 hJ.out.o.blk
            have z0 := free_laid (i := 0) hZB
            have z1 := free_laid (i := 1) hZB
            have z2 := free_laid (i := 2) hZB
            have z3 := free_laid (i := 3) hZB
            have y0 := cell_laid (i := 0) hZB rfl
            have y1 := cell_laid (i := 1) hZB rfl
            have y2 := cell_laid (i := 2) hZB rfl
            have y3 := cell_laid (i := 3) hZB rfl
            obtain ⟨nls, hnls⟩ : ∃ nls, ls.length = nls := ⟨_, rfl⟩
            obtain ⟨np, hnp⟩ : ∃ np, ps.length = np := ⟨_, rfl⟩
            rw [hnls] at r2 hJ
            rw [hnp] at r3 hJ
            have HNLS := hid hnls
            have HNP := hid hnp
            have hzw : w.heap.size ≤ Z := hJ.out.zw
            have HEB := hid (set_laid (i := 3) (set_laid (i := 2) (set_laid (i := 1) (set_laid (i := 0) hZB (.int .i64 ((k : Nat) : Int))) (.int .i64 ((P : Nat) : Int))) (.slice la nls lc2)) (.slice pa np pc2))
            have HEJ := hid ((((hJ.out.o.setZ (i := 0) (Z := Z) (.int .i64 ((k : Nat) : Int)) (by omega) hzw).setZ (i := 1) (Z := Z) (.int .i64 ((P : Nat) : Int)) (by omega) hzw).setZ (i := 2) (Z := Z) (.slice la nls lc2) (by omega) hzw).setZ (i := 3) (Z := Z) (.slice pa np pc2) (by omega) hzw)
            clear hRE hZB hgo hzw hnls hnp
            go_wp2
            refine bodyPost_ret (refread_result HEB.out rfl) rfl ?_
            rw [HRD.out]
            exact ⟨Z + 1, Z + 1, .slice la nls lc2, .slice pa np pc2, vs, rfl, HEJ.out⟩
end Go.Proofs.YtpehnahmdfoobaaDoor
