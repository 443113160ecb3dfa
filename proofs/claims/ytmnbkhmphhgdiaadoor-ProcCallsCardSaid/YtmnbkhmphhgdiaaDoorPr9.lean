/- Processes: what who ends does in a table (printed by gen_pr9.py). -/
import Derived.Test.YtmnbkhmphhgdiaaDoorPr8
namespace Go.Proofs.YtmnbkhmphhgdiaaDoor
open Go.RowKit Go.Shelf
open Go.Proofs
set_option linter.unusedVariables false
attribute [local go_sem] Oper.semAt_some
set_option linter.unusedSimpArgs false
theorem own_abide2 {A B : World} {row : Option Nat} {Bs B0 base n size : Nat} {e : TypeId} {v : Value} {xs : List Value} (h : A.ownsRow base e size v n xs) (hg : A.grownBy B row)
    (hr : ∀ r, row = some r → r = Bs ∨ (B0 ≤ r ∧ ∃ o, A.heap[r]? = some o ∧ o.isCells = false)) (hne : v.ownBlock ≠ some Bs) : B.ownsRow base e size v n xs := by
  refine own_keep h fun k o hk ho => ?_
  obtain ⟨cur, hc⟩ := own_type h k hk
  rw [ho] at hc
  cases hc
  exact cells_abide ho hg hr (fun e => hne (by rw [hk, e]))
theorem TchP.abide {P : Nat → Prop} {w A B : World} {row : Option Nat} {Bs B0 : Nat} (h : TchP P w A) (hg : A.grownBy B row)
    (hr : ∀ r, row = some r → r = Bs ∨ (B0 ≤ r ∧ ∃ o, A.heap[r]? = some o ∧ o.isCells = false)) (h1 : w.heap.size ≤ Bs) (h2 : w.heap.size ≤ B0) : TchP P w B :=
  ⟨hg.os.trans h.os, hg.tape.trans h.tape, hg.output.trans h.output, Nat.le_trans h.size hg.size, fun k hk hp => (hg.block k (Nat.lt_of_lt_of_le hk h.size) (fun e => by rcases hr k e.symm with h | ⟨h, _⟩ <;> omega)).trans (h.block k hk hp)⟩
theorem TchP.far {P : Nat → Prop} {V W W' : World} {Z : Nat} (h : TchP P V W) (g : W.grownBy W' (some Z)) (hZ : V.heap.size ≤ Z) : TchP P V W' :=
  ⟨g.os.trans h.os, g.tape.trans h.tape, g.output.trans h.output, Nat.le_trans h.size g.size, fun k hk hp => (g.block k (Nat.lt_of_lt_of_le hk h.size) (fun e => by cases e; omega)).trans (h.block k hk hp)⟩
theorem TchP.mark {P : Nat → Prop} {w W : World} {D : Nat} (h : TchP P w W) (hD : w.heap.size ≤ D) (hK : W.heap[D]? = some (.deferred (some []))) : TchP P w (W.putObj D (.deferred none)) :=
  ⟨h.os, h.tape, h.output, Nat.le_trans h.size (by simp [World.putObj]), fun k hk hp => (World.putObj_heap_other (by omega)).trans (h.block k hk hp)⟩
theorem list_set_same {α : Type} {l : List α} {i : Nat} {x : α} (h : l[i]? = some x) : l.set i x = l := by
  apply List.ext_getElem?
  intro j
  rw [List.getElem?_set]
  split
  · rename_i e
    subst e
    rw [h, if_pos (List.getElem?_eq_some_iff.1 h).1]
  · rfl
/-- Of those that stay where one ends. -/
def stayB (pid : Nat) (d : Bool) (y : Pr) : Bool := (decide (y.1 ≠ pid) || !d) && (decide (y.2.1 ≠ pid) || !y.2.2.1)
def orphF (pid : Nat) (y : Pr) : Pr := if y.2.1 = pid then (y.1, 0, y.2.2.1, y.2.2.2) else y
def orphL (pid : Nat) (p : Nat → Bool) (L : List Pr) : List Pr := L.mapIdx fun i y => if p i = true then orphF pid y else y
theorem orphL_len (pid : Nat) (p : Nat → Bool) (L : List Pr) : (orphL pid p L).length = L.length := by simp [orphL]
theorem orphL_at {pid : Nat} {p : Nat → Bool} {L : List Pr} {i : Nat} {y : Pr} (h : L[i]? = some y) : (orphL pid p L)[i]? = some (if p i = true then orphF pid y else y) := by
  unfold orphL
  rw [List.getElem?_mapIdx, h]
  rfl
theorem orphL_all (pid : Nat) (p : Nat → Bool) (L : List Pr) (h : ∀ i, i < L.length → p i = true) : orphL pid p L = L.map (orphF pid) := by
  apply List.ext_getElem?
  intro i
  by_cases hi : i < L.length
  · rw [orphL_at (List.getElem?_eq_getElem hi), if_pos (h i hi), List.getElem?_map, List.getElem?_eq_getElem hi]
    rfl
  · rw [List.getElem?_eq_none (by rw [orphL_len]; omega), List.getElem?_eq_none (by simp; omega)]
theorem orphL_none (pid : Nat) (p : Nat → Bool) (L : List Pr) (h : ∀ i, p i = false) : orphL pid p L = L := by
  apply List.ext_getElem?
  intro i
  by_cases hi : i < L.length
  · rw [orphL_at (List.getElem?_eq_getElem hi), if_neg (by rw [h]; decide), List.getElem?_eq_getElem hi]
  · rw [List.getElem?_eq_none (by rw [orphL_len]; omega), List.getElem?_eq_none (by omega)]
theorem orphL_step {pid : Nat} {p q : Nat → Bool} {L : List Pr} {i : Nat} {y : Pr} (h : L[i]? = some y) (hq : ∀ j, q j = (p j || decide (j = i))) : orphL pid q L = (orphL pid p L).set i (orphF pid y) := by
  apply List.ext_getElem?
  intro j
  rw [List.getElem?_set]
  by_cases hj : j < L.length
  · rw [orphL_at (List.getElem?_eq_getElem hj), orphL_at (List.getElem?_eq_getElem hj), hq]
    by_cases e : i = j
    · subst e
      have := List.getElem?_eq_getElem hj
      rw [h] at this
      cases this
      simp [orphL_len, hj]
    · simp [e, Ne.symm e]
  · rw [List.getElem?_eq_none (by rw [orphL_len]; omega)]
    split
    · rename_i e
      subst e
      rw [if_neg (by rw [orphL_len]; exact hj)]
    · rw [List.getElem?_eq_none (by rw [orphL_len]; omega)]
theorem orph_idem (pid : Nat) (y : Pr) : orphF pid (orphF pid y) = orphF pid y := by
  unfold orphF
  split
  · split
    · rfl
    · rfl
  · rfl
theorem mfm {α β γ : Type} (f : α → β) (p : β → Bool) (g : β → γ) : ∀ L : List α, ((L.map f).filter p).map g = L.filterMap fun y => if p (f y) = true then some (g (f y)) else none
  | [] => rfl
  | y :: r => by
    rw [List.map_cons, List.filter_cons, List.filterMap_cons]
    cases h : p (f y) with
    | true => simp [mfm f p g r]
    | false => simp [mfm f p g r]
theorem fm_ext {α β : Type} {f g : α → Option β} : ∀ L : List α, (∀ y ∈ L, f y = g y) → L.filterMap f = L.filterMap g
  | [], _ => rfl
  | y :: r, h => by rw [List.filterMap_cons, List.filterMap_cons, h y (List.mem_cons_self ..), fm_ext r fun z hz => h z (List.mem_cons_of_mem _ hz)]
/-- All that ending does to a row. -/
theorem exit_row {G : Nat → Int} {L : List Pr} {pid code k : Nat} {x : Pr} (h : OkL G L) (hk : L[k]? = some x) (hx : x.1 = pid) (hd : x.2.2.1 = false) (hpos : 0 < pid) :
    (((L.set k (x.1, x.2.1, true, code)).filter (stayB pid (decide (x.2.1 = 0)))).map (orphF pid)) = L.filterMap (exitF pid code) := by
  have hxm : x ∈ L := List.mem_of_getElem? hk
  have hpar : x.2.1 ≠ pid := by
    intro e
    by_cases h0 : x.2.1 = 0
    · omega
    · exact (h.par x hxm h0).1 (by rw [e, hx])
  have key : ∀ y ∈ L, (if y.1 = pid then exitF pid code y = (if stayB pid (decide (x.2.1 = 0)) (x.1, x.2.1, true, code) = true then some (orphF pid (x.1, x.2.1, true, code)) else none) else exitF pid code y = (if stayB pid (decide (x.2.1 = 0)) y = true then some (orphF pid y) else none)) := by
    intro y hy
    by_cases e : y.1 = pid
    · rw [if_pos e]
      have := mem_eq h.sort hy hxm (by rw [e, hx])
      subst this
      unfold exitF stayB orphF
      simp only [hx, hpar, decide_true, Bool.true_and, decide_false, Bool.false_and, Bool.or_false, decide_eq_true_eq, ne_eq, not_true_eq_false, Bool.false_or, not_false_eq_true, Bool.true_or, Bool.and_true, if_true, if_false, Bool.not_eq_true', decide_eq_false_iff_not]
      by_cases h0 : y.2.1 = 0 <;> simp [h0, hpar]
    · rw [if_neg e]
      unfold exitF stayB orphF
      simp only [e, decide_false, Bool.false_and, Bool.false_or, decide_true, ne_eq, not_false_eq_true, Bool.true_or, Bool.true_and, if_false]
      by_cases h1 : y.2.1 = pid <;> cases h2 : y.2.2.1 <;> simp [h1, h2]
  have hset : L.set k (x.1, x.2.1, true, code) = L.map (fun y => if y.1 = pid then (x.1, x.2.1, true, code) else y) := by
    apply List.ext_getElem?
    intro j
    rw [List.getElem?_set, List.getElem?_map]
    by_cases hj : j < L.length
    · rw [List.getElem?_eq_getElem hj]
      by_cases e : k = j
      · subst e
        have := List.getElem?_eq_getElem hj
        rw [hk] at this
        cases this
        simp [hx, hj]
      · rw [if_neg e]
        have hne : L[j].1 ≠ pid := by
          intro e2
          have hpw := List.pairwise_iff_getElem.1 h.sort
          have hkl := (List.getElem?_eq_some_iff.1 hk).1
          have hke : L[k].1 = pid := by rw [(List.getElem?_eq_some_iff.1 hk).2, hx]
          rcases Nat.lt_or_gt_of_ne e with hl | hl
          · have := hpw k j hkl hj hl
            rw [hke, e2] at this
            omega
          · have := hpw j k hj hkl hl
            rw [hke, e2] at this
            omega
        simp [hne]
    · rw [List.getElem?_eq_none (by omega)]
      split
      · rename_i e
        subst e
        rw [if_neg hj]
        rfl
      · rfl
  rw [hset, mfm]
  refine fm_ext L fun y hy => ?_
  have := key y hy
  by_cases e : y.1 = pid
  · rw [if_pos e] at this
    rw [if_pos e, this]
  · rw [if_neg e] at this
    rw [if_neg e, this]
/-- The closure. -/
theorem exit11_any (t : Pr) (p X0 X1 : Nat) (d : Bool) (V : World) (h : V.cell? ⟨X0, 0, none⟩ = some (.int .u64 ((p : Nat) : Int))) (hX : X0 < V.heap.size) (h1 : V.cell? ⟨X1, 0, none⟩ = some (.bool d)) (hX1 : X1 < V.heap.size) :
    Calls Tryd.prog 40 #[prV t, .pointer (some ⟨X0, 0, none⟩), .pointer (some ⟨X1, 0, none⟩)] V (Ret (.bool (stayB p d t)) V) := by
  obtain ⟨q, q1, q2, q3⟩ := t
  obtain ⟨V1, hV1, hb1, hs1, hl1⟩ := laid V #[.int .u64 ((q : Nat) : Int), .int .u64 ((q1 : Nat) : Int), .bool q2, .int .u64 ((q3 : Nat) : Int)] 45
  have x0 : V1.cell? ⟨X0, 0, none⟩ = some (.int .u64 ((p : Nat) : Int)) := (hb1.cell (p := ⟨X0, 0, none⟩) hX).trans h
  have x1 : V1.cell? ⟨X1, 0, none⟩ = some (.bool d) := (hb1.cell (p := ⟨X1, 0, none⟩) hX1).trans h1
  have t0 := cell_laid (i := 0) hl1 rfl
  have t1 := cell_laid (i := 1) hl1 rfl
  have t2 := cell_laid (i := 2) hl1 rfl
  have HB1 := hid hb1
  unfold prV stayB
  dsimp only
  obtain ⟨A, hA⟩ : ∃ A, (((q : Nat) : Int) != ((p : Nat) : Int)) = A := ⟨_, rfl⟩
  obtain ⟨B, hB⟩ : ∃ B, (((q1 : Nat) : Int) != ((p : Nat) : Int)) = B := ⟨_, rfl⟩
  have eA : decide (q ≠ p) = A := by rw [← hA, Bool.eq_iff_iff]; simp; omega
  have eB : decide (q1 ≠ p) = B := by rw [← hB, Bool.eq_iff_iff]; simp; omega
  rw [eA, eB]
  clear h hX h1 hX1 hl1 hb1 hs1 eA eB
  cases A <;> cases B <;> cases d <;> cases q2 <;> (
    go_enter Tryd.func40, Tryd.ntmps40
    go_wp2
    go_ret
    exact ⟨rfl, HB1.out⟩)
set_option maxRecDepth 100000 in
set_option maxHeartbeats 16000000 in
theorem ExitDoes (T n vc base X0 X1 pid code : Nat) (va : Option Addr) (G : Nat → Int) (L : List Pr) (W : World) (hg : Glob W) (hT : W.heap[T]? = some (.cells #[.int .i64 (G 0), .int .i64 (G 1), .int .i64 (G 2), .int .i64 (G 3), .int .i64 (G 4), .int .i64 (G 5), .int .i64 (G 6), .int .i64 (G 7), .int .i64 (G 8), .int .i64 (G 9), .int .i64 (G 10), .int .i64 (G 11), .int .i64 (G 12), .int .i64 (G 13), .int .i64 (G 14), .int .i64 (G 15), .slice va n vc] 65 (0, 0))) (hown : W.ownsRow base 45 4 (.slice va n vc) n (prcells L)) (hn : L.length = n) (hn5 : n ≤ 999) (hok : OkL G L) (hL : PrsOk L) (hb : base ≤ W.heap.size) (hb1 : 1 ≤ base)
    (hX0 : W.heap[X0]? = some (.cells #[.int .u64 ((pid : Nat) : Int)] 29 (0, 0))) (hX1 : W.heap[X1]? = some (.cells #[.int .u64 ((code : Nat) : Int)] 29 (0, 0))) :
    Calls Tryd.prog 37 #[.pointer (some ⟨T, 0, none⟩), .pointer (some ⟨X0, 0, none⟩), .pointer (some ⟨X1, 0, none⟩)] W (DoesOk W base T (Value.slice va n vc).ownBlock none (exitP G L pid code)) := by
  have hl := Leads.of_own1 hown
  have hlen := hl.len
  have HRT := hid (fun hr => running_t T n vc pid va G L W hT hl hn (by omega) hr)
  have HRF := hid (fun hr => running_f T n vc pid va G L W hT hl hn (by omega) hr)
  have hX0T : X0 ≠ T := type_ne hX0 hT (by decide)
  have hX1T : X1 ≠ T := type_ne hX1 hT (by decide)
  have HG0 := hid (own_neP hown hX0 (by decide))
  have HG1 := hid (own_neP hown hX1 (by decide))
  have HGT := hid (own_neP hown hT (by decide))
  have HN := hid hn
  have HOK := hid hok
  have HPL := hid hL
  have KT := hid hT
  have K0 := hid hX0
  have K1 := hid hX1
  have HOW := hid hown
  have HB := hid (Below.refl W.heap.size W)
  have HGL := hid hg
  obtain ⟨RES, hRES⟩ : ∃ r, exitP G L pid code = r := ⟨_, rfl⟩
  rw [hRES]
  have HRES := hid hRES
  have hmf : ∀ (fn : Fn) (first cap : Array Value) (w : World), (Instr.makeFunc fn first cap).run Tryd.prog w = .ok (.func fn first cap) w := fun _ _ _ _ => rfl
  clear hT hX0 hX1 hown hl hn hok hL hRES hg
  have x0 := cell_laid (i := 0) K0.out rfl
  cases hr : runsB L pid with
  | false =>
    have HR := hid hr
    have HRF2 := hid (HRF.out hr)
    clear hr HRF HRT
    refine calls_of_wp_marks Tryd.func37 rfl ?_
    simp only [Tryd.ntmps37, List.size_toArray, List.length_cons, List.length_nil, Nat.reduceAdd, Nat.reduceSub, Array.replicate_succ, Array.replicate_zero, List.push_toArray, List.append_toArray, List.nil_append, List.cons_append]
    go_wp2_with fail
    refine (HRF2.out).mono ?_
    rintro e w1_36 ⟨rfl, hbn⟩
    have KT_1 := hid (keep_laid KT.out hbn)
    have K0_2 := hid (keep_laid K0.out hbn)
    have K1_3 := hid (keep_laid K1.out hbn)
    have HB_4 := hid (HB.out.trans (hbn.mono HB.out.size))
    have HOW_5 := hid (own_grow HOW.out hbn)
    have HGL_6 := hid (HGL.out.grow hbn)
    clear KT K0 K1 HB HOW HGL hbn HRF2 x0
    go_wp2
    refine (show DoesOk W base T _ none RES _ _ from ?_)
    rw [← HRES.out]
    unfold exitP
    rw [if_neg (by rw [HR.out]; decide)]
    exact ⟨TchP.of_below HB_4.out, rfl, fun b hb => by cases hb⟩
  | true =>
    have HR := hid hr
    have HRT2 := hid (HRT.out hr)
    clear hr HRF HRT
    refine calls_of_wp_marks Tryd.func37 rfl ?_
    simp only [Tryd.ntmps37, List.size_toArray, List.length_cons, List.length_nil, Nat.reduceAdd, Nat.reduceSub, Array.replicate_succ, Array.replicate_zero, List.push_toArray, List.append_toArray, List.nil_append, List.cons_append]
    go_wp2_with fail
    refine (HRT2.out).mono ?_
    rintro e w1_58 ⟨hr, hbn⟩
    have KT_1 := hid (keep_laid KT.out hbn)
    have K0_2 := hid (keep_laid K0.out hbn)
    have K1_3 := hid (keep_laid K1.out hbn)
    have HB_4 := hid (HB.out.trans (hbn.mono HB.out.size))
    have HOW_5 := hid (own_grow HOW.out hbn)
    have HGL_6 := hid (HGL.out.grow hbn)
    clear KT K0 K1 HB HOW HGL hbn HRT2 x0
    obtain ⟨k, x, g0, off0, hk, hxp, hxd, -, hva, rfl⟩ := hr
    obtain ⟨y0, y1, y2, y3⟩ := x
    dsimp only at hxp hxd
    subst hxp hxd
    obtain ⟨-, ⟨h, -⟩ | ⟨g, cap', cur, he, hbg, -⟩⟩ := id HOW_5.out
    · rw [hva] at h; cases h
    simp only [Value.slice.injEq, true_and] at he
    obtain ⟨rfl, -⟩ := he
    simp only [Option.some.injEq, Addr.mk.injEq, and_true] at hva
    obtain ⟨rfl, rfl⟩ := hva
    have hkn : k < n := by rw [← HN.out]; exact (List.getElem?_eq_some_iff.1 hk).1
    obtain ⟨A, hA⟩ : ∃ A, 0 + k * 4 = A := ⟨_, rfl⟩
    rw [hA]
    obtain rfl : A = k * 4 := by omega
    clear hA
    have HKX := hid hk
    obtain ⟨A, hA⟩ : ∃ A, k * 4 = A := ⟨_, rfl⟩
    have HA := hid hA
    rw [hA]
    clear hA hk
    have c0 := (HGL_6.out).c0
    have x0 := cell_laid (i := 0) K0_2.out rfl
    by_cases h1 : y0 = 1
    · have t1 : (((y0 : Nat) : Int) != 1) = false := by simp; omega
      have H1 := hid h1
      clear h1
      go_wp2_with fail
      refine (need_f 323 _).mono ?_
      rintro e w2_94 ⟨rfl, hbn⟩
      have KT_7 := hid (keep_laid KT_1.out hbn)
      have K0_8 := hid (keep_laid K0_2.out hbn)
      have K1_9 := hid (keep_laid K1_3.out hbn)
      have HB_10 := hid (HB_4.out.trans (hbn.mono HB_4.out.size))
      have HOW_11 := hid (own_grow HOW_5.out hbn)
      have HGL_12 := hid (HGL_6.out.grow hbn)
      clear KT_1 K0_2 K1_3 HB_4 HOW_5 HGL_6 hbn
      go_wp2
      refine (show DoesOk W base T _ none RES _ _ from ?_)
      rw [← HRES.out]
      unfold exitP
      rw [if_pos HR.out, if_pos H1.out]
      exact ⟨TchP.of_below HB_10.out, rfl, fun b hb => by cases hb⟩
    · have t1 : (((y0 : Nat) : Int) != 1) = true := by simp; omega
      have H1 := hid h1
      clear h1
      go_wp2_with fail
      refine (need_t 323 _).mono ?_
      rintro e w2_113 ⟨rfl, hbn⟩
      have KT_7 := hid (keep_laid KT_1.out hbn)
      have K0_8 := hid (keep_laid K0_2.out hbn)
      have K1_9 := hid (keep_laid K1_3.out hbn)
      have HB_10 := hid (HB_4.out.trans (hbn.mono HB_4.out.size))
      have HOW_11 := hid (own_grow HOW_5.out hbn)
      have HGL_12 := hid (HGL_6.out.grow hbn)
      clear KT_1 K0_2 K1_3 HB_4 HOW_5 HGL_6 hbn c0 x0
      obtain ⟨q0, q1, q2, q3⟩ := prcells_at HKX.out
      dsimp only at q0 q1 q2 q3
      have a0 := (HOW_11.out.cellAt (k * 4) (by omega)).trans q0
      have af0 := HOW_11.out.frozenAt (k * 4)
      have a1 := (HOW_11.out.cellAt (k * 4 + 1) (by omega)).trans q1
      have af1 := HOW_11.out.frozenAt (k * 4 + 1)
      have a2 := (HOW_11.out.cellAt (k * 4 + 2) (by omega)).trans q2
      have af2 := HOW_11.out.frozenAt (k * 4 + 2)
      have a3 := (HOW_11.out.cellAt (k * 4 + 3) (by omega)).trans q3
      have af3 := HOW_11.out.frozenAt (k * 4 + 3)
      rw [HA.out] at a0 a1 a2 a3 af0 af1 af2 af3
      clear q0 q1 q2 q3 a0 af0 a1 af1
      have x1 := cell_laid (i := 0) K1_9.out rfl
      obtain ⟨u3, hu3⟩ : ∃ u, (w2_113.setCell ⟨g, A + 2, none⟩ (.bool true)).setCell ⟨g, A + 3, none⟩ (.int .u64 ((code : Nat) : Int)) = u := ⟨_, rfl⟩
      have E3 := hid hu3
      have s1 := HOW_11.out.stored (A + 2) (.bool true)
      have s2 := s1.1.stored (A + 3) (.int .u64 ((code : Nat) : Int))
      rw [hu3] at s2
      have hpc : ((prcells L).set (A + 2) (.bool true)).set (A + 3) (.int .u64 ((code : Nat) : Int)) = prcells (L.set k (y0, y1, true, code)) := by
        rw [← HA.out, prcells_set2 L k _ true HKX.out, prcells_set3 (L.set k (y0, y1, true, y3)) k (y0, y1, true, y3) code (by rw [List.getElem?_set_self (by rw [HN.out]; exact hkn)]), List.set_set]
      rw [hpc] at s2
      have O3 := hid s2.1
      have hg3 := grownBy_trans s1.2 s2.2
      have HG3 := hid hg3
      have T3 := hid (keep_grown KT_7.out hg3 HGT.out)
      have K03 := hid (keep_grown K0_8.out hg3 HG0.out)
      have K13 := hid (keep_grown K1_9.out hg3 HG1.out)
      have F3 : Hid (TchP (Wr T (Value.slice (some ⟨g, 0, none⟩) n vc).ownBlock none) W u3) := hid ((TchP.of_below HB_10.out).trans (TchP.of_grown hg3 (.inr (.inl rfl))))
      clear s1 s2 hpc hu3 hg3 KT_7 K0_8 K1_9 HOW_11 HB_10 HGL_12
      have hL1 : (L.set k (y0, y1, true, code))[k]? = some (y0, y1, true, code) := by rw [List.getElem?_set_self (by rw [HN.out]; exact hkn)]
      have HL1 := hid hL1
      have hlen1 : (L.set k (y0, y1, true, code)).length = n := by rw [List.length_set, HN.out]
      have HLN := hid hlen1
      obtain ⟨L1, hL1e⟩ : ∃ l, L.set k (y0, y1, true, code) = l := ⟨_, rfl⟩
      rw [hL1e] at O3 HL1 HLN
      have HL1E := hid hL1e
      clear hL1 hlen1 hL1e
      go_upto_region 3 with (fail)
      rw [E3.out]
      clear a2 af2 a3 af3 x1
      obtain ⟨q0, q1, q2, q3⟩ := prcells_at HL1.out
      dsimp only at q0 q1 q2 q3
      have a1 := (O3.out.cellAt (k * 4 + 1) (by omega)).trans q1
      rw [HA.out] at a1
      clear q0 q1 q2 q3
      obtain ⟨w3_168, hw3_168, hbn, hsn, hln⟩ := laid u3 #[.bool false] 4
      obtain ⟨OB, hNMOB⟩ : ∃ X, u3.heap.size = X := ⟨_, rfl⟩
      rw [hNMOB] at hln
      have nTOB : T < OB := by have := lt_laid T3.out; omega
      have nX0OB : X0 < OB := by have := lt_laid K03.out; omega
      have T3_13 := hid (keep_laid T3.out hbn)
      have K03_14 := hid (keep_laid K03.out hbn)
      have O3_15 := hid (own_grow O3.out hbn)
      clear T3 K03 O3 hbn hsn
      have KOB_16 := hid (hln)
      clear hln
      obtain ⟨OR, hOR⟩ : ∃ b, decide (y1 = 0) = b := ⟨_, rfl⟩
      have HOR := hid hOR
      have tor : (((y1 : Nat) : Int) == 0) = OR := by rw [← hOR, Bool.eq_iff_iff]; simp
      clear hOR
      have B4 : Hid (Below u3.heap.size u3 w3_168) := hid (by rw [← hw3_168]; exact (Below.refl _ _).alloc (Nat.le_refl _) _)
      have KOB_16_o := KOB_16.out
      obtain ⟨u4_186, hu4_186, a1, a2, a3, a4⟩ := putN1 KOB_16.out (.bool OR)
      obtain ⟨z0, zf0⟩ := fcl1 (KOB_16.out)
      have E5_186 := hid hu4_186
      have T3_17 := hid (a2 T _ (by omega) T3_13.out)
      have K03_18 := hid (a2 X0 _ (by omega) K03_14.out)
      have O3_19 := hid (own_keep O3_15.out fun k o hk ho => a2 k o (fun e => own_neP O3_15.out KOB_16_o (by decide) (by rw [← e]; exact hk)) ho)
      have KOB_20 := hid (a1)
      have B4_21 := hid (a3 _ _ (by omega) B4.out)
      clear T3_13 K03_14 O3_15 KOB_16 B4 hu4_186 a1 a2 a3 a4
      clear KOB_16_o
      go_upto_region 4 with (fail)
      rw [← E5_186.out]
      clear z0 zf0 hNMOB hw3_168 a1 tor
      have F5 := hid (F3.out.trans (TchP.of_below B4_21.out))
      have t16 := cell_laid (i := 16) T3_17.out rfl
      obtain ⟨ys, hys⟩ : ∃ ys, L1.filter (stayB y0 OR) = ys := ⟨_, rfl⟩
      have HKE := hid (KeptExit L1 (stayB y0 OR) (some ⟨g, 0, none⟩) n vc X0 OB u4_186 (Leads.of_own1 O3_19.out) HLN.out (by omega) (fun t W hW => exit11_any t y0 X0 OB OR W (cell_laid (keep_laid K03_18.out hW) rfl) (lt_laid (keep_laid K03_18.out hW)) (cell_laid (keep_laid KOB_20.out hW) rfl) (lt_laid (keep_laid KOB_20.out hW))))
      rw [hys] at HKE
      have HYS := hid hys
      unfold GivesPr at HKE
      obtain ⟨m, hm⟩ : ∃ m, ys.length = m := ⟨_, rfl⟩
      have hmn : m ≤ 999 := by rw [← hm, ← hys]; exact Nat.le_trans (List.length_filter_le _ _) (by rw [HLN.out]; exact hn5)
      rw [hm] at HKE
      have HM := hid hm
      clear hys hm
      go_wp2_with fail
      refine (HKE.out).mono ?_
      rintro e w6_211 ⟨v, rfl, hrow, hbn⟩
      clear HKE t16
      have F6 := hid (F5.out.trans (TchP.of_below hbn))
      have hwb : W.heap.size ≤ u4_186.heap.size := F5.out.size
      have HNG := hid (fun k e => (hrow.lt k e).1)
      have T3_22 := hid (keep_laid T3_17.out hbn)
      have K03_23 := hid (keep_laid K03_18.out hbn)
      clear T3_17 K03_18 hbn
      have HROW := hid (own_base hrow (Nat.le_trans hb hwb))
      obtain ⟨na, nc, rfl, hlv⟩ := Leads.of_own hrow
      have hvl := hlv.len
      have hmc : m ≤ nc := hlv.1
      clear hrow hlv
      have t16 := cell_laid (i := 16) T3_22.out rfl
      have tf16 := free_laid (i := 16) T3_22.out
      obtain ⟨u9, hu9, a1, a2, a3, a4⟩ := put17_16 T3_22.out (.slice na m nc)
      have E9 := hid hu9
      have T9 := hid a1
      have K09 := hid (a2 X0 _ hX0T K03_23.out)
      have O9 := hid (own_keep HROW.out fun k o hk ho => a2 k o (fun e => own_neP HROW.out T3_22.out (by decide) (by rw [← e]; exact hk)) ho)
      have F9 := hid (F6.out.trans (TchP.of_grown a4 (.inl rfl)))
      clear hu9 a1 a2 a3 a4 HROW F6 T3_22 K03_23
      go_upto_region 5 with (fail)
      rw [← E9.out]
      clear t16 tf16
      have HLV := hid (living_any T u9)
      go_wp2_with fail
      refine (HLV.out).mono ?_
      rintro e w7_240 ⟨Y, rfl, hVY, hY, hbn⟩
      clear HLV
      have F10 := hid (F9.out.trans (TchP.of_below hbn))
      have HY := hid hY
      have hYw : Y < w7_240.heap.size := lt_laid hY
      have hW9 : W.heap.size ≤ u9.heap.size := F9.out.size
      have hW10 : W.heap.size ≤ w7_240.heap.size := F10.out.size
      have HOY : Hid ((Value.slice na m nc).ownBlock ≠ some Y) := hid (fun e => by have := own_lt O9.out Y e; omega)
      have hTY : T < Y := by have := lt_laid T9.out; omega
      have h0Y : X0 < Y := by have := lt_laid K09.out; omega
      have T9_24 := hid (keep_laid T9.out hbn)
      have K09_25 := hid (keep_laid K09.out hbn)
      have O9_26 := hid (own_grow O9.out hbn)
      clear T9 K09 O9 hbn hY
      have HAB : Hid (∃ b off, m = 0 ∨ na = some ⟨b, off, none⟩) := hid (by
        obtain ⟨_, _, ⟨h, _⟩ | ⟨b, off, h, _⟩⟩ := Leads.of_own1 O9_26.out
        · exact ⟨0, 0, .inl h⟩
        · exact ⟨b, off, .inr h⟩)
      obtain ⟨b, off, hab⟩ := HAB.out
      have HAB2 := hid hab
      clear hab HAB
      go_wp2
      refine wp_range (Bs := Y) (gf := 58) (lb := #[.pointer (some ⟨Y, 0, none⟩)]) rfl (enters_of Tryd.func58 (by kernel_rfl) rfl)
        (living_seq Y T Y _ m nc b off na G 65 (fun k => k = Y ∨ k = T) HAB2.out (by omega) hmc hvl.2 (.inl rfl) (.inr rfl)) (fun k hk => by rcases hk with rfl | rfl <;> omega) hYw
        (fun o o' => ?hR) (fun _ => rfl)
        (fun xs W' => W'.heap[T]? = some (.cells #[.int .i64 (G 0), .int .i64 (G 1), .int .i64 (G 2), .int .i64 (G 3), .int .i64 (G 4), .int .i64 (G 5), .int .i64 (G 6), .int .i64 (G 7), .int .i64 (G 8), .int .i64 (G 9), .int .i64 (G 10), .int .i64 (G 11), .int .i64 (G 12), .int .i64 (G 13), .int .i64 (G 14), .int .i64 (G 15), .slice na m nc] 65 (0, 0)) ∧ W'.heap[X0]? = some (.cells #[.int .u64 ((y0 : Nat) : Int)] 29 (0, 0)) ∧ W'.ownsRow base 45 4 (.slice na m nc) m (prcells (orphL y0 (fun i => decide (i ∈ xs.map (·.val))) ys)) ∧ TchP (Wr T (Value.slice (some ⟨g, 0, none⟩) n vc).ownBlock none) W W' ∧ w7_240.heap.size ≤ W'.heap.size)
        (fun _ _ _ => False)
        ?hI ?hIx ?h0 (fun t i => (t.setIfInBounds 41 (.int .i64 ((i.val : Nat) : Int))).setIfInBounds 42 (.pointer (some ⟨b, off + i.val * 4, none⟩)) |>.setIfInBounds 7 (.pointer (some ⟨b, off + i.val * 4, none⟩))) ?assign ?body ?done ?stop
      case hR =>
        have g1 := (Below.refl w7_240.heap.size w7_240).alloc (Nat.le_refl _) o
        have g2 : Below w7_240.heap.size w7_240 ((w7_240.alloc o).alloc o') := g1.alloc (Nat.le_of_lt (by simp)) o'
        exact ⟨keep_laid HY.out (show Below _ _ _ from g2), _, fun _ => trivial, keep_laid T9_24.out g2, rfl⟩
      case hI => exact fun s A B row hs hg hr => ⟨cells_abide hs.1 hg hr (by omega), cells_abide hs.2.1 hg hr (by omega), own_abide2 hs.2.2.1 hg hr HOY.out, hs.2.2.2.1.abide hg hr (by omega) hW10, Nat.le_trans hs.2.2.2.2 hg.size⟩
      case hIx => exact fun c s A B row hs hg hr => hs.elim
      case h0 => exact ⟨T9_24.out, K09_25.out, by rw [orphL_none y0 _ ys (fun i => by simp)]; exact O9_26.out, F10.out, Nat.le_refl _⟩
      case assign =>
        intro l y W K hK
        gi_wp2
        exact hK
      case body =>
        rintro l pre ⟨i, hin⟩ W' ⟨hT', h0', ho', ht', hs'⟩ hlen2
        dsimp only
        obtain rfl : na = some ⟨b, off, none⟩ := by
          rcases HAB2.out with h | h
          · omega
          · exact h
        obtain ⟨y, hy⟩ : ∃ y, ys[i]? = some y := ⟨_, List.getElem?_eq_getElem (by rw [HM.out]; exact hin)⟩
        obtain ⟨P, hP⟩ : ∃ P : Nat → Bool, P = (fun i => decide (i ∈ pre.map (·.val))) := ⟨_, rfl⟩
        rw [← hP] at ho'
        have hat := orphL_at (pid := y0) (p := P) hy
        have hnext : orphL y0 (fun j => decide (j ∈ (pre ++ [(⟨i, hin⟩ : Fin m)]).map (·.val))) ys = (orphL y0 P ys).set i (orphF y0 y) := orphL_step hy (fun j => by rw [hP, Bool.eq_iff_iff]; simp)
        obtain ⟨x, hx⟩ : ∃ x, (if P i = true then orphF y0 y else y) = x := ⟨_, rfl⟩
        have hxo : orphF y0 y = orphF y0 x := by
          rw [← hx]
          split
          · exact (orph_idem _ _).symm
          · rfl
        rw [hx] at hat
        rw [hxo] at hnext
        obtain ⟨z0, z1, z2, z3⟩ := x
        obtain ⟨-, ⟨h, -⟩ | ⟨g', cap', cur, he, -⟩⟩ := id ho'
        · cases h
        simp only [Value.slice.injEq, Option.some.injEq, Addr.mk.injEq, and_true, true_and] at he
        obtain ⟨⟨rfl, hoff⟩, -⟩ := he
        have ho2 := ho'
        rw [hoff] at ho2
        obtain ⟨-, p1, -, -⟩ := prcells_at hat
        dsimp only at p1
        have HOFF := hid hoff
        have HO2 := hid ho2
        have HO' := hid ho'
        have HT' := hid hT'
        have H0' := hid h0'
        have HF' := hid ht'
        have HS' := hid hs'
        have HNX := hid hnext
        have HAT := hid hat
        have hbY : b ≠ Y := fun e => HOY.out (by rw [← e]; rfl)
        have hbT : b ≠ T := fun e => own_neP ho' hT' (by decide) (by rw [← e]; rfl)
        have hb0 : b ≠ X0 := fun e => own_neP ho' h0' (by decide) (by rw [← e]; rfl)
        have hbW : W.heap.size ≤ b := Nat.le_trans hwb (HNG.out b rfl)
        have hYs : Y < W'.heap.size := by omega
        have f1 : ∀ z : Ext W', z.v.cell? ⟨b, off + i * 4 + 1, none⟩ = some (.int .u64 ((z1 : Nat) : Int)) := fun z => by
          rw [HOFF.out, Nat.zero_add]
          exact ((own_grow HO2.out z.b).cellAt (i * 4 + 1) (by omega)).trans p1
        have f0 : ∀ z : Ext W', z.v.cell? ⟨X0, 0, none⟩ = some (.int .u64 ((y0 : Nat) : Int)) := fun z => cell_laid (keep_laid H0'.out z.b) rfl
        clear hy hP hat hnext hx hxo hoff ho2 ho' hT' h0' ht' hs' p1
        gi_wp2
        refine wpIn_region_mix2 (fun w' => ∃ z : Ext W', w' = z.v) 6 (.q 0 (.q 1 (.q 2 (.q 3 (.q 4 (.q 5 .done)))))) (by rintro ⟨a, w, h⟩; exact h) (by kernel_rfl) (by kernel_rfl) (by kernel_rfl) ⟨⟨W'.drew, (Below.refl _ _).drew⟩, rfl⟩ ?_
        repeat (refine wpMix2_q rfl rfl ?_; go_big_quiet_step (fail); refine wpQuiet_nil ?_)
        refine wpMix2_done ?_
        simp only [List.drop_succ_cons, List.drop_nil]
        rename_i K hK
        refine hK _ _ ?_
        clear hK K f1 f0
        by_cases hz : z1 = y0
        · have tz : (((z1 : Nat) : Int) == ((y0 : Nat) : Int)) = true := by simp; omega
          have HZ := hid hz
          have HOD := hid (own_grow HO2.out (Below.refl W'.heap.size W').drew)
          have zf : W'.drew.frozen? ⟨b, off + i * 4 + 1, none⟩ = false := by rw [HOFF.out, Nat.zero_add]; exact HOD.out.frozenAt _
          have zc : W'.drew.cell? ⟨b, off + i * 4 + 1, none⟩ = some (.int .u64 ((z1 : Nat) : Int)) := by
            rw [HOFF.out, Nat.zero_add]
            exact (HOD.out.cellAt (i * 4 + 1) (by omega)).trans (prcells_at HAT.out).2.1
          clear hz
          gi_wp2
          refine ⟨(keepsOthers_of_below (Below.refl _ _).drew).trans (KeepsOthers.setCell _ _ _), fun k hk => ?_, other_laid HT'.out (Ne.symm hbT) _, other_laid H0'.out (Ne.symm hb0) _, ?_, ?_, ?_⟩
          · exact (grownBy_setCell W'.drew b _ _).block k (by rcases hk with rfl | rfl; exact hYs; exact lt_laid HT'.out) (fun e => by rcases hk with rfl | rfl; exact hbY (Option.some.inj e).symm; exact hbT (Option.some.inj e).symm)
          · rw [HNX.out]
            have hst := (HOD.out.stored (i * 4 + 1) (.int .u64 0)).1
            have e1 : orphF y0 (z0, z1, z2, z3) = (z0, 0, z2, z3) := by unfold orphF; rw [if_pos HZ.out]
            have e2 := prcells_set1 (orphL y0 P ys) i (z0, z1, z2, z3) 0 HAT.out
            rw [e1, ← e2]
            have := HOFF.out
            subst this
            rw [Nat.zero_add]
            exact hst
          · exact TchP.far (HF'.out.trans (TchP.of_below (Below.refl _ _).drew)) (grownBy_setCell W'.drew b _ _) hbW
          · simpa [World.setCell] using HS'.out
        · have tz : (((z1 : Nat) : Int) == ((y0 : Nat) : Int)) = false := by simp; omega
          have HZ := hid hz
          clear hz
          gi_wp2
          refine ⟨keepsOthers_of_below (Below.refl _ _).drew, fun k hk => rfl, HT'.out, H0'.out, ?_, HF'.out.trans (TchP.of_below (Below.refl _ _).drew), HS'.out⟩
          rw [HNX.out]
          have e1 : orphF y0 (z0, z1, z2, z3) = (z0, z1, z2, z3) := by unfold orphF; rw [if_neg HZ.out]
          rw [e1, list_set_same HAT.out]
          exact own_grow HO'.out (Below.refl W'.heap.size W').drew
      case done =>
        rintro D xs W' hD hxs ⟨hT', h0', ho', ht', hs'⟩ hK
        have hrow : orphL y0 (fun i => decide (i ∈ xs.map (·.val))) ys = L.filterMap (exitF y0 code) := by
          have := exit_row HOK.out HKX.out rfl rfl (pid_pos HOK.out HR.out) (code := code)
          dsimp only at this
          rw [orphL_all y0 _ ys (fun i hi => by rw [hxs, decide_eq_true_eq]; exact List.mem_range.2 (by rw [← HM.out]; exact hi)), ← this, HL1E.out, HOR.out, HYS.out]
        rw [hrow] at ho'
        have hfl : (L.filterMap (exitF y0 code)).length = m := by rw [← hrow, orphL_len, HM.out]
        have KK := hid hK
        have HT' := hid hT'
        have HO' := hid ho'
        have HF' := hid ht'
        have HFL := hid hfl
        clear hrow hT' h0' ho' ht' hs' hK hfl
        go_wp2
        refine leaves_mark KK.out (results_none rfl _ _ _) ?_
        refine (show DoesOk W base T _ none RES _ _ from ?_)
        rw [← HRES.out]
        unfold exitP
        rw [if_pos HR.out, if_neg H1.out]
        refine ⟨TchP.mark HF'.out (by omega) KK.out, rfl, (fun b hb => by cases hb), na, nc, ?_, ?_⟩
        · rw [HFL.out]; exact mark_other HT'.out KK.out _
        · rw [HFL.out]
          exact own_keep HO'.out fun k o hk ho => by
            obtain ⟨cur, hc⟩ := own_type HO'.out k hk
            rw [ho] at hc
            cases hc
            exact mark_other ho KK.out _
      case stop => exact fun D cc pre W hD hp h => h.elim
end Go.Proofs.YtmnbkhmphhgdiaaDoor
