/- Scripts: the reader's call. -/
import Derived.Test.YtpehnahmdfoobaaDoorScript6
namespace Go.Proofs.YtpehnahmdfoobaaDoor
open Go.RowKit
open Go.Proofs
set_option linter.unusedVariables false

theorem Leads.vdrop {w : World} {b off n cap k : Nat} {l : List Value} (h : Leads w (some ⟨b, off, none⟩) n cap l) (hl : l.length = n) (hk : k ≤ n) : Leads w (some ⟨b, off + k, none⟩) (n - k) (cap - k) (l.drop k) := by
  obtain ⟨h1, h2, ⟨h, h'⟩ | ⟨b', off', e, h3, h4⟩⟩ := h
  · refine ⟨by omega, by omega, .inl ⟨by omega, ?_⟩⟩
    rw [show l = [] from List.eq_nil_of_length_eq_zero (by omega)]; simp
  · cases e
    refine ⟨by omega, by omega, .inr ⟨b, off + k, rfl, h3, fun i v hv => ?_⟩⟩
    have := h4 (k + i) v (by rw [← hv, List.getElem?_drop])
    rw [Nat.add_assoc]; exact this
theorem ReadJ.app_tab {R base C P : Nat} {ls : List (List (List Nat))} {ps : List Int} {a : Option Addr} {r c calls g A : Nat} {vs : List Value} {pv vA : Value} {w W W' : World} {cs : List (List Nat)} (h : ReadJ R base C P ls ps a r c calls g vs pv w W)
    (hA : vs[A]? = some vA) (hcs : ls[A]? = some cs) (hg : W.grownBy W' vA.ownBlock) : W'.heap[g]? = some (.cells vs.toArray 46 (0, 0)) :=
  keep_grown h.tab hg fun e => by
    obtain ⟨cur, hc⟩ := own_type (h.row A vA cs hA hcs) g e
    exact type_ne hc h.tab (by decide) rfl
theorem wp_region_from {P : Program} {id : Nat} {Q : Exit → Act → World → Prop} {a : Act} {w w0 : World} {l : List Oper} (hw : Below w0.heap.size w0 w) (hm : P.follows .mixedOrders = true) (hB : Region.lexB .any l.toArray = true)
    (h : wpQuiet P l.toArray (fun w' => ∃ x : Ext w0, w' = x.v) (fun a' => ∀ w', (∃ x : Ext w0, w' = x.v) → Q .normal a' w') l a) : (Code.region id l.toArray true).wp P Q a w :=
  wp_region_quiet (C := fun w' => ∃ x : Ext w0, w' = x.v) hm hB ⟨⟨_, hw.drew⟩, rfl⟩ (by simpa using h)
/-- What region 6 of the reader's call must not change. -/
structure R6 (R g C N k0 k1 k2 k3 k4 : Nat) where
  v : World
  r2 : v.cell? ⟨R, 2, none⟩ = some (.slice (some ⟨g, 0, none⟩) C C)
  n0 : v.cell? ⟨N, 0, none⟩ = some (.int .u64 ((k0 : Nat) : Int))
  n1 : v.cell? ⟨N, 1, none⟩ = some (.int .u64 ((k1 : Nat) : Int))
  n2 : v.cell? ⟨N, 2, none⟩ = some (.int .u64 ((k2 : Nat) : Int))
  n3 : v.cell? ⟨N, 3, none⟩ = some (.int .u64 ((k3 : Nat) : Int))
  n4 : v.cell? ⟨N, 4, none⟩ = some (.int .u64 ((k4 : Nat) : Int))

set_option maxRecDepth 100000 in
set_option maxHeartbeats 4000000 in
theorem call_any (R base C P : Nat) (ls : List (List (List Nat))) (ps : List Int) (a : Option Addr) (r c calls g : Nat) (vs : List Value) (pv : Value) (w W : World) (rest : List Nat) (x : Nat) (hJ : ReadJ R base C P ls ps a r c calls g vs pv w W) (hG : Glob w) (hrl : rest.length = r) (hrest : Leads w a r c (wcells rest)) (hr1 : r ≤ 10000) (hC1 : 1 ≤ C) (hC8 : C ≤ 8) (hx : x < 18446744073709551616) (hcl : calls ≤ 64) (h5 : 5 ≤ r) :
    Calls Tryd.prog 28 #[.pointer (some ⟨R, 0, none⟩), .int .u64 (x : Nat)] W (fun e W' => (∃ v, e = .returned v) ∧ ∃ a' c' vs', Leads w a' (r - 5) c' (wcells (rest.drop 5)) ∧ ReadJ R base C P (if calls < 64 then ls.modify (Pl.get x 8 3 % C) (· ++ [rest.take 5]) else ls) ps a' (r - 5) c' (if calls < 64 then calls + 1 else calls) g vs' pv w W') := by
  have HJ := hid hJ
  have hRW := lt_laid hJ.blk
  obtain ⟨k0, k1, k2, k3, k4, more, rfl⟩ : ∃ k0 k1 k2 k3 k4 more, rest = k0 :: k1 :: k2 :: k3 :: k4 :: more := by
    match rest, hrl with
    | [], h | [_], h | [_, _], h | [_, _, _], h | [_, _, _, _], h => simp at h; omega
    | k0 :: k1 :: k2 :: k3 :: k4 :: more, _ => exact ⟨k0, k1, k2, k3, k4, more, rfl⟩
  obtain ⟨b, off, ea, hblt, hcc⟩ := hrest.at (k := 0) (by omega) (wcell_at (l := k0 :: k1 :: k2 :: k3 :: k4 :: more) (k := 0) (x := k0) rfl)
  subst ea
  have hw : ∀ (i v : Nat) (V : World), (k0 :: k1 :: k2 :: k3 :: k4 :: more)[i]? = some v → Below w.heap.size w V → V.cell? ⟨b, off + i, none⟩ = some (.int .u64 ((v : Nat) : Int)) := by
    intro i v V hi hV
    obtain ⟨hlt, _⟩ := List.getElem?_eq_some_iff.1 hi
    obtain ⟨b', off', e, _, h⟩ := hrest.at (k := i) (by omega) (wcell_at hi)
    cases e
    exact h V hV
  have HW := hid hw
  have HRL := hid hrl
  have HRS := hid hrest
  have hrc := hrest.1
  have hcm := hrest.len.2
  have d4 := cell_laid (i := 4) hJ.blk rfl
  have f4 : ∀ z : Ext W, z.v.cell? ⟨R, 4, none⟩ = some (.slice (some ⟨b, off, none⟩) r c) := fun z => cell_laid (keep_laid HJ.out.blk z.b) rfl
  have w0 : ∀ z : Ext W, z.v.cell? ⟨b, off, none⟩ = some (.int .u64 ((k0 : Nat) : Int)) := fun z => HW.out 0 k0 z.v rfl (step HJ.out.below z.b)
  have w1 : ∀ z : Ext W, z.v.cell? ⟨b, off + 1, none⟩ = some (.int .u64 ((k1 : Nat) : Int)) := fun z => HW.out 1 k1 z.v rfl (step HJ.out.below z.b)
  have w2 : ∀ z : Ext W, z.v.cell? ⟨b, off + 2, none⟩ = some (.int .u64 ((k2 : Nat) : Int)) := fun z => HW.out 2 k2 z.v rfl (step HJ.out.below z.b)
  have w3 : ∀ z : Ext W, z.v.cell? ⟨b, off + 3, none⟩ = some (.int .u64 ((k3 : Nat) : Int)) := fun z => HW.out 3 k3 z.v rfl (step HJ.out.below z.b)
  have w4 : ∀ z : Ext W, z.v.cell? ⟨b, off + 4, none⟩ = some (.int .u64 ((k4 : Nat) : Int)) := fun z => HW.out 4 k4 z.v rfl (step HJ.out.below z.b)
  have i5 : (5 : Int) ≤ (r : Int) := by omega
  have i5c : (5 : Int) ≤ (c : Int) := by omega
  clear hcc hw hJ hrl hrest
  go_enter Tryd.func28, Tryd.ntmps28
  go_upto_region 1 with (fail)
  go_cut [4] (fun t4 ws => ∃ N, t4 = .pointer (some ⟨N, 0, none⟩) ∧ ws.heap[N]? = some (.cells #[.int .u64 ((k0 : Nat) : Int), .int .u64 ((k1 : Nat) : Int), .int .u64 ((k2 : Nat) : Int), .int .u64 ((k3 : Nat) : Int), .int .u64 ((k4 : Nat) : Int)] 53 (0, 0)) ∧ W.heap.size ≤ N ∧ Below W.heap.size W ws)
  case first =>
    refine wp_region_mix2 (fun w' => ∃ z : Ext W, w' = z.v) 16 (.q 0 (.q 1 (.q 2 (.q 3 (.q 4 (.q 5 (.q 6 (.q 7 (.q 8 (.q 9 (.q 10 (.q 11 (.q 12 (.q 13 (.h 14 (.h 15 (.done))))))))))))))))) (by kernel_rfl) (by kernel_rfl) ⟨⟨_, (Below.refl _ _).drew⟩, rfl⟩ ?_
    have aa : ∀ (V : World) (p : Option Addr), (Instr.arrayAt 51 (.slice p 4 4)).run Tryd.prog V = .ok (.pointer p) V := fun V p => run_arrayAt V 51 32 4 p 4 4 (by kernel_rfl) (by decide)
    repeat (refine wpMix2_q rfl rfl ?_; go_big_quiet_step (fail); refine wpQuiet_nil ?_)
    refine wpMix2_h rfl fun R' hR' hO => ?_
    obtain ⟨wa, hwa, hba, hsa, hla⟩ := laid W.drew #[.int .u64 0, .int .u64 0, .int .u64 0, .int .u64 0, .int .u64 0] 53
    obtain ⟨N, hN⟩ : ∃ N, W.heap.size = N := ⟨_, rfl⟩
    have hN' : W.drew.heap.size = N := hN
    rw [hN'] at hla hsa
    have hra : Below W.heap.size W wa := (Below.refl _ _).drew.trans hba
    have g0 := free_laid (i := 0) hla
    have g1 := free_laid (i := 1) hla
    have g2 := free_laid (i := 2) hla
    have g3 := free_laid (i := 3) hla
    have g4 := free_laid (i := 4) hla
    have m0 := cell_laid (i := 0) hla rfl
    have m1 := cell_laid (i := 1) hla rfl
    have m2 := cell_laid (i := 2) hla rfl
    have m3 := cell_laid (i := 3) hla rfl
    have m4 := cell_laid (i := 4) hla rfl
    have HBLK := hid (set_laid (i := 4) (set_laid (i := 3) (set_laid (i := 2) (set_laid (i := 1) (set_laid (i := 0) hla (.int .u64 ((k0 : Nat) : Int))) (.int .u64 ((k1 : Nat) : Int))) (.int .u64 ((k2 : Nat) : Int))) (.int .u64 ((k3 : Nat) : Int))) (.int .u64 ((k4 : Nat) : Int)))
    have hNW : ∀ i, W.heap.size ≤ (⟨N, i, none⟩ : Addr).block := fun i => by show W.heap.size ≤ N; omega
    have HBW := hid (((((hra.setCell (hNW 0) (.int .u64 ((k0 : Nat) : Int))).setCell (hNW 1) (.int .u64 ((k1 : Nat) : Int))).setCell (hNW 2) (.int .u64 ((k2 : Nat) : Int))).setCell (hNW 3) (.int .u64 ((k3 : Nat) : Int))).setCell (hNW 4) (.int .u64 ((k4 : Nat) : Int)))
    clear hla hNW
    go_wp2
    refine hR' _ _ ⟨⟨_, hra⟩, rfl⟩ ?_
    refine wpMix2_h rfl fun R' hR' hO => ?_
    go_wp2
    refine hR' _ _ ⟨⟨_, HBW.out⟩, rfl⟩ ?_
    refine wpMix2_done ?_
    simp only [List.drop_succ_cons, List.drop_nil]
    go_wp2
    go_meet
    exact ⟨N, rfl, HBLK.out, by omega, HBW.out⟩
  case rest =>
    obtain ⟨N, rfl, hNB, hNge, hB2⟩ := hcut
    have HJ2 := hid (HJ.out.grow hB2)
    have HNB := hid hNB
    have HB2 := hid hB2
    have d4' := cell_laid (i := 4) HJ2.out.blk rfl
    have h4 := free_laid (i := 4) HJ2.out.blk
    have hNlt := lt_laid hNB
    clear hNB hB2 w0 w1 w2 w3 w4 f4 d4
    have d5' := cell_laid (i := 5) HJ2.out.blk rfl
    go_upto_region 3 with (fail)
    go_cut [38] (fun t38 ws => t38 = .bool (decide ((calls : Int) < 64)) ∧ ∃ a' c', Leads w a' (r - 5) c' (wcells more) ∧ ReadJ R base C P ls ps a' (r - 5) c' calls g vs pv w ws ∧ ws.heap[N]? = some (.cells #[.int .u64 ((k0 : Nat) : Int), .int .u64 ((k1 : Nat) : Int), .int .u64 ((k2 : Nat) : Int), .int .u64 ((k3 : Nat) : Int), .int .u64 ((k4 : Nat) : Int)] 53 (0, 0)) ∧ Below w.heap.size w ws)
    case first =>
      have HNR : Hid (N ≠ R) := hid (by rintro rfl; have h1 := HNB.out; rw [HJ2.out.blk] at h1; cases h1)
      rcases Nat.lt_or_ge 5 c with hc5 | hc5
      · have h5c : ¬ c = 5 := by omega
        have HL2 : Hid (Leads w (some ⟨b, off + 5, none⟩) (r - 5) (c - 5) (wcells more)) := hid (by have := HRS.out.vdrop (k := 5) (by simpa [wcells] using HRL.out) h5; simpa [wcells] using this)
        have HJ3 := hid (HJ2.out.put4 (a' := some ⟨b, off + 5, none⟩) (r' := r - 5) (c' := c - 5))
        have HN3 := hid (other_laid HNB.out HNR.out (i := 4) (.slice (some ⟨b, off + 5, none⟩) (r - 5) (c - 5)))
        go_wp2
        go_meet
        exact ⟨rfl, _, _, HL2.out, HJ3.out, HN3.out, HJ3.out.below⟩
      · have h5c : c = 5 := by omega
        have h5r : r = 5 := by omega
        subst h5c
        subst h5r
        have HL2 : Hid (Leads w (some ⟨b, off, none⟩) 0 0 (wcells more)) := hid ⟨by omega, by decide, .inl ⟨rfl, by have := HRL.out; rw [show more = [] from List.eq_nil_of_length_eq_zero (by simpa using this)]; rfl⟩⟩
        have HJ3 := hid (HJ2.out.put4 (a' := some ⟨b, off, none⟩) (r' := 0) (c' := 0))
        have HN3 := hid (other_laid HNB.out HNR.out (i := 4) (.slice (some ⟨b, off, none⟩) 0 0))
        go_wp2
        go_meet
        exact ⟨rfl, _, _, HL2.out, HJ3.out, HN3.out, HJ3.out.below⟩
    case rest =>
      obtain ⟨rfl, a', c', hL3, hJ3, hN3, hb3⟩ := hcut
      have HL3 := hid hL3
      have HJ3 := hid hJ3
      have HN3 := hid hN3
      have e5 := cell_laid (i := 5) hJ3.blk rfl
      have g5 := free_laid (i := 5) hJ3.blk
      clear hL3 hJ3 hN3 d4' d5' h4
      rcases Nat.lt_or_ge calls 64 with hc64 | hc64
      · have hdc : decide ((calls : Int) < 64) = true := decide_eq_true (by omega)
        obtain ⟨K1, hK1⟩ : ∃ K1, calls + 1 = K1 := ⟨_, rfl⟩
        have hK1i : (calls : Int) + 1 = (K1 : Int) := by omega
        have HJ4 := hid (HJ3.out.put5 (calls' := K1) (by omega))
        have HNR : Hid (N ≠ R) := hid (by rintro rfl; have h1 := HN3.out; rw [HJ3.out.blk] at h1; cases h1)
        have HN4 := hid (other_laid HN3.out HNR.out (i := 5) (.int .i64 ((K1 : Nat) : Int)))
        have HG4 := hid (hG.grow HJ4.out.below)
        obtain ⟨GV, hGV⟩ : ∃ GV, Pl.get x 8 3 = GV := ⟨_, rfl⟩
        obtain ⟨A, hA⟩ : ∃ A, GV % C = A := ⟨_, rfl⟩
        have hAC : A < C := by rw [← hA]; exact Nat.mod_lt _ (by omega)
        have hAC' : ((A : Nat) : Int) < ((C : Nat) : Int) := by omega
        have hAI : Int.tmod ((GV : Nat) : Int) ((C : Nat) : Int) = ((A : Nat) : Int) := by rw [← hA]; exact (Int.ofNat_tmod _ _).symm
        have hC0 : ¬ ((C : Nat) : Int) = 0 := by omega
        have HPA : Hid (∀ V : World, Calls Tryd.prog 27 #[.int .u64 (x : Nat), .agg #[.int .i64 8, .int .i64 3]] V (Ret (.int .i64 ((GV : Nat) : Int)) V)) := hid (fun V => by rw [← hGV]; exact part_any x 8 3 V hx (by decide) (by decide) (by decide))
        have HGV := hid hGV
        have HAA := hid hA
        have HC64 := hid hc64
        have HK1 := hid hK1
        clear hGV hA hK1 hc64
        go_upto_region 5 with (fail)
        obtain ⟨wZ, hwZ⟩ : ∃ wZ, wZ = wc.setCell ⟨R, 5, none⟩ (.int .i64 ((K1 : Nat) : Int)) := ⟨_, rfl⟩
        rw [← hwZ] at HJ4 HN4 HG4 ⊢
        have p2 : ∀ z : Ext wZ, z.v.cell? ⟨1, 2, none⟩ = some (.int .i64 8) := fun z => (HG4.out.grow z.b).p2
        have p3 : ∀ z : Ext wZ, z.v.cell? ⟨1, 3, none⟩ = some (.int .i64 3) := fun z => (HG4.out.grow z.b).p3
        have r0 : ∀ z : Ext wZ, z.v.cell? ⟨R, 0, none⟩ = some (.int .i64 ((C : Nat) : Int)) := fun z => cell_laid (keep_laid HJ4.out.blk z.b) rfl
        clear hwZ e5 g5
        refine wp_region_from (Below.refl _ _) (by kernel_rfl) (by kernel_rfl) ?_
        repeat (go_big_quiet_step ((go_at_call 27; exact ext_of (HPA.out _))))
        refine wpQuiet_nil ?_
        rintro w5 ⟨⟨_, hb5⟩, rfl⟩
        have HJ5 := hid (HJ4.out.grow hb5)
        have HN5 := hid (keep_laid HN4.out hb5)
        obtain ⟨vA, hvA⟩ : ∃ vA, vs[A]? = some vA := ⟨_, List.getElem?_eq_getElem (by rw [HJ5.out.vlen]; exact hAC)⟩
        obtain ⟨cs, hcs⟩ : ∃ cs, ls[A]? = some cs := ⟨_, List.getElem?_eq_getElem (by rw [HJ5.out.llen]; exact hAC)⟩
        have HVA := hid hvA
        have HCS := hid hcs
        have hcl5 : cs.length ≤ calls := HJ3.out.few cs (List.mem_of_getElem? hcs)
        have HRA := hid (HJ5.out.row A vA cs hvA hcs)
        obtain ⟨aA, cA, rfl, -⟩ := Leads.of_own HRA.out
        clear hvA hcs p2 p3 r0
        have q2 : ∀ z : R6 R g C N k0 k1 k2 k3 k4, z.v.cell? ⟨R, 2, none⟩ = some (.slice (some ⟨g, 0, none⟩) C C) := fun z => z.r2
        have n0 : ∀ z : R6 R g C N k0 k1 k2 k3 k4, z.v.cell? ⟨N, 0, none⟩ = some (.int .u64 ((k0 : Nat) : Int)) := fun z => z.n0
        have n1 : ∀ z : R6 R g C N k0 k1 k2 k3 k4, z.v.cell? ⟨N, 1, none⟩ = some (.int .u64 ((k1 : Nat) : Int)) := fun z => z.n1
        have n2 : ∀ z : R6 R g C N k0 k1 k2 k3 k4, z.v.cell? ⟨N, 2, none⟩ = some (.int .u64 ((k2 : Nat) : Int)) := fun z => z.n2
        have n3 : ∀ z : R6 R g C N k0 k1 k2 k3 k4, z.v.cell? ⟨N, 3, none⟩ = some (.int .u64 ((k3 : Nat) : Int)) := fun z => z.n3
        have n4 : ∀ z : R6 R g C N k0 k1 k2 k3 k4, z.v.cell? ⟨N, 4, none⟩ = some (.int .u64 ((k4 : Nat) : Int)) := fun z => z.n4
        have hC8' : C ≤ 9223372036854775807 := by omega
        have h6 : ∀ V : World, V.heap[R]? = w5.heap[R]? → V.heap[N]? = w5.heap[N]? → ∃ z : R6 R g C N k0 k1 k2 k3 k4, V = z.v := fun V e1 e2 => by
          have b1 := e1.trans HJ5.out.blk
          have b2 := e2.trans HN5.out
          exact ⟨⟨V, cell_laid b1 rfl, cell_laid b2 rfl, cell_laid b2 rfl, cell_laid b2 rfl, cell_laid b2 rfl, cell_laid b2 rfl⟩, rfl⟩
        have H6 := hid h6
        have hdr := h6 w5.drew rfl rfl
        haveI : Nonempty (R6 R g C N k0 k1 k2 k3 k4) := hdr.elim fun z _ => ⟨z⟩
        clear h6
        go_upto_region 6 with (fail)
        refine wp_region_mix2 (fun w' => ∃ z : R6 R g C N k0 k1 k2 k3 k4, w' = z.v) 19 (.q 0 (.q 1 (.q 2 (.q 3 (.q 4 (.q 5 (.q 6 (.q 7 (.q 8 (.q 9 (.q 10 (.q 11 (.q 12 (.q 14 (.h2 13 (.h 15 (.h 16 (.q 17 (.h 18 .done)))) 15 (.h 13 (.h 16 (.q 17 (.h 18 .done))))))))))))))))))) (by kernel_rfl) (by kernel_rfl) hdr ?_
        repeat (refine wpMix2_q rfl rfl ?_; go_big_quiet_step (fail); refine wpQuiet_nil ?_)
        refine wpMix2_h2 ?_ ?_
        · refine wpMix2_h rfl fun R' hR' hO => ?_
          have c13 : (w5.drew).cell? ⟨g, A, none⟩ = some (.slice aA cs.length cA) := cell_laid HJ5.out.tab (by simpa using HVA.out)
          go_wp2
          refine hR' _ _ hdr ?_
          refine wpMix2_h rfl fun R' hR' hO => ?_
          obtain ⟨wb, hwb, hbb, hsb, hlb⟩ := laid w5.drew #[.int .u64 ((k0 : Nat) : Int), .int .u64 ((k1 : Nat) : Int), .int .u64 ((k2 : Nat) : Int), .int .u64 ((k3 : Nat) : Int), .int .u64 ((k4 : Nat) : Int)] 53
          have hb5b : Below w5.heap.size w5 wb := (Below.refl _ _).drew.trans hbb
          have hwC := H6.out wb (hb5b.block R (lt_laid HJ5.out.blk)) (hb5b.block N (lt_laid HN5.out))
          obtain ⟨M, hM⟩ : ∃ M, w5.heap.size = M := ⟨_, rfl⟩
          have hM' : w5.drew.heap.size = M := hM
          rw [hM'] at hlb hsb
          have HLB := hid hlb
          have HJb := hid (HJ5.out.grow hb5b)
          have HRb := hid (own_grow HRA.out hb5b)
          clear hlb hsb
          go_wp2
          refine hR' _ _ hwC ?_
          refine wpMix2_h rfl fun R' hR' hO => ?_
          refine wp_appendM elemCalls rfl (.tmp 69) (.tmp 71) rfl base (.slice aA cs.length cA) cs.length (wcells cs.flatten) rfl HRb.out ⟨M, 0, none⟩ 1 1 [.int .u64 ((k0 : Nat) : Int), .int .u64 ((k1 : Nat) : Int), .int .u64 ((k2 : Nat) : Int), .int .u64 ((k3 : Nat) : Int), .int .u64 ((k4 : Nat) : Int)] rfl rfl ?_ ?_ ?_ ?_ ?_
          · intro j u hj
            have e : (⟨M, 0, none⟩ : Addr).add j = ⟨M, j, none⟩ := by unfold Addr.add; simp; intro h; exact h.symm
            rw [e]
            exact cell_laid (i := j) (v := u) HLB.out (by simpa using hj)
          · intro u hu
            simp only [List.mem_cons, List.not_mem_nil, or_false] at hu
            rcases hu with rfl | rfl | rfl | rfl | rfl <;> rfl
          · omega
          · have := lt_laid HJb.out.tab; have := HJb.out.lo; omega
          intro v' W' ho' hg' hm'
          have hRV : W'.heap[R]? = w5.heap[R]? := (keep_grown HJb.out.blk hg' (fun e => by have := (HRb.out.lt R e).1; have := HJb.out.lo; omega)).trans HJ5.out.blk.symm
          have HNbR : Hid (W'.heap[N]? = w5.heap[N]?) := hid ((keep_grown (hb5b.block N (lt_laid HN5.out) |>.trans HN5.out) hg' (fun e => by have := own_lt (HJ.out.row A _ cs HVA.out HCS.out) N e; omega)).trans HN5.out.symm)
          have HF := hid (HJb.out.app (calls' := 0) (q := [k0, k1, k2, k3, k4]) HVA.out HCS.out rfl (by have := HK1.out; omega) ho' hg' hm')
          obtain ⟨a9, c9, rfl, -⟩ := Leads.of_own ho'
          have HWC' := hid (H6.out W' hRV HNbR.out)
          have HRV := hid hRV
          have HFB : Hid (∀ u, (W'.setCell ⟨g, A, none⟩ u).heap[R]? = W'.heap[R]?) := hid (fun u => Below.heap_setCell _ _ _ _ (by have := HJb.out.lo; show R ≠ g; omega))
          have HFN : Hid (∀ u, (W'.setCell ⟨g, A, none⟩ u).heap[N]? = W'.heap[N]?) := hid (fun u => Below.heap_setCell _ _ _ _ (by show N ≠ g; have := lt_laid HJ.out.tab; omega))
          have htb := HJb.out.app_tab HVA.out HCS.out hg'
          have t9 : W'.frozen? ⟨g, A, none⟩ = false := free_laid htb
          have t8 : W'.cell? ⟨g, A, none⟩ = some (.slice aA cs.length cA) := cell_laid htb (by simpa using HVA.out)
          clear ho' hg' hm' hRV htb
          go_wp2
          refine hR' _ _ HWC'.out ?_
          repeat (refine wpMix2_q rfl rfl ?_; go_big_quiet_step (fail); refine wpQuiet_nil ?_)
          refine wpMix2_h rfl fun R' hR' hO => ?_
          go_wp2
          refine hR' _ _ (H6.out _ (HFB.out _ |>.trans HRV.out) (HFN.out _ |>.trans HNbR.out)) ?_
          refine wpMix2_done ?_
          simp only [List.drop_succ_cons, List.drop_nil]
          go_wp2
          refine bodyPost_end (results_none rfl _ _ _) rfl ?_
          refine ⟨⟨_, rfl⟩, a', c', HL3.out, vs.set A (.slice a9 (cs.length + 1) c9), ?_⟩
          have := HF.out
          rw [HGV.out, HAA.out, HK1.out]
          simpa [HC64.out] using this
        · refine wpMix2_h rfl fun R' hR' hO => ?_
          obtain ⟨wb, hwb, hbb, hsb, hlb⟩ := laid w5.drew #[.int .u64 ((k0 : Nat) : Int), .int .u64 ((k1 : Nat) : Int), .int .u64 ((k2 : Nat) : Int), .int .u64 ((k3 : Nat) : Int), .int .u64 ((k4 : Nat) : Int)] 53
          have hb5b : Below w5.heap.size w5 wb := (Below.refl _ _).drew.trans hbb
          have hwC := H6.out wb (hb5b.block R (lt_laid HJ5.out.blk)) (hb5b.block N (lt_laid HN5.out))
          obtain ⟨M, hM⟩ : ∃ M, w5.heap.size = M := ⟨_, rfl⟩
          have hM' : w5.drew.heap.size = M := hM
          rw [hM'] at hlb hsb
          have HLB := hid hlb
          have HJb := hid (HJ5.out.grow hb5b)
          have HRb := hid (own_grow HRA.out hb5b)
          clear hlb hsb
          go_wp2
          refine hR' _ _ hwC ?_
          refine wpMix2_h rfl fun R' hR' hO => ?_
          have c13 : (wb).cell? ⟨g, A, none⟩ = some (.slice aA cs.length cA) := cell_laid HJb.out.tab (by simpa using HVA.out)
          go_wp2
          refine hR' _ _ hwC ?_
          refine wpMix2_h rfl fun R' hR' hO => ?_
          refine wp_appendM elemCalls rfl (.tmp 69) (.tmp 71) rfl base (.slice aA cs.length cA) cs.length (wcells cs.flatten) rfl HRb.out ⟨M, 0, none⟩ 1 1 [.int .u64 ((k0 : Nat) : Int), .int .u64 ((k1 : Nat) : Int), .int .u64 ((k2 : Nat) : Int), .int .u64 ((k3 : Nat) : Int), .int .u64 ((k4 : Nat) : Int)] rfl rfl ?_ ?_ ?_ ?_ ?_
          · intro j u hj
            have e : (⟨M, 0, none⟩ : Addr).add j = ⟨M, j, none⟩ := by unfold Addr.add; simp; intro h; exact h.symm
            rw [e]
            exact cell_laid (i := j) (v := u) HLB.out (by simpa using hj)
          · intro u hu
            simp only [List.mem_cons, List.not_mem_nil, or_false] at hu
            rcases hu with rfl | rfl | rfl | rfl | rfl <;> rfl
          · omega
          · have := lt_laid HJb.out.tab; have := HJb.out.lo; omega
          intro v' W' ho' hg' hm'
          have hRV : W'.heap[R]? = w5.heap[R]? := (keep_grown HJb.out.blk hg' (fun e => by have := (HRb.out.lt R e).1; have := HJb.out.lo; omega)).trans HJ5.out.blk.symm
          have HNbR : Hid (W'.heap[N]? = w5.heap[N]?) := hid ((keep_grown (hb5b.block N (lt_laid HN5.out) |>.trans HN5.out) hg' (fun e => by have := own_lt (HJ.out.row A _ cs HVA.out HCS.out) N e; omega)).trans HN5.out.symm)
          have HF := hid (HJb.out.app (calls' := 0) (q := [k0, k1, k2, k3, k4]) HVA.out HCS.out rfl (by have := HK1.out; omega) ho' hg' hm')
          obtain ⟨a9, c9, rfl, -⟩ := Leads.of_own ho'
          have HWC' := hid (H6.out W' hRV HNbR.out)
          have HRV := hid hRV
          have HFB : Hid (∀ u, (W'.setCell ⟨g, A, none⟩ u).heap[R]? = W'.heap[R]?) := hid (fun u => Below.heap_setCell _ _ _ _ (by have := HJb.out.lo; show R ≠ g; omega))
          have HFN : Hid (∀ u, (W'.setCell ⟨g, A, none⟩ u).heap[N]? = W'.heap[N]?) := hid (fun u => Below.heap_setCell _ _ _ _ (by show N ≠ g; have := lt_laid HJ.out.tab; omega))
          have htb := HJb.out.app_tab HVA.out HCS.out hg'
          have t9 : W'.frozen? ⟨g, A, none⟩ = false := free_laid htb
          have t8 : W'.cell? ⟨g, A, none⟩ = some (.slice aA cs.length cA) := cell_laid htb (by simpa using HVA.out)
          clear ho' hg' hm' hRV htb
          go_wp2
          refine hR' _ _ HWC'.out ?_
          repeat (refine wpMix2_q rfl rfl ?_; go_big_quiet_step (fail); refine wpQuiet_nil ?_)
          refine wpMix2_h rfl fun R' hR' hO => ?_
          go_wp2
          refine hR' _ _ (H6.out _ (HFB.out _ |>.trans HRV.out) (HFN.out _ |>.trans HNbR.out)) ?_
          refine wpMix2_done ?_
          simp only [List.drop_succ_cons, List.drop_nil]
          go_wp2
          refine bodyPost_end (results_none rfl _ _ _) rfl ?_
          refine ⟨⟨_, rfl⟩, a', c', HL3.out, vs.set A (.slice a9 (cs.length + 1) c9), ?_⟩
          have := HF.out
          rw [HGV.out, HAA.out, HK1.out]
          simpa [HC64.out] using this
      · have hdc : decide ((calls : Int) < 64) = false := decide_eq_false (by omega)
        go_wp2
        refine bodyPost_end (results_none rfl _ _ _) rfl ?_
        exact ⟨⟨_, rfl⟩, a', c', HL3.out, vs, by simpa [show ¬ calls < 64 by omega] using HJ3.out⟩
end Go.Proofs.YtpehnahmdfoobaaDoor
