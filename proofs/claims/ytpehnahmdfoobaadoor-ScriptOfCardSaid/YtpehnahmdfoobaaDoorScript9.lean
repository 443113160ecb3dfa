/- Scripts: Read. -/
import Derived.Test.YtpehnahmdfoobaaDoorScript8
namespace Go.Proofs.YtpehnahmdfoobaaDoor
open Go.RowKit
open Go.Proofs
set_option linter.unusedVariables false

/-- What words say behind the first one. -/
def readGo (C : Nat) : Nat → List Nat → Nat → List (List (List Nat)) → List Int → List (List (List Nat)) × List Int
  | 0, _, _, ls, ps => (ls, ps)
  | _ + 1, [], _, ls, ps => (ls, ps)
  | f + 1, x :: rest, calls, ls, ps =>
    if Pl.get x 0 2 = 1 then
      (if 5 ≤ rest.length then readGo C f (rest.drop 5) (if calls < 64 then calls + 1 else calls) (if calls < 64 then ls.modify (Pl.get x 8 3 % C) (· ++ [rest.take 5]) else ls) ps
      else readGo C f rest calls ls ps)
    else if Pl.get x 0 2 = 2 then readGo C f rest calls ls (ps ++ List.replicate (min (Pl.get x 16 8 + 1) (4096 - ps.length)) (((Pl.get x 8 3 % C : Nat)) : Int))
    else readGo C f rest calls ls ps
def readC (l : List Nat) : Nat := match l with | [] => 1 | x :: _ => Pl.get x 0 3 + 1
def readP (l : List Nat) : Nat := match l with | [] => 1 | x :: _ => Pl.get x 8 6 + 1
def readL (l : List Nat) : List (List (List Nat)) × List Int := readGo (readC l) (l.length - 1) l.tail 0 (List.replicate (readC l) []) []

theorem run_mkf {P : Program} (fn : Fn) (first cap : Array Value) (w : World) : (Instr.makeFunc fn first cap).run P w = .ok (.func fn first cap) w := rfl
theorem elemLists : Elem Tryd.prog 33 46 1 24 := Elem.mk' (z := .slice none 0 0) Tryd.underlying33 (by kernel_rfl) rfl (by decide) (by decide)
theorem make_lists (w : World) (n : Nat) (hn : n ≤ 100000) : (Instr.makeSlice 33 (.int .i64 ((n : Nat) : Int)) (.int .i64 ((n : Nat) : Int))).run Tryd.prog w = .ok (.slice (some ⟨w.heap.size, 0, none⟩) n n) (w.alloc (.cells (madeCells #[.slice none 0 0] n) 46)) := by
  obtain ⟨i, z, hi, hz, h2, h3, h4⟩ := elemLists.info
  have hz0 : (Tryd.prog.info? 46).map (fun i => i.zero) = some (some (.slice none 0 0)) := by kernel_rfl
  rw [hi] at hz0
  have e : i.zero = some (.slice none 0 0) := Option.some.inj hz0
  have hr := run_make (P := Tryd.prog) w 33 46 i _ Tryd.underlying33 hi e .i64 .i64 (n : Int) (n : Int) (by omega) (by omega) (by rw [h3]; omega) (by omega)
  rw [hr, h2, Int.toNat_natCast, Nat.mul_one]
  rfl
theorem made_lists (n : Nat) : madeCells #[.slice none 0 0] n = (List.replicate n (Value.slice none 0 0)).toArray := by
  apply Array.ext
  · simp [size_madeCells]
  · intro j h1 h2
    have := size_madeCells #[Value.slice none 0 0] n
    have e : j % 1 = 0 := Nat.mod_one j
    simp [madeCells, e]

theorem ReadJ.lower {R base C P : Nat} {ls : List (List (List Nat))} {ps : List Int} {a : Option Addr} {r c calls g : Nat} {vs : List Value} {pv : Value} {w0 w W : World} (h : ReadJ R base C P ls ps a r c calls g vs pv w W) (hb : Below w0.heap.size w0 w) : ReadJ R base C P ls ps a r c calls g vs pv w0 W :=
  ⟨h.blk, h.tab, h.vlen, h.llen, h.row, h.pick, h.five, h.few, h.ap, by have := h.lo; have := hb.size; omega, step hb h.below⟩
theorem ReadJ.setAt {R base C P : Nat} {ls : List (List (List Nat))} {ps : List Int} {a : Option Addr} {r c calls g : Nat} {vs : List Value} {pv : Value} {w W : World} (h : ReadJ R base C P ls ps a r c calls g vs pv w W) (b i : Nat) (v : Value) (h1 : b < R) (h2 : w.heap.size ≤ b) : ReadJ R base C P ls ps a r c calls g vs pv w (W.setCell ⟨b, i, none⟩ v) := by
  have hl := h.lo
  have hk : ∀ (k : Nat) (o : Obj), R ≤ k → W.heap[k]? = some o → (W.setCell ⟨b, i, none⟩ v).heap[k]? = some o := fun k o hk ho => other_laid ho (by omega) _
  exact ⟨hk _ _ (Nat.le_refl _) h.blk, hk _ _ (by omega) h.tab, h.vlen, h.llen, fun j u cs hi hc => own_keep (h.row j u cs hi hc) (fun k o hb ho => hk k o (by have := ((h.row j u cs hi hc).lt k hb).1; omega) ho), own_keep h.pick (fun k o hb ho => hk k o (by have := (h.pick.lt k hb).1; omega) ho), h.five, h.few, h.ap, h.lo, h.below.setCell (by show w.heap.size ≤ b; exact h2) _⟩
theorem read_result {W : World} {b : Nat} {v0 v1 v2 v3 : Value} {tmps : Array Value} (h : W.heap[b]? = some (.cells #[v0, v1, v2, v3] 35 (0, 0))) (hp : tmps[2]?.getD undef = .pointer (some ⟨b, 0, none⟩)) :
    (results Tryd.f13 tmps).run Tryd.prog W = .ok (.agg #[v0, v1, v2, v3]) W := by
  have h0 := cell_laid (i := 0) (v := v0) h rfl
  have h1 := cell_laid (i := 1) (v := v1) h rfl
  have h2 := cell_laid (i := 2) (v := v2) h rfl
  have h3 := cell_laid (i := 3) (v := v3) h rfl
  simp [results, Tryd.results13, go_sem, hp, h0, h1, h2, h3]

set_option maxRecDepth 100000 in
theorem call_short (R base C P : Nat) (ls : List (List (List Nat))) (ps : List Int) (a : Option Addr) (r c calls g : Nat) (vs : List Value) (pv : Value) (w W : World) (x : Nat) (hJ : ReadJ R base C P ls ps a r c calls g vs pv w W) (h5 : r < 5) :
    Calls Tryd.prog 28 #[.pointer (some ⟨R, 0, none⟩), .int .u64 (x : Nat)] W (fun e W' => (∃ v, e = .returned v) ∧ W' = W) := by
  have d4 := cell_laid (i := 4) hJ.blk rfl
  have i5 : ((r : Nat) : Int) < 5 := by omega
  clear hJ
  go_enter Tryd.func28, Tryd.ntmps28
  go_wp2
  go_returns
  exact ⟨⟨_, rfl⟩, rfl⟩

set_option maxRecDepth 100000 in
set_option maxHeartbeats 4000000 in
theorem Read_any (l : List Nat) (a : Option Addr) (n c : Nat) (w : World) (hl : l.length = n) (hn : n ≤ 10000) (hlb : ∀ x ∈ l, x < 18446744073709551616) (h : Leads w a n c (wcells l)) (hG : Glob w) :
    Calls Tryd.prog 13 #[.slice a n c] w (fun e W => ∃ g vs pv base, e = .returned (.agg #[.int .i64 ((readC l : Nat) : Int), .int .i64 ((readP l : Nat) : Int), .slice (some ⟨g, 0, none⟩) (readC l) (readC l), pv]) ∧
      ∃ R a' r' c' calls', ReadJ R base (readC l) (readP l) (readL l).1 (readL l).2 a' r' c' calls' g vs pv w W) := by
  obtain ⟨wZ, hwZ, hbZ, hsZ, hlZ⟩ := laid w #[.int .i64 0, .int .i64 0, .slice none 0 0, .slice none 0 0] 35
  obtain ⟨w1, hw1, hb1, hs1, hl1⟩ := laid wZ #[.int .i64 1, .int .i64 1, .slice none 0 0, .slice none 0 0, .slice a n c, .int .i64 0] 62
  obtain ⟨Z, hZ⟩ : ∃ Z, w.heap.size = Z := ⟨_, rfl⟩
  rw [hZ] at hlZ hsZ
  rw [hsZ] at hs1 hl1
  have HZ := hid hZ
  have HL := hid hl
  have HLB := hid hlb
  have H := hid (h.grow hbZ)
  have HG := hid (hG.grow hbZ)
  have HLZ := hid (keep_laid hlZ hb1)
  have HLZ0 := hid hlZ
  have HL1 := hid hl1
  have HB1 := hid hb1
  have HBZ := hid hbZ
  have HSZ := hid hsZ
  clear hl hlb h hG hlZ hl1 hsZ hZ
  go_enter Tryd.func13, Tryd.ntmps13
  go_wp2
  go_step3
  go_upto_if 13 with (fail)
  rw [HZ.out, HSZ.out]
  go_cut [] (fun ws => ∃ a' c', Leads wZ a' (n - 1) c' (wcells l.tail) ∧ ws.heap[Z + 1]? = some (.cells #[.int .i64 ((readC l : Nat) : Int), .int .i64 ((readP l : Nat) : Int), .slice none 0 0, .slice none 0 0, .slice a' (n - 1) c', .int .i64 0] 62 (0, 0)) ∧ ws.heap[Z]? = some (.cells #[.int .i64 0, .int .i64 0, .slice none 0 0, .slice none 0 0] 35 (0, 0)) ∧ Below wZ.heap.size wZ ws ∧ Z + 1 < ws.heap.size)
  case first =>
    rcases l with _ | ⟨x0, tl⟩
    · obtain rfl : n = 0 := HL.out.symm
      go_wp2
      go_meet
      exact ⟨a, c, H.out, HL1.out, HLZ.out, HB1.out, lt_laid HL1.out⟩
    · have hn1 : 0 < n := by have := HL.out; simp at this; omega
      have hx0 : x0 < 18446744073709551616 := HLB.out x0 (List.mem_cons_self ..)
      obtain ⟨b, off, ea, hblt, hcc⟩ := H.out.at (k := 0) hn1 (wcell_at (l := x0 :: tl) (k := 0) (x := x0) rfl)
      subst ea
      have w0c : ∀ z : Ext wZ, z.v.cell? ⟨b, off, none⟩ = some (.int .u64 ((x0 : Nat) : Int)) := fun z => hcc z.v z.b
      have p0 : ∀ z : Ext wZ, z.v.cell? ⟨0, 0, none⟩ = some (.int .i64 0) := fun z => (HG.out.grow z.b).c0
      have p1 : ∀ z : Ext wZ, z.v.cell? ⟨0, 1, none⟩ = some (.int .i64 3) := fun z => (HG.out.grow z.b).c1
      have p6 : ∀ z : Ext wZ, z.v.cell? ⟨1, 6, none⟩ = some (.int .i64 8) := fun z => (HG.out.grow z.b).p6
      have p7 : ∀ z : Ext wZ, z.v.cell? ⟨1, 7, none⟩ = some (.int .i64 6) := fun z => (HG.out.grow z.b).p7
      obtain ⟨G1, hG1⟩ : ∃ G1, Pl.get x0 0 3 = G1 := ⟨_, rfl⟩
      obtain ⟨G2, hG2⟩ : ∃ G2, Pl.get x0 8 6 = G2 := ⟨_, rfl⟩
      have hG1l : G1 < 8 := by rw [← hG1]; exact get_lt x0 0 3
      have hG2l : G2 < 64 := by rw [← hG2]; exact get_lt x0 8 6
      have HP1 : Hid (∀ V : World, Calls Tryd.prog 27 #[.int .u64 (x0 : Nat), .agg #[.int .i64 0, .int .i64 3]] V (Ret (.int .i64 ((G1 : Nat) : Int)) V)) := hid (fun V => by rw [← hG1]; exact part_any x0 0 3 V hx0 (by decide) (by decide) (by decide))
      have HP2 : Hid (∀ V : World, Calls Tryd.prog 27 #[.int .u64 (x0 : Nat), .agg #[.int .i64 8, .int .i64 6]] V (Ret (.int .i64 ((G2 : Nat) : Int)) V)) := hid (fun V => by rw [← hG2]; exact part_any x0 8 6 V hx0 (by decide) (by decide) (by decide))
      have HRC : Hid (readC (x0 :: tl) = G1 + 1) := hid (by show Pl.get x0 0 3 + 1 = _; rw [hG1])
      have HRP : Hid (readP (x0 :: tl) = G2 + 1) := hid (by show Pl.get x0 8 6 + 1 = _; rw [hG2])
      have hnc := H.out.1
      have hcm := H.out.len.2
      have hn0 : ¬ ((n : Nat) : Int) = 0 := by omega
      obtain ⟨C1, hC1⟩ : ∃ C1, G1 + 1 = C1 := ⟨_, rfl⟩
      obtain ⟨P1, hP1⟩ : ∃ P1, G2 + 1 = P1 := ⟨_, rfl⟩
      have hC1i : ((G1 : Nat) : Int) + 1 = ((C1 : Nat) : Int) := by omega
      have hP1i : ((G2 : Nat) : Int) + 1 = ((P1 : Nat) : Int) := by omega
      have HC1 := hid hC1
      have HP1' := hid hP1
      have hTL : tl.length = n - 1 := by have := HL.out; simp at this; omega
      have HTL := hid hTL
      clear hcc hG1 hG2 hC1 hP1 hTL
      have hdn : decide (0 < ((n : Nat) : Int)) = true := decide_eq_true (by omega)
      go_upto_region 3 with (fail)
      refine wp_region_mix2 (fun w' => ∃ z : Ext wZ, w' = z.v) 23 (.q 0 (.q 1 (.q 2 (.q 3 (.q 4 (.q 5 (.q 8 (.q 9 (.q 10 (.q 11 (.q 12 (.h 6 (.q 7 (.h 13 (.q 14 (.q 15 (.q 16 (.q 17 (.h 18 (.q 19 (.q 20 (.q 21 (.h 22 .done))))))))))))))))))))))) (by kernel_rfl) (by kernel_rfl) ⟨⟨_, HB1.out.drew⟩, rfl⟩ ?_
      repeat (refine wpMix2_q rfl rfl ?_; go_big_quiet_step (fail); refine wpQuiet_nil ?_)
      refine wpMix2_h rfl fun R' hR' hO => ?_
      go_wp2_with fail
      refine (HP1.out _).mono ?_
      rintro e w2 ⟨rfl, hb2⟩
      have hb12 : Below w1.heap.size w1 w2 := (Below.refl _ _).drew.trans hb2
      go_wp2
      refine hR' _ _ ⟨⟨_, step HB1.out hb12⟩, rfl⟩ ?_
      repeat (refine wpMix2_q rfl rfl ?_; go_big_quiet_step (fail); refine wpQuiet_nil ?_)
      refine wpMix2_h rfl fun R' hR' hO => ?_
      go_wp2_with fail
      refine (HP2.out _).mono ?_
      rintro e w3 ⟨rfl, hb3⟩
      have hb13 := step hb12 hb3
      have hb03 := step HB1.out hb13
      have k1 := keep_laid HL1.out hb13
      have t0 := free_laid (i := 0) k1
      have t1 := free_laid (i := 1) k1
      have t4 := free_laid (i := 4) k1
      have c0 := cell_laid (i := 0) k1 rfl
      have c1 := cell_laid (i := 1) k1 rfl
      have c4 := cell_laid (i := 4) k1 rfl
      have hwR : wZ.heap.size ≤ Z + 1 := by have := HSZ.out; omega
      have HWR := hid hwR
      have hs0 : Below wZ.heap.size wZ (w3.setCell ⟨Z + 1, 0, none⟩ (.int .i64 ((C1 : Nat) : Int))) := hb03.setCell hwR _
      have hs1 : Below wZ.heap.size wZ ((w3.setCell ⟨Z + 1, 0, none⟩ (.int .i64 ((C1 : Nat) : Int))).setCell ⟨Z + 1, 1, none⟩ (.int .i64 ((P1 : Nat) : Int))) := hs0.setCell hwR _
      have K1 : Hid (((w3.setCell ⟨Z + 1, 0, none⟩ (.int .i64 ((C1 : Nat) : Int))).setCell ⟨Z + 1, 1, none⟩ (.int .i64 ((P1 : Nat) : Int))).heap[Z + 1]? = some (.cells #[.int .i64 ((C1 : Nat) : Int), .int .i64 ((P1 : Nat) : Int), .slice none 0 0, .slice none 0 0, .slice (some ⟨b, off, none⟩) n c, .int .i64 0] 62 (0, 0))) := hid (set_laid (i := 1) (set_laid (i := 0) k1 (.int .i64 ((C1 : Nat) : Int))) (.int .i64 ((P1 : Nat) : Int)))
      have KZ : Hid (((w3.setCell ⟨Z + 1, 0, none⟩ (.int .i64 ((C1 : Nat) : Int))).setCell ⟨Z + 1, 1, none⟩ (.int .i64 ((P1 : Nat) : Int))).heap[Z]? = some (.cells #[.int .i64 0, .int .i64 0, .slice none 0 0, .slice none 0 0] 35 (0, 0))) := hid (other_laid (other_laid (keep_laid HLZ.out hb13) (by omega) _) (by omega) _)
      have HS1 := hid hs1
      clear hwR k1
      go_wp2
      refine hR' _ _ ⟨⟨_, hb03⟩, rfl⟩ ?_
      repeat (refine wpMix2_q rfl rfl ?_; go_big_quiet_step (fail); refine wpQuiet_nil ?_)
      refine wpMix2_h rfl fun R' hR' hO => ?_
      go_wp2
      refine hR' _ _ ⟨⟨_, hs0⟩, rfl⟩ ?_
      repeat (refine wpMix2_q rfl rfl ?_; go_big_quiet_step (fail); refine wpQuiet_nil ?_)
      refine wpMix2_h rfl fun R' hR' hO => ?_
      go_wp2
      refine hR' _ _ ⟨⟨_, hs1⟩, rfl⟩ ?_
      refine wpMix2_done ?_
      simp only [List.drop_succ_cons, List.drop_nil]
      clear w0c p0 p1 p6 p7 hs0 hs1 t0 t1 c0 c1
      rcases Nat.lt_or_ge 1 c with hc1 | hc1
      · have h1c : ¬ c = 1 := by omega
        have HL2 : Hid (Leads wZ (some ⟨b, off + 1, none⟩) (n - 1) (c - 1) (wcells tl)) := hid (by have := H.out.vdrop (k := 1) (by simp [wcells, HTL.out]; omega) (by omega); simpa [wcells] using this)
        have KF := hid (set_laid (i := 4) K1.out (.slice (some ⟨b, off + 1, none⟩) (n - 1) (c - 1)))
        have KG := hid (other_laid KZ.out (show Z ≠ Z + 1 by omega) (i := 4) (.slice (some ⟨b, off + 1, none⟩) (n - 1) (c - 1)))
        have KB := hid (HS1.out.setCell (p := ⟨Z + 1, 4, none⟩) (by show wZ.heap.size ≤ Z + 1; exact HWR.out) (.slice (some ⟨b, off + 1, none⟩) (n - 1) (c - 1)))
        go_wp2
        go_meet
        exact ⟨_, _, HL2.out, by rw [HRC.out, HRP.out, HC1.out, HP1'.out]; exact KF.out, KG.out, KB.out, lt_laid KF.out⟩
      · have h1c : c = 1 := by omega
        have h1n : n = 1 := by omega
        subst h1c
        subst h1n
        have HL2 : Hid (Leads wZ (some ⟨b, off, none⟩) 0 0 (wcells tl)) := hid ⟨by omega, by decide, .inl ⟨rfl, by rw [show tl = [] from List.eq_nil_of_length_eq_zero HTL.out]; rfl⟩⟩
        have KF := hid (set_laid (i := 4) K1.out (.slice (some ⟨b, off, none⟩) 0 0))
        have KG := hid (other_laid KZ.out (show Z ≠ Z + 1 by omega) (i := 4) (.slice (some ⟨b, off, none⟩) 0 0))
        have KB := hid (HS1.out.setCell (p := ⟨Z + 1, 4, none⟩) (by show wZ.heap.size ≤ Z + 1; exact HWR.out) (.slice (some ⟨b, off, none⟩) 0 0))
        go_wp2
        go_meet
        exact ⟨_, _, HL2.out, by rw [HRC.out, HRP.out, HC1.out, HP1'.out]; exact KF.out, KG.out, KB.out, lt_laid KF.out⟩
  case rest =>
    obtain ⟨a', c', hL2, hK, hZc, hB, hlt⟩ := hcut
    obtain ⟨C, hC⟩ : ∃ C, readC l = C := ⟨_, rfl⟩
    obtain ⟨P, hP⟩ : ∃ P, readP l = P := ⟨_, rfl⟩
    have hC1 : 1 ≤ C ∧ C ≤ 8 := by
      rw [← hC]
      rcases l with _ | ⟨x0, tl⟩
      · exact ⟨Nat.le_refl _, by decide⟩
      · have := get_lt x0 0 3
        show 1 ≤ Pl.get x0 0 3 + 1 ∧ Pl.get x0 0 3 + 1 ≤ 8
        omega
    obtain ⟨hC1, hC8⟩ := hC1
    have hmk := make_lists wc C (by omega)
    rw [made_lists] at hmk
    obtain ⟨w2, hw2, hb2, hs2, hl2⟩ := laid wc (List.replicate C (Value.slice none 0 0)).toArray 46
    rw [hw2] at hmk
    rw [hC, hP] at hK
    obtain ⟨RES, hRES⟩ : ∃ RES, readL l = RES := ⟨_, rfl⟩
    have hgo : readGo C (n - 1) l.tail 0 (List.replicate C []) [] = RES := by
      rw [← hRES]
      unfold readL
      rw [hC, HL.out]
    have hJ : ReadJ (Z + 1) wc.heap.size C P (List.replicate C []) [] a' (n - 1) c' 0 wc.heap.size (List.replicate C (Value.slice none 0 0)) (.slice none 0 0) wZ (w2.setCell ⟨Z + 1, 2, none⟩ (.slice (some ⟨wc.heap.size, 0, none⟩) C C)) := by
      refine ⟨set_laid (i := 2) (keep_laid hK hb2) _, other_laid hl2 (by omega) _, by simp, by simp, ?_, World.ownsRow_nil _ _ _ _, by simp [List.mem_replicate], by simp [List.mem_replicate], ?_, ⟨hlt, Nat.le_refl _, by rw [HSZ.out]; omega⟩, (step hB hb2).setCell (by show wZ.heap.size ≤ Z + 1; rw [HSZ.out]; omega) _⟩
      · intro i v cs hi hc
        have e1 := List.eq_of_mem_replicate (List.mem_of_getElem? hi)
        have e2 := List.eq_of_mem_replicate (List.mem_of_getElem? hc)
        subst e1
        subst e2
        exact World.ownsRow_nil _ _ _ _
      · intro i j v v' k hi hj h1 h2
        have e1 := List.eq_of_mem_replicate (List.mem_of_getElem? hi)
        subst e1
        cases h1
    obtain ⟨g, hg⟩ : ∃ g, wc.heap.size = g := ⟨_, rfl⟩
    rw [hg] at hmk hJ hs2
    have HJ := hid hJ
    have HGO := hid hgo
    have HRES := hid hRES
    have HC := hid hC
    have HP := hid hP
    have d0 := cell_laid (i := 0) hK rfl
    have t2 := free_laid (i := 2) (keep_laid hK hb2)
    have c2 := cell_laid (i := 2) (keep_laid hK hb2) rfl
    have HL2 := hid hL2
    clear hL2 hK hZc hB hl2 hC hP hJ hgo hRES hg
    have hm6 := @run_mkf Tryd.prog
    go_upto_region 6 with (fail)
    go_wp2
    go_step3
    go_wp2
    go_loopg [6] (n - 1) (fun gk u6 wr => ∃ (rest : List Nat) (ar : Option Addr) (cr f calls : Nat) (ls : List (List (List Nat))) (ps : List Int) (vs : List Value) (pv : Value), rest.length = gk ∧ Leads wZ ar gk cr (wcells rest) ∧ (∀ x ∈ rest, x < 18446744073709551616) ∧ ReadJ (Z + 1) g C P ls ps ar gk cr calls g vs pv wZ wr ∧ gk ≤ f ∧ readGo C f rest calls ls ps = RES ∧ calls ≤ 64 ∧ ps.length ≤ 4096 ∧ gk ≤ 10000)
    case atStart => exact ⟨l.tail, a', c', n - 1, 0, _, [], _, _, by rw [List.length_tail, HL.out], HL2.out, fun x hx => HLB.out x (List.mem_of_mem_tail hx), HJ.out, Nat.le_refl _, HGO.out, by omega, by simp, by omega⟩
    case round =>
      obtain ⟨rest, ar, cr, f, calls, ls, ps, vs, pv, hrl, hLr, hrb, hJr, hgf, hgo, hc64, hp4, hgk⟩ := hrel
      obtain ⟨pa, pc, rfl, -⟩ := Leads.of_own hJr.pick
      have HJR := hid hJr
      have HLR := hid hLr
      have HGO := hid hgo
      have HRL := hid hrl
      have e4 := cell_laid (i := 4) hJr.blk rfl
      have hJrZ := hJr.below
      clear hLr hgo hrl HJ
      rcases Nat.eq_zero_or_pos gk with hg0 | hgp
      · subst hg0
        have hZB : wr.heap[Z]? = some (.cells #[.int .i64 0, .int .i64 0, .slice none 0 0, .slice none 0 0] 35 (0, 0)) := keep_laid HLZ0.out hJrZ
        have r0 := cell_laid (i := 0) hJr.blk rfl
        have r1 := cell_laid (i := 1) hJr.blk rfl
        have r2 := cell_laid (i := 2) hJr.blk rfl
        have r3 := cell_laid (i := 3) hJr.blk rfl
        have z0 := free_laid (i := 0) hZB
        have z1 := free_laid (i := 1) hZB
        have z2 := free_laid (i := 2) hZB
        have z3 := free_laid (i := 3) hZB
        have y0 := cell_laid (i := 0) hZB rfl
        have y1 := cell_laid (i := 1) hZB rfl
        have y2 := cell_laid (i := 2) hZB rfl
        have y3 := cell_laid (i := 3) hZB rfl
        have hRE : RES = (ls, ps) := by
          rw [← HGO.out, show rest = [] from List.eq_nil_of_length_eq_zero HRL.out]
          cases f <;> rfl
        have HRE := hid hRE
        have HEB := hid (set_laid (i := 3) (set_laid (i := 2) (set_laid (i := 1) (set_laid (i := 0) hZB (.int .i64 ((C : Nat) : Int))) (.int .i64 ((P : Nat) : Int))) (.slice (some ⟨g, 0, none⟩) C C)) (.slice pa ps.length pc))
        have hzw : w.heap.size ≤ Z := by rw [HZ.out]; exact Nat.le_refl _
        have HEJ := hid ((((((hJr.lower HBZ.out).setAt Z 0 (.int .i64 ((C : Nat) : Int)) (by omega) hzw).setAt Z 1 (.int .i64 ((P : Nat) : Int)) (by omega) hzw).setAt Z 2 (.slice (some ⟨g, 0, none⟩) C C) (by omega) hzw).setAt Z 3 (.slice pa ps.length pc) (by omega) hzw))
        clear hJr hZB hRE hJrZ hzw
        go_wp2
        rw [Exit.noGoto_ret]
        refine bodyPost_ret (read_result HEB.out rfl) rfl ?_
        refine ⟨g, vs, .slice pa ps.length pc, g, by rw [HC.out, HP.out], Z + 1, ar, 0, cr, calls, ?_⟩
        rw [HC.out, HP.out, HRES.out, HRE.out]
        exact HEJ.out
      · obtain ⟨x, more, rfl⟩ : ∃ x more, rest = x :: more := by
          rcases rest with _ | ⟨x, more⟩
          · have := HRL.out; simp at this; omega
          · exact ⟨x, more, rfl⟩
        obtain ⟨f, rfl⟩ : ∃ f', f = f' + 1 := ⟨f - 1, by omega⟩
        have hx : x < 18446744073709551616 := hrb x (List.mem_cons_self ..)
        obtain ⟨b, off, ea, hblt, hcc⟩ := HLR.out.at (k := 0) hgp (wcell_at (l := x :: more) (k := 0) (x := x) rfl)
        subst ea
        have hcr := HLR.out.1
        have hcm := HLR.out.len.2
        have hg0 : ¬ ((gk : Nat) : Int) = 0 := by omega
        have hdg : decide (((gk : Nat) : Int) = 0) = false := decide_eq_false hg0
        have wx : wr.cell? ⟨b, off, none⟩ = some (.int .u64 ((x : Nat) : Int)) := hcc wr hJrZ
        have HML : Hid (more.length = gk - 1) := hid (by have := HRL.out; simp at this; omega)
        have f4 : ∀ z : Ext wr, z.v.cell? ⟨Z + 1, 4, none⟩ = some (.slice (some ⟨b, off, none⟩) gk cr) := fun z => cell_laid (keep_laid HJR.out.blk z.b) rfl
        have HRB := hid hrb
        clear hJr hcc hrb
        go_upto_region 9 with (fail)
        go_cut [] (fun ws => ∃ a9 c9, Leads wZ a9 (gk - 1) c9 (wcells more) ∧ ReadJ (Z + 1) g C P ls ps a9 (gk - 1) c9 calls g vs (.slice pa ps.length pc) wZ ws)
        case first =>
          refine wp_region_mix2 (fun w' => ∃ z : Ext wr, w' = z.v) 18 (.q 0 (.q 1 (.q 2 (.q 3 (.q 4 (.q 5 (.q 6 (.q 7 (.q 8 (.q 9 (.q 10 (.q 11 (.q 12 (.q 13 (.q 14 (.q 15 (.q 16 (.q 17 .done)))))))))))))))))) (by kernel_rfl) (by kernel_rfl) ⟨⟨_, (Below.refl _ _).drew⟩, rfl⟩ ?_
          rcases Nat.lt_or_ge 1 gk with hg1 | hg1
          · have h1c : ¬ gk = 1 := by omega
            have i1 : (1 : Int) ≤ ((gk : Nat) : Int) := by omega
            have icr : ((gk : Nat) : Int) ≤ ((cr : Nat) : Int) := by omega
            repeat (refine wpMix2_q rfl rfl ?_; go_big_quiet_step (fail); refine wpQuiet_nil ?_)
            have HL2 : Hid (Leads wZ (some ⟨b, off + 1, none⟩) (gk - 1) (gk - 1) (wcells more)) := hid (by
              have h1 := HLR.out.vdrop (k := 1) (by simp [wcells, HML.out]; omega) (by omega)
              exact ⟨Nat.le_refl _, by have := h1.2.1; omega, by simpa [wcells] using h1.2.2⟩)
            have HJ9 := hid ((HJR.out.grow (Below.refl _ _).drew).put4 (a' := some ⟨b, off + 1, none⟩) (r' := gk - 1) (c' := gk - 1))
            refine wpMix2_done ?_
            simp only [List.drop_succ_cons]
            have s4 := cell_laid (i := 4) HJR.out.blk rfl
            have s4f := free_laid (i := 4) HJR.out.blk
            clear f4
            go_wp2
            go_meet
            exact ⟨_, _, HL2.out, HJ9.out⟩
          · obtain rfl : gk = 1 := by omega
            have icr : (1 : Int) ≤ ((cr : Nat) : Int) := by omega
            repeat (refine wpMix2_q rfl rfl ?_; go_big_quiet_step (fail); refine wpQuiet_nil ?_)
            have HL2 : Hid (Leads wZ (some ⟨b, off, none⟩) 0 0 (wcells more)) := hid ⟨by omega, by decide, .inl ⟨rfl, by rw [show more = [] from List.eq_nil_of_length_eq_zero HML.out]; rfl⟩⟩
            have HJ9 := hid ((HJR.out.grow (Below.refl _ _).drew).put4 (a' := some ⟨b, off, none⟩) (r' := 0) (c' := 0))
            refine wpMix2_done ?_
            simp only [List.drop_succ_cons]
            have s4 := cell_laid (i := 4) HJR.out.blk rfl
            have s4f := free_laid (i := 4) HJR.out.blk
            clear f4
            go_wp2
            go_meet
            exact ⟨_, _, HL2.out, HJ9.out⟩
        case rest =>
          obtain ⟨a9, c9, hL9, hJ9⟩ := hcut
          have HL9 := hid hL9
          have HJ9 := hid hJ9
          clear hL9 hJ9 hJrZ wx f4 e4
          obtain ⟨KD, hKD⟩ : ∃ KD, Pl.get x 0 2 = KD := ⟨_, rfl⟩
          have HP0 : Hid (∀ V : World, Calls Tryd.prog 27 #[.int .u64 (x : Nat), .agg #[.int .i64 0, .int .i64 2]] V (Ret (.int .i64 ((KD : Nat) : Int)) V)) := hid (fun V => by rw [← hKD]; exact part_any x 0 2 V hx (by decide) (by decide) (by decide))
          have HG9 := hid (HG.out.grow HJ9.out.below)
          have p0 := HG9.out.p0
          have p1 := HG9.out.p1
          have hgo1 := HGO.out
          rw [readGo, hKD] at hgo1
          have hmb : ∀ y ∈ more, y < 18446744073709551616 := fun y hy => HRB.out y (List.mem_cons_of_mem _ hy)
          have HMB := hid hmb
          clear hmb
          have HKD := hid hKD
          clear hKD
          by_cases hk1 : KD = 1
          · have dk1 : decide (((KD : Nat) : Int) = 1) = true := decide_eq_true (by omega)
            rw [if_pos hk1] at hgo1
            rcases Nat.lt_or_ge (gk - 1) 5 with h5 | h5
            · rw [if_neg (by rw [HML.out]; omega)] at hgo1
              have HGO1 := hid hgo1
              clear hgo1
              go_wp2_with fail
              refine (HP0.out _).mono ?_
              rintro e w5 ⟨rfl, hb5⟩
              have HJ10 := hid (HJ9.out.grow hb5)
              go_wp2_with fail
              refine (call_short _ _ _ _ _ _ _ _ _ _ _ _ _ _ _ x HJ10.out (by omega)).mono ?_
              rintro e w6 ⟨⟨v, rfl⟩, rfl⟩
              go_wp2
              go_roundg (gk - 1)
              case measure => omega
              case rel => exact ⟨more, a9, c9, f, calls, ls, ps, vs, _, HML.out, HL9.out, HMB.out, HJ10.out, by omega, HGO1.out, hc64, hp4, by omega⟩
            · rw [if_pos (by rw [HML.out]; omega)] at hgo1
              have HGO1 := hid hgo1
              clear hgo1
              go_wp2_with fail
              refine (HP0.out _).mono ?_
              rintro e w5 ⟨rfl, hb5⟩
              have HJ10 := hid (HJ9.out.grow hb5)
              go_wp2_with fail
              refine (call_any _ _ _ _ _ _ _ _ _ _ _ _ _ _ _ more x HJ10.out HG.out HML.out HL9.out (by omega) hC1 hC8 hx hc64 (by omega)).mono ?_
              rintro e w6 ⟨⟨v, rfl⟩, a10, c10, vs10, hL10, hJ10⟩
              have HL10 := hid hL10
              have HJ11 := hid hJ10
              clear hL10 hJ10
              go_wp2
              go_roundg (gk - 1 - 5)
              case measure => omega
              case rel => exact ⟨more.drop 5, a10, c10, f, (if calls < 64 then calls + 1 else calls), _, ps, vs10, _, by rw [List.length_drop, HML.out], HL10.out, fun y hy => HMB.out y (List.mem_of_mem_drop hy), HJ11.out, by omega, HGO1.out, by split <;> omega, hp4, by omega⟩
          · have dk1 : decide (((KD : Nat) : Int) = 1) = false := decide_eq_false (by omega)
            rw [if_neg hk1] at hgo1
            have hk1i : ¬ ((KD : Nat) : Int) = 1 := by omega
            by_cases hk2 : KD = 2
            · have dk2 : decide (((KD : Nat) : Int) = 2) = true := decide_eq_true (by omega)
              rw [if_pos hk2] at hgo1
              have HGO1 := hid hgo1
              clear hgo1
              go_wp2_with fail
              refine (HP0.out _).mono ?_
              rintro e w5 ⟨rfl, hb5⟩
              have HJ10 := hid (HJ9.out.grow hb5)
              go_wp2_with fail
              refine (run_any _ _ _ _ _ _ _ _ _ _ _ _ _ _ _ x HJ10.out HG.out hC1 hC8 hx hp4).mono ?_
              rintro e w6 ⟨⟨v, rfl⟩, pv10, hJ10⟩
              have HJ11 := hid hJ10
              clear hJ10
              go_wp2
              go_roundg (gk - 1)
              case measure => omega
              case rel => exact ⟨more, a9, c9, f, calls, ls, _, vs, pv10, HML.out, HL9.out, HMB.out, HJ11.out, by omega, HGO1.out, hc64, by rw [List.length_append, List.length_replicate]; omega, by omega⟩
            · have dk2 : decide (((KD : Nat) : Int) = 2) = false := decide_eq_false (by omega)
              have hk2i : ¬ ((KD : Nat) : Int) = 2 := by omega
              rw [if_neg hk2] at hgo1
              have HGO1 := hid hgo1
              clear hgo1
              go_wp2_with fail
              refine (HP0.out _).mono ?_
              rintro e w5 ⟨rfl, hb5⟩
              have HJ10 := hid (HJ9.out.grow hb5)
              go_wp2
              go_roundg (gk - 1)
              case measure => omega
              case rel => exact ⟨more, a9, c9, f, calls, ls, ps, vs, _, HML.out, HL9.out, HMB.out, HJ10.out, by omega, HGO1.out, hc64, hp4, by omega⟩
end Go.Proofs.YtpehnahmdfoobaaDoor
