/- Several texts in one. -/
import Derived.Test.YtahicokokfcieaaDoorTgAb
import Derived.Laws.EntriesVeiled
namespace Go.Proofs.YtahicokokfcieaaDoor
open Go.RowKit
open Go.Proofs
set_option linter.unusedVariables false

theorem elemWords : Elem Tryd.prog 22 25 1 8 := Elem.mk' (z := .int .u64 0) Tryd.underlying22 (by kernel_rfl) rfl (by decide) (by decide)
theorem elemBools : Elem Tryd.prog 36 4 1 1 := Elem.mk' (z := .bool false) Tryd.underlying36 (by kernel_rfl) rfl (by decide) (by decide)
theorem made_one (z : Value) (n : Nat) : madeCells #[z] n = (List.replicate n z).toArray := by
  apply Array.ext
  · simp [size_madeCells]
  · intro j h1 h2
    have := size_madeCells #[z] n
    have e : j % 1 = 0 := Nat.mod_one j
    simp [madeCells, e]
theorem make_words (w : World) (n : Nat) (hn : n ≤ 100000) : (Instr.makeSlice 22 (.int .i64 ((n : Nat) : Int)) (.int .i64 ((n : Nat) : Int))).run Tryd.prog w = .ok (.slice (some ⟨w.heap.size, 0, none⟩) n n) (w.alloc (.cells (List.replicate n (.int .u64 0)).toArray 25)) := by
  obtain ⟨i, z, hi, hz, h2, h3, h4⟩ := elemWords.info
  have hz0 : (Tryd.prog.info? 25).map (fun i => i.zero) = some (some (.int .u64 0)) := by kernel_rfl
  rw [hi] at hz0
  have e : i.zero = some (.int .u64 0) := Option.some.inj hz0
  have hr := run_make (P := Tryd.prog) w 22 25 i _ Tryd.underlying22 hi e .i64 .i64 (n : Int) (n : Int) (by omega) (by omega) (by rw [h3]; omega) (by omega)
  rw [hr, h2, Int.toNat_natCast, Nat.mul_one]
  show _ = Result.ok _ (w.alloc (.cells (List.replicate n (.int .u64 0)).toArray 25))
  rw [← made_one]
  rfl
theorem make_bools (w : World) (n : Nat) (hn : n ≤ 100000) : (Instr.makeSlice 36 (.int .i64 ((n : Nat) : Int)) (.int .i64 ((n : Nat) : Int))).run Tryd.prog w = .ok (.slice (some ⟨w.heap.size, 0, none⟩) n n) (w.alloc (.cells (List.replicate n (.bool false)).toArray 4)) := by
  obtain ⟨i, z, hi, hz, h2, h3, h4⟩ := elemBools.info
  have hz0 : (Tryd.prog.info? 4).map (fun i => i.zero) = some (some (.bool false)) := by kernel_rfl
  rw [hi] at hz0
  have e : i.zero = some (.bool false) := Option.some.inj hz0
  have hr := run_make (P := Tryd.prog) w 36 4 i _ Tryd.underlying36 hi e .i64 .i64 (n : Int) (n : Int) (by omega) (by omega) (by rw [h3]; omega) (by omega)
  rw [hr, h2, Int.toNat_natCast, Nat.mul_one]
  show _ = Result.ok _ (w.alloc (.cells (List.replicate n (.bool false)).toArray 4))
  rw [← made_one]
  rfl
/-- A memory's rows, of its own. -/
structure MemO (base : Nat) (wa : Option Addr) (wc : Nat) (la : Option Addr) (lc : Nat) (M : Mem) (V : World) : Prop where
  w : V.ownsRow base 25 1 (.slice wa M.W.length wc) M.W.length (wcells M.W)
  l : V.ownsRow base 4 1 (.slice la M.L.length lc) M.L.length (bcells M.L)
theorem MemO.grow {base : Nat} {wa la : Option Addr} {wc lc : Nat} {M : Mem} {V V' : World} (h : MemO base wa wc la lc M V) (hb : Below V.heap.size V V') : MemO base wa wc la lc M V' := ⟨own_grow h.w hb, own_grow h.l hb⟩
theorem MemO.memL {base : Nat} {wa la : Option Addr} {wc lc : Nat} {M : Mem} {V : World} (h : MemO base wa wc la lc M V) : MemL V wa wc la lc M := ⟨Leads.of_own1 h.w, Leads.of_own1 h.l⟩
theorem MemO.set {base Z i : Nat} {wa la : Option Addr} {wc lc : Nat} {M : Mem} {V : World} {cur : Array Value} {e : TypeId} (h : MemO base wa wc la lc M V) (hZ : V.heap[Z]? = some (.cells cur e (0, 0))) (h1 : 25 ≠ e) (h2 : 4 ≠ e) (v : Value) : MemO base wa wc la lc M (V.setCell ⟨Z, i, none⟩ v) := by
  refine ⟨own_keep h.w (fun k o hk hh => ?_), own_keep h.l (fun k o hk hh => ?_)⟩
  · obtain ⟨cur', hc⟩ := own_type h.w k hk
    exact other_laid hh (type_ne hc hZ h1) _
  · obtain ⟨cur', hc⟩ := own_type h.l k hk
    exact other_laid hh (type_ne hc hZ h2) _
/-- A call gives a memory of its own. -/
def GivesM (M : Mem) (w : World) (e : Ending) (W : World) : Prop := ∃ wa wc la lc, e = .returned (memV wa wc la lc M) ∧ MemO w.heap.size wa wc la lc M W ∧ Below w.heap.size w W
/-- A memory is put into a variable that holds none. -/
theorem put_mem {V : World} {Y : Nat} {z0 z1 z2 : Value} (h : V.heap[Y]? = some (.cells #[z0, z1, z2] 38 (0, 0))) (v0 v1 v2 : Value) :
    ∃ V', V' = ((V.setCell ⟨Y, 0, none⟩ v0).setCell ⟨Y, 1, none⟩ v1).setCell ⟨Y, 2, none⟩ v2 ∧ V'.heap[Y]? = some (.cells #[v0, v1, v2] 38 (0, 0)) ∧
      (∀ (k : Nat) (o : Obj), k ≠ Y → V.heap[k]? = some o → V'.heap[k]? = some o) ∧ (∀ (B : Nat) (w : World), B ≤ Y → Below B w V → Below B w V') ∧
      ∀ (base : Nat) (wa : Option Addr) (wc : Nat) (la : Option Addr) (lc : Nat) (M : Mem), MemO base wa wc la lc M V → MemO base wa wc la lc M V' := by
  have h0 := set_laid (i := 0) h v0
  have h1 := set_laid (i := 1) h0 v1
  refine ⟨_, rfl, set_laid (i := 2) h1 v2, fun k o hk ho => other_laid (other_laid (other_laid ho hk _) hk _) hk _, fun B w hB hb => ((hb.setCell hB _).setCell hB _).setCell hB _,
    fun base wa wc la lc M hm => ((hm.set h (by decide) (by decide) v0).set h0 (by decide) (by decide) v1).set h1 (by decide) (by decide) v2⟩
theorem cells3 {W : World} {Y : Nat} {v0 v1 v2 : Value} {T : TypeId} (h : W.heap[Y]? = some (.cells #[v0, v1, v2] T (0, 0))) : W.cell? ⟨Y, 0, none⟩ = some v0 ∧ W.cell? ⟨Y, 1, none⟩ = some v1 ∧ W.cell? ⟨Y, 2, none⟩ = some v2 := ⟨cell_laid h rfl, cell_laid h rfl, cell_laid h rfl⟩
theorem memown_result {W : World} {b : Nat} {v0 v1 v2 : Value} {tmps : Array Value} (h : W.heap[b]? = some (.cells #[v0, v1, v2] 38 (0, 0))) (hp : tmps[2]?.getD undef = .pointer (some ⟨b, 0, none⟩)) :
    (results Tryd.f80 tmps).run Tryd.prog W = .ok (.agg #[v0, v1, v2]) W := by
  have h0 := cell_laid (i := 0) (v := v0) h rfl
  have h1 := cell_laid (i := 1) (v := v1) h rfl
  have h2 := cell_laid (i := 2) (v := v2) h rfl
  simp [results, Tryd.results80, go_sem, hp, h0, h1, h2]
theorem splice_whole {α : Type} (L cs : List α) (h : L.length = cs.length) : splice L 0 cs = cs := by unfold splice; simp [h]

set_option maxRecDepth 100000 in
set_option maxHeartbeats 4000000 in
theorem memown_any (M : Mem) (wa la : Option Addr) (wc lc : Nat) (V : World) (h : MemL V wa wc la lc M) (hW : M.W.length ≤ 5000) (hL : M.L.length ≤ 5000) :
    Calls Tryd.prog 80 #[memV wa wc la lc M] V (GivesM M V) := by
  obtain ⟨V0, hV0, hb0, hs0, hl0⟩ := laid V #[.slice wa M.W.length wc, .slice la M.L.length lc, .bool M.F] 38
  obtain ⟨V1, hV1, hb1, hs1, hl1⟩ := laid V0 #[.slice none 0 0, .slice none 0 0, .bool false] 38
  obtain ⟨X, hX⟩ : ∃ X, V.heap.size = X := ⟨_, rfl⟩
  obtain ⟨Z, hZ⟩ : ∃ Z, V0.heap.size = Z := ⟨_, rfl⟩
  rw [hX] at hl0
  rw [hZ] at hl1
  have HXB := hid (keep_laid hl0 hb1)
  have HZB := hid hl1
  have HB1 := hid (step hb0 hb1)
  have HZX : Hid (V.heap.size ≤ Z) := hid (by rw [← hZ]; exact hb0.size)
  have HM := hid (h.grow HB1.out)
  have hwl := h.w.len
  have hll := h.l.len
  unfold GivesM memV
  obtain ⟨F, hF⟩ : ∃ F, M.F = F := ⟨_, rfl⟩
  obtain ⟨n, hn⟩ : ∃ n, M.W.length = n := ⟨_, rfl⟩
  obtain ⟨m, hm⟩ : ∃ m, M.L.length = m := ⟨_, rfl⟩
  rw [hn] at hV0 HXB hwl hW
  rw [hm] at hV0 HXB hll hL
  rw [hF] at hV0 HXB
  rw [hn, hm, hF]
  have HN := hid hn
  have HMM := hid hm
  have HF := hid hF
  have x0 : ∀ z : Ext V1, z.v.cell? ⟨X, 0, none⟩ = some (.slice wa n wc) := fun z => (cells3 (keep_laid HXB.out z.b)).1
  have x1 : ∀ z : Ext V1, z.v.cell? ⟨X, 1, none⟩ = some (.slice la m lc) := fun z => (cells3 (keep_laid HXB.out z.b)).2.1
  have x2 : ∀ z : Ext V1, z.v.cell? ⟨X, 2, none⟩ = some (.bool F) := fun z => (cells3 (keep_laid HXB.out z.b)).2.2
  clear h hs0 hs1 hb0 hb1 hl0 hl1 hn hm hF
  go_enter Tryd.func80, Tryd.ntmps80
  go_upto_region 1 with (fail)
  go_cut [3] (fun t3 V2 => ∃ Y gw gl : Nat, t3 = .pointer (some ⟨Y, 0, none⟩) ∧ V2.heap[Y]? = some (.cells #[.slice (some ⟨gw, 0, none⟩) n n, .slice (some ⟨gl, 0, none⟩) m m, .bool F] 38 (0, 0)) ∧ V2.heap[gw]? = some (.cells (List.replicate n (.int .u64 0)).toArray 25 (0, 0)) ∧ V2.heap[gl]? = some (.cells (List.replicate m (.bool false)).toArray 4 (0, 0)) ∧ V1.heap.size ≤ Y ∧ V1.heap.size ≤ gw ∧ V1.heap.size ≤ gl ∧ Below V1.heap.size V1 V2)
  case first =>
    refine wp_region_mix3 (fun W => ∃ z : Ext V1, W = z.v) 12 (.q 0 (.q 1 (.q 2 (.q 4 (.q 5 (.q 6 (.q 8 (.q 9 (.h3 3 (.h2 7 (.q 10 (.h 11 (.done))) 11 (.h 7 (.q 10 (.done)))) 7 (.h2 3 (.q 10 (.h 11 (.done))) 11 (.h 3 (.q 10 (.done)))) 11 (.h2 3 (.h 7 (.q 10 (.done))) 7 (.h 3 (.q 10 (.done))))))))))))) (by kernel_rfl) (by kernel_rfl) ⟨⟨_, (Below.refl _ _).drew⟩, rfl⟩ ?_
    repeat (refine wpMix3_q rfl rfl ?_; go_big_quiet_step (fail); refine wpQuiet_nil ?_)
    obtain ⟨wD, hwD⟩ : ∃ wD, V1.drew = wD := ⟨_, rfl⟩
    have HBD : Hid (Below V1.heap.size V1 wD) := hid (by rw [← hwD]; exact (Below.refl _ _).drew)
    rw [hwD]
    clear hwD x0 x1 x2
    refine wpMix3_h3 ?_ ?_ ?_
    · refine wpMix3_h rfl fun R' hR' hO => ?_
      obtain ⟨w1_, hw1, hb1, hs1, hl1⟩ := laid wD (List.replicate n (.int .u64 0)).toArray 25
      obtain ⟨gw, hg1⟩ : ∃ gw, wD.heap.size = gw := ⟨_, rfl⟩
      have HLW : Hid (V1.heap.size ≤ gw) := hid (by rw [← hg1]; exact HBD.out.size)
      have hmk1 := make_words wD n (by omega)
      rw [hw1, hg1] at hmk1
      rw [hg1] at hl1 hs1
      have HC1 := hid hl1
      have HBW1 := hid (step HBD.out hb1)
      clear hb1 hl1 hs1
      go_wp2
      refine hR' _ _ ⟨⟨_, HBW1.out⟩, rfl⟩ ?_
      clear hR' hO R' hg1 hw1 hmk1
      refine wpMix3_h2 ?_ ?_
      · refine wpMix3_h rfl fun R' hR' hO => ?_
        obtain ⟨w2_, hw2, hb2, hs2, hl2⟩ := laid w1_ (List.replicate m (.bool false)).toArray 4
        obtain ⟨gl, hg2⟩ : ∃ gl, w1_.heap.size = gl := ⟨_, rfl⟩
        have HLL : Hid (V1.heap.size ≤ gl) := hid (by rw [← hg2]; exact HBW1.out.size)
        have hmk2 := make_bools w1_ m (by omega)
        rw [hw2, hg2] at hmk2
        rw [hg2] at hl2 hs2
        have HC2 := hid hl2
        have HK2W := hid (keep_laid HC1.out hb2)
        have HBW2 := hid (step HBW1.out hb2)
        clear hb2 hl2 hs2
        go_wp2
        refine hR' _ _ ⟨⟨_, HBW2.out⟩, rfl⟩ ?_
        clear hR' hO R' hg2 hw2 hmk2
        refine wpMix3_q rfl rfl ?_
        go_big_quiet_step (fail)
        refine wpQuiet_nil ?_
        refine wpMix3_h rfl fun R' hR' hO => ?_
        obtain ⟨w3_, hw3, hb3, hs3, hl3⟩ := laid w2_ #[.slice none 0 0, .slice none 0 0, .bool false] 38
        obtain ⟨Y, hg3⟩ : ∃ Y, w2_.heap.size = Y := ⟨_, rfl⟩
        have HLY : Hid (V1.heap.size ≤ Y) := hid (by rw [← hg3]; exact HBW2.out.size)
        rw [hg3] at hl3 hs3
        have HC3 := hid hl3
        have HK3W := hid (keep_laid HK2W.out hb3)
        have HK3L := hid (keep_laid HC2.out hb3)
        have HBW3 := hid (step HBW2.out hb3)
        clear hb3 hl3 hs3
        go_wp2
        refine hR' _ _ ⟨⟨_, HBW3.out⟩, rfl⟩ ?_
        clear hR' hO R' hg3 hw3
        refine wpMix3_done ?_
        simp only [List.drop_succ_cons, List.drop_zero]
        have f0 := free_laid (i := 0) HC3.out
        have f1 := free_laid (i := 1) HC3.out
        have f2 := free_laid (i := 2) HC3.out
        have c0 := cell_laid (i := 0) HC3.out rfl
        have c1 := cell_laid (i := 1) HC3.out rfl
        have c2 := cell_laid (i := 2) HC3.out rfl
        obtain ⟨w7, hw7, hy7, hk7, hb7, -⟩ := put_mem HC3.out (.slice (some ⟨gw, 0, none⟩) n n) (.slice (some ⟨gl, 0, none⟩) m m) (.bool F)
        have HF7 := hid (show w7.heap[Y]? = _ ∧ w7.heap[gw]? = _ ∧ w7.heap[gl]? = _ ∧ Below V1.heap.size V1 w7 from ⟨hy7, hk7 gw _ (type_ne HK3W.out HC3.out (by decide)) HK3W.out, hk7 gl _ (type_ne HK3L.out HC3.out (by decide)) HK3L.out, hb7 _ _ HLY.out HBW3.out⟩)
        have HW7 := hid hw7
        clear hw7 hy7 hk7 hb7
        go_wp2
        go_meet
        rw [← HW7.out]
        exact ⟨Y, gw, gl, rfl, HF7.out.1, HF7.out.2.1, HF7.out.2.2.1, HLY.out, HLW.out, HLL.out, HF7.out.2.2.2⟩
      · refine wpMix3_h rfl fun R' hR' hO => ?_
        obtain ⟨w4_, hw4, hb4, hs4, hl4⟩ := laid w1_ #[.slice none 0 0, .slice none 0 0, .bool false] 38
        obtain ⟨Y, hg4⟩ : ∃ Y, w1_.heap.size = Y := ⟨_, rfl⟩
        have HLY : Hid (V1.heap.size ≤ Y) := hid (by rw [← hg4]; exact HBW1.out.size)
        rw [hg4] at hl4 hs4
        have HC4 := hid hl4
        have HK4W := hid (keep_laid HC1.out hb4)
        have HBW4 := hid (step HBW1.out hb4)
        clear hb4 hl4 hs4
        go_wp2
        refine hR' _ _ ⟨⟨_, HBW4.out⟩, rfl⟩ ?_
        clear hR' hO R' hg4 hw4
        refine wpMix3_h rfl fun R' hR' hO => ?_
        obtain ⟨w5_, hw5, hb5, hs5, hl5⟩ := laid w4_ (List.replicate m (.bool false)).toArray 4
        obtain ⟨gl, hg5⟩ : ∃ gl, w4_.heap.size = gl := ⟨_, rfl⟩
        have HLL : Hid (V1.heap.size ≤ gl) := hid (by rw [← hg5]; exact HBW4.out.size)
        have hmk5 := make_bools w4_ m (by omega)
        rw [hw5, hg5] at hmk5
        rw [hg5] at hl5 hs5
        have HC5 := hid hl5
        have HK5W := hid (keep_laid HK4W.out hb5)
        have HK5Y := hid (keep_laid HC4.out hb5)
        have HBW5 := hid (step HBW4.out hb5)
        clear hb5 hl5 hs5
        go_wp2
        refine hR' _ _ ⟨⟨_, HBW5.out⟩, rfl⟩ ?_
        clear hR' hO R' hg5 hw5 hmk5
        refine wpMix3_q rfl rfl ?_
        go_big_quiet_step (fail)
        refine wpQuiet_nil ?_
        refine wpMix3_done ?_
        simp only [List.drop_succ_cons, List.drop_zero]
        have f0 := free_laid (i := 0) HK5Y.out
        have f1 := free_laid (i := 1) HK5Y.out
        have f2 := free_laid (i := 2) HK5Y.out
        have c0 := cell_laid (i := 0) HK5Y.out rfl
        have c1 := cell_laid (i := 1) HK5Y.out rfl
        have c2 := cell_laid (i := 2) HK5Y.out rfl
        obtain ⟨w7, hw7, hy7, hk7, hb7, -⟩ := put_mem HK5Y.out (.slice (some ⟨gw, 0, none⟩) n n) (.slice (some ⟨gl, 0, none⟩) m m) (.bool F)
        have HF7 := hid (show w7.heap[Y]? = _ ∧ w7.heap[gw]? = _ ∧ w7.heap[gl]? = _ ∧ Below V1.heap.size V1 w7 from ⟨hy7, hk7 gw _ (type_ne HK5W.out HK5Y.out (by decide)) HK5W.out, hk7 gl _ (type_ne HC5.out HK5Y.out (by decide)) HC5.out, hb7 _ _ HLY.out HBW5.out⟩)
        have HW7 := hid hw7
        clear hw7 hy7 hk7 hb7
        go_wp2
        go_meet
        rw [← HW7.out]
        exact ⟨Y, gw, gl, rfl, HF7.out.1, HF7.out.2.1, HF7.out.2.2.1, HLY.out, HLW.out, HLL.out, HF7.out.2.2.2⟩
    · refine wpMix3_h rfl fun R' hR' hO => ?_
      obtain ⟨w6_, hw6, hb6, hs6, hl6⟩ := laid wD (List.replicate m (.bool false)).toArray 4
      obtain ⟨gl, hg6⟩ : ∃ gl, wD.heap.size = gl := ⟨_, rfl⟩
      have HLL : Hid (V1.heap.size ≤ gl) := hid (by rw [← hg6]; exact HBD.out.size)
      have hmk6 := make_bools wD m (by omega)
      rw [hw6, hg6] at hmk6
      rw [hg6] at hl6 hs6
      have HC6 := hid hl6
      have HBW6 := hid (step HBD.out hb6)
      clear hb6 hl6 hs6
      go_wp2
      refine hR' _ _ ⟨⟨_, HBW6.out⟩, rfl⟩ ?_
      clear hR' hO R' hg6 hw6 hmk6
      refine wpMix3_h2 ?_ ?_
      · refine wpMix3_h rfl fun R' hR' hO => ?_
        obtain ⟨w7_, hw7, hb7, hs7, hl7⟩ := laid w6_ (List.replicate n (.int .u64 0)).toArray 25
        obtain ⟨gw, hg7⟩ : ∃ gw, w6_.heap.size = gw := ⟨_, rfl⟩
        have HLW : Hid (V1.heap.size ≤ gw) := hid (by rw [← hg7]; exact HBW6.out.size)
        have hmk7 := make_words w6_ n (by omega)
        rw [hw7, hg7] at hmk7
        rw [hg7] at hl7 hs7
        have HC7 := hid hl7
        have HK7L := hid (keep_laid HC6.out hb7)
        have HBW7 := hid (step HBW6.out hb7)
        clear hb7 hl7 hs7
        go_wp2
        refine hR' _ _ ⟨⟨_, HBW7.out⟩, rfl⟩ ?_
        clear hR' hO R' hg7 hw7 hmk7
        refine wpMix3_q rfl rfl ?_
        go_big_quiet_step (fail)
        refine wpQuiet_nil ?_
        refine wpMix3_h rfl fun R' hR' hO => ?_
        obtain ⟨w8_, hw8, hb8, hs8, hl8⟩ := laid w7_ #[.slice none 0 0, .slice none 0 0, .bool false] 38
        obtain ⟨Y, hg8⟩ : ∃ Y, w7_.heap.size = Y := ⟨_, rfl⟩
        have HLY : Hid (V1.heap.size ≤ Y) := hid (by rw [← hg8]; exact HBW7.out.size)
        rw [hg8] at hl8 hs8
        have HC8 := hid hl8
        have HK8W := hid (keep_laid HC7.out hb8)
        have HK8L := hid (keep_laid HK7L.out hb8)
        have HBW8 := hid (step HBW7.out hb8)
        clear hb8 hl8 hs8
        go_wp2
        refine hR' _ _ ⟨⟨_, HBW8.out⟩, rfl⟩ ?_
        clear hR' hO R' hg8 hw8
        refine wpMix3_done ?_
        simp only [List.drop_succ_cons, List.drop_zero]
        have f0 := free_laid (i := 0) HC8.out
        have f1 := free_laid (i := 1) HC8.out
        have f2 := free_laid (i := 2) HC8.out
        have c0 := cell_laid (i := 0) HC8.out rfl
        have c1 := cell_laid (i := 1) HC8.out rfl
        have c2 := cell_laid (i := 2) HC8.out rfl
        obtain ⟨w7, hw7, hy7, hk7, hb7, -⟩ := put_mem HC8.out (.slice (some ⟨gw, 0, none⟩) n n) (.slice (some ⟨gl, 0, none⟩) m m) (.bool F)
        have HF7 := hid (show w7.heap[Y]? = _ ∧ w7.heap[gw]? = _ ∧ w7.heap[gl]? = _ ∧ Below V1.heap.size V1 w7 from ⟨hy7, hk7 gw _ (type_ne HK8W.out HC8.out (by decide)) HK8W.out, hk7 gl _ (type_ne HK8L.out HC8.out (by decide)) HK8L.out, hb7 _ _ HLY.out HBW8.out⟩)
        have HW7 := hid hw7
        clear hw7 hy7 hk7 hb7
        go_wp2
        go_meet
        rw [← HW7.out]
        exact ⟨Y, gw, gl, rfl, HF7.out.1, HF7.out.2.1, HF7.out.2.2.1, HLY.out, HLW.out, HLL.out, HF7.out.2.2.2⟩
      · refine wpMix3_h rfl fun R' hR' hO => ?_
        obtain ⟨w9_, hw9, hb9, hs9, hl9⟩ := laid w6_ #[.slice none 0 0, .slice none 0 0, .bool false] 38
        obtain ⟨Y, hg9⟩ : ∃ Y, w6_.heap.size = Y := ⟨_, rfl⟩
        have HLY : Hid (V1.heap.size ≤ Y) := hid (by rw [← hg9]; exact HBW6.out.size)
        rw [hg9] at hl9 hs9
        have HC9 := hid hl9
        have HK9L := hid (keep_laid HC6.out hb9)
        have HBW9 := hid (step HBW6.out hb9)
        clear hb9 hl9 hs9
        go_wp2
        refine hR' _ _ ⟨⟨_, HBW9.out⟩, rfl⟩ ?_
        clear hR' hO R' hg9 hw9
        refine wpMix3_h rfl fun R' hR' hO => ?_
        obtain ⟨w10_, hw10, hb10, hs10, hl10⟩ := laid w9_ (List.replicate n (.int .u64 0)).toArray 25
        obtain ⟨gw, hg10⟩ : ∃ gw, w9_.heap.size = gw := ⟨_, rfl⟩
        have HLW : Hid (V1.heap.size ≤ gw) := hid (by rw [← hg10]; exact HBW9.out.size)
        have hmk10 := make_words w9_ n (by omega)
        rw [hw10, hg10] at hmk10
        rw [hg10] at hl10 hs10
        have HC10 := hid hl10
        have HK10L := hid (keep_laid HK9L.out hb10)
        have HK10Y := hid (keep_laid HC9.out hb10)
        have HBW10 := hid (step HBW9.out hb10)
        clear hb10 hl10 hs10
        go_wp2
        refine hR' _ _ ⟨⟨_, HBW10.out⟩, rfl⟩ ?_
        clear hR' hO R' hg10 hw10 hmk10
        refine wpMix3_q rfl rfl ?_
        go_big_quiet_step (fail)
        refine wpQuiet_nil ?_
        refine wpMix3_done ?_
        simp only [List.drop_succ_cons, List.drop_zero]
        have f0 := free_laid (i := 0) HK10Y.out
        have f1 := free_laid (i := 1) HK10Y.out
        have f2 := free_laid (i := 2) HK10Y.out
        have c0 := cell_laid (i := 0) HK10Y.out rfl
        have c1 := cell_laid (i := 1) HK10Y.out rfl
        have c2 := cell_laid (i := 2) HK10Y.out rfl
        obtain ⟨w7, hw7, hy7, hk7, hb7, -⟩ := put_mem HK10Y.out (.slice (some ⟨gw, 0, none⟩) n n) (.slice (some ⟨gl, 0, none⟩) m m) (.bool F)
        have HF7 := hid (show w7.heap[Y]? = _ ∧ w7.heap[gw]? = _ ∧ w7.heap[gl]? = _ ∧ Below V1.heap.size V1 w7 from ⟨hy7, hk7 gw _ (type_ne HC10.out HK10Y.out (by decide)) HC10.out, hk7 gl _ (type_ne HK10L.out HK10Y.out (by decide)) HK10L.out, hb7 _ _ HLY.out HBW10.out⟩)
        have HW7 := hid hw7
        clear hw7 hy7 hk7 hb7
        go_wp2
        go_meet
        rw [← HW7.out]
        exact ⟨Y, gw, gl, rfl, HF7.out.1, HF7.out.2.1, HF7.out.2.2.1, HLY.out, HLW.out, HLL.out, HF7.out.2.2.2⟩
    · refine wpMix3_h rfl fun R' hR' hO => ?_
      obtain ⟨w11_, hw11, hb11, hs11, hl11⟩ := laid wD #[.slice none 0 0, .slice none 0 0, .bool false] 38
      obtain ⟨Y, hg11⟩ : ∃ Y, wD.heap.size = Y := ⟨_, rfl⟩
      have HLY : Hid (V1.heap.size ≤ Y) := hid (by rw [← hg11]; exact HBD.out.size)
      rw [hg11] at hl11 hs11
      have HC11 := hid hl11
      have HBW11 := hid (step HBD.out hb11)
      clear hb11 hl11 hs11
      go_wp2
      refine hR' _ _ ⟨⟨_, HBW11.out⟩, rfl⟩ ?_
      clear hR' hO R' hg11 hw11
      refine wpMix3_h2 ?_ ?_
      · refine wpMix3_h rfl fun R' hR' hO => ?_
        obtain ⟨w12_, hw12, hb12, hs12, hl12⟩ := laid w11_ (List.replicate n (.int .u64 0)).toArray 25
        obtain ⟨gw, hg12⟩ : ∃ gw, w11_.heap.size = gw := ⟨_, rfl⟩
        have HLW : Hid (V1.heap.size ≤ gw) := hid (by rw [← hg12]; exact HBW11.out.size)
        have hmk12 := make_words w11_ n (by omega)
        rw [hw12, hg12] at hmk12
        rw [hg12] at hl12 hs12
        have HC12 := hid hl12
        have HK12Y := hid (keep_laid HC11.out hb12)
        have HBW12 := hid (step HBW11.out hb12)
        clear hb12 hl12 hs12
        go_wp2
        refine hR' _ _ ⟨⟨_, HBW12.out⟩, rfl⟩ ?_
        clear hR' hO R' hg12 hw12 hmk12
        refine wpMix3_h rfl fun R' hR' hO => ?_
        obtain ⟨w13_, hw13, hb13, hs13, hl13⟩ := laid w12_ (List.replicate m (.bool false)).toArray 4
        obtain ⟨gl, hg13⟩ : ∃ gl, w12_.heap.size = gl := ⟨_, rfl⟩
        have HLL : Hid (V1.heap.size ≤ gl) := hid (by rw [← hg13]; exact HBW12.out.size)
        have hmk13 := make_bools w12_ m (by omega)
        rw [hw13, hg13] at hmk13
        rw [hg13] at hl13 hs13
        have HC13 := hid hl13
        have HK13W := hid (keep_laid HC12.out hb13)
        have HK13Y := hid (keep_laid HK12Y.out hb13)
        have HBW13 := hid (step HBW12.out hb13)
        clear hb13 hl13 hs13
        go_wp2
        refine hR' _ _ ⟨⟨_, HBW13.out⟩, rfl⟩ ?_
        clear hR' hO R' hg13 hw13 hmk13
        refine wpMix3_q rfl rfl ?_
        go_big_quiet_step (fail)
        refine wpQuiet_nil ?_
        refine wpMix3_done ?_
        simp only [List.drop_succ_cons, List.drop_zero]
        have f0 := free_laid (i := 0) HK13Y.out
        have f1 := free_laid (i := 1) HK13Y.out
        have f2 := free_laid (i := 2) HK13Y.out
        have c0 := cell_laid (i := 0) HK13Y.out rfl
        have c1 := cell_laid (i := 1) HK13Y.out rfl
        have c2 := cell_laid (i := 2) HK13Y.out rfl
        obtain ⟨w7, hw7, hy7, hk7, hb7, -⟩ := put_mem HK13Y.out (.slice (some ⟨gw, 0, none⟩) n n) (.slice (some ⟨gl, 0, none⟩) m m) (.bool F)
        have HF7 := hid (show w7.heap[Y]? = _ ∧ w7.heap[gw]? = _ ∧ w7.heap[gl]? = _ ∧ Below V1.heap.size V1 w7 from ⟨hy7, hk7 gw _ (type_ne HK13W.out HK13Y.out (by decide)) HK13W.out, hk7 gl _ (type_ne HC13.out HK13Y.out (by decide)) HC13.out, hb7 _ _ HLY.out HBW13.out⟩)
        have HW7 := hid hw7
        clear hw7 hy7 hk7 hb7
        go_wp2
        go_meet
        rw [← HW7.out]
        exact ⟨Y, gw, gl, rfl, HF7.out.1, HF7.out.2.1, HF7.out.2.2.1, HLY.out, HLW.out, HLL.out, HF7.out.2.2.2⟩
      · refine wpMix3_h rfl fun R' hR' hO => ?_
        obtain ⟨w14_, hw14, hb14, hs14, hl14⟩ := laid w11_ (List.replicate m (.bool false)).toArray 4
        obtain ⟨gl, hg14⟩ : ∃ gl, w11_.heap.size = gl := ⟨_, rfl⟩
        have HLL : Hid (V1.heap.size ≤ gl) := hid (by rw [← hg14]; exact HBW11.out.size)
        have hmk14 := make_bools w11_ m (by omega)
        rw [hw14, hg14] at hmk14
        rw [hg14] at hl14 hs14
        have HC14 := hid hl14
        have HK14Y := hid (keep_laid HC11.out hb14)
        have HBW14 := hid (step HBW11.out hb14)
        clear hb14 hl14 hs14
        go_wp2
        refine hR' _ _ ⟨⟨_, HBW14.out⟩, rfl⟩ ?_
        clear hR' hO R' hg14 hw14 hmk14
        refine wpMix3_h rfl fun R' hR' hO => ?_
        obtain ⟨w15_, hw15, hb15, hs15, hl15⟩ := laid w14_ (List.replicate n (.int .u64 0)).toArray 25
        obtain ⟨gw, hg15⟩ : ∃ gw, w14_.heap.size = gw := ⟨_, rfl⟩
        have HLW : Hid (V1.heap.size ≤ gw) := hid (by rw [← hg15]; exact HBW14.out.size)
        have hmk15 := make_words w14_ n (by omega)
        rw [hw15, hg15] at hmk15
        rw [hg15] at hl15 hs15
        have HC15 := hid hl15
        have HK15L := hid (keep_laid HC14.out hb15)
        have HK15Y := hid (keep_laid HK14Y.out hb15)
        have HBW15 := hid (step HBW14.out hb15)
        clear hb15 hl15 hs15
        go_wp2
        refine hR' _ _ ⟨⟨_, HBW15.out⟩, rfl⟩ ?_
        clear hR' hO R' hg15 hw15 hmk15
        refine wpMix3_q rfl rfl ?_
        go_big_quiet_step (fail)
        refine wpQuiet_nil ?_
        refine wpMix3_done ?_
        simp only [List.drop_succ_cons, List.drop_zero]
        have f0 := free_laid (i := 0) HK15Y.out
        have f1 := free_laid (i := 1) HK15Y.out
        have f2 := free_laid (i := 2) HK15Y.out
        have c0 := cell_laid (i := 0) HK15Y.out rfl
        have c1 := cell_laid (i := 1) HK15Y.out rfl
        have c2 := cell_laid (i := 2) HK15Y.out rfl
        obtain ⟨w7, hw7, hy7, hk7, hb7, -⟩ := put_mem HK15Y.out (.slice (some ⟨gw, 0, none⟩) n n) (.slice (some ⟨gl, 0, none⟩) m m) (.bool F)
        have HF7 := hid (show w7.heap[Y]? = _ ∧ w7.heap[gw]? = _ ∧ w7.heap[gl]? = _ ∧ Below V1.heap.size V1 w7 from ⟨hy7, hk7 gw _ (type_ne HC15.out HK15Y.out (by decide)) HC15.out, hk7 gl _ (type_ne HK15L.out HK15Y.out (by decide)) HK15L.out, hb7 _ _ HLY.out HBW15.out⟩)
        have HW7 := hid hw7
        clear hw7 hy7 hk7 hb7
        go_wp2
        go_meet
        rw [← HW7.out]
        exact ⟨Y, gw, gl, rfl, HF7.out.1, HF7.out.2.1, HF7.out.2.2.1, HLY.out, HLW.out, HLL.out, HF7.out.2.2.2⟩
  case rest =>
    obtain ⟨Y, gw, gl, rfl, hy, hw, hg, hlY, hlW, hlL, hb⟩ := hcut
    obtain ⟨V2, hV2⟩ : ∃ V2, V2 = wc := ⟨_, rfl⟩
    subst hV2
    have HY := hid hy
    have HW := hid hw
    have HG := hid hg
    have HB2 := hid hb
    have HXB2 := hid (keep_laid HXB.out hb)
    have HM2 := hid (HM.out.grow hb)
    have HWY : Hid (gw ≠ Y) := hid (type_ne hw hy (by decide))
    have HGY : Hid (gl ≠ Y) := hid (type_ne hg hy (by decide))
    have HWG : Hid (gw ≠ gl) := hid (type_ne hw hg (by decide))
    have hXY : X ≠ Y := by have := lt_laid HXB.out; omega
    have hXW : X ≠ gw := by have := lt_laid HXB.out; omega
    have hXG : X ≠ gl := by have := lt_laid HXB.out; omega
    obtain ⟨y0, y1, y2⟩ := cells3 hy
    obtain ⟨c0, c1, c2⟩ := cells3 HXB2.out
    clear hy hw hg hb x0 x1 x2 hXY hXW hXG
    have HLW2 := HM2.out.w
    rw [HN.out] at HLW2
    have HLWH := hid HLW2
    clear HLW2
    go_wp2_with ((with_reducible show wpList _ _ _ _ _ _); refine wp_copyK rfl (.tmp 16) (.tmp 18) 22 22 rfl 25 Tryd.underlying22 (by kernel_rfl) _ _ n n n wc rfl rfl gw 0 (List.replicate n (.int .u64 0)) 25 HW.out (wcells M.W) ?c1 ?c2 ?c3 ?c4 ?c5)
    case c1 => rw [wcells_len, HN.out]; exact (Nat.min_self n).symm
    case c2 =>
      intro hp
      obtain ⟨-, -, ⟨h0, -⟩ | ⟨b, off, rfl, -, hc⟩⟩ := HLWH.out
      · rw [wcells_len, HN.out] at hp; omega
      · exact ⟨_, rfl, fun j v hj => cell_add (hc j v hj)⟩
    case c3 => rw [wcells_len, HN.out]; simp
    case c4 => exact wcells_one _
    case c5 =>
    intro V3 h3
    obtain ⟨hg3, hk3, hb3⟩ := h3.out
    rw [splice_whole _ _ (by rw [wcells_len, HN.out]; simp)] at hg3
    have HW3 := hid hg3
    have HY3 := hid ((hk3 Y (Ne.symm HWY.out)).trans HY.out)
    have HG3 := hid ((hk3 gl (Ne.symm HWG.out)).trans HG.out)
    have HB3 := hid (hb3 V1.heap.size V1 hlW HB2.out)
    obtain ⟨y0, y1, y2⟩ := cells3 HY3.out
    obtain ⟨c0, c1, c2⟩ := cells3 (keep_laid HXB.out HB3.out)
    have HLL3 := (HM.out.grow HB3.out).l
    rw [HMM.out] at HLL3
    have HLLH := hid HLL3
    clear HLL3 hg3 hk3 hb3
    go_wp2_with ((with_reducible show wpList _ _ _ _ _ _); refine wp_copyK rfl (.tmp 21) (.tmp 23) 36 36 rfl 4 Tryd.underlying36 (by kernel_rfl) _ _ m m m lc rfl rfl gl 0 (List.replicate m (.bool false)) 4 HG3.out (bcells M.L) ?d1 ?d2 ?d3 ?d4 ?d5)
    case d1 => rw [bcells_len, HMM.out]; exact (Nat.min_self m).symm
    case d2 =>
      intro hp
      obtain ⟨-, -, ⟨h0, -⟩ | ⟨b, off, rfl, -, hc⟩⟩ := HLLH.out
      · rw [bcells_len, HMM.out] at hp; omega
      · exact ⟨_, rfl, fun j v hj => cell_add (hc j v hj)⟩
    case d3 => rw [bcells_len, HMM.out]; simp
    case d4 => exact bcells_one _
    case d5 =>
    intro V4 h4
    obtain ⟨hg4, hk4, hb4⟩ := h4.out
    rw [splice_whole _ _ (by rw [bcells_len, HMM.out]; simp)] at hg4
    have HG4 := hid hg4
    have HY4 := hid ((hk4 Y (Ne.symm HGY.out)).trans HY3.out)
    have HW4 := hid ((hk4 gw HWG.out).trans HW3.out)
    have HB4 := hid (hb4 V1.heap.size V1 hlL HB3.out)
    have HZ4 := hid (keep_laid HZB.out HB4.out)
    obtain ⟨y0, y1, y2⟩ := cells3 HY4.out
    have f0 := free_laid (i := 0) HZ4.out
    have f1 := free_laid (i := 1) HZ4.out
    have f2 := free_laid (i := 2) HZ4.out
    obtain ⟨z0, z1, z2⟩ := cells3 HZ4.out
    have hMO : MemO V.heap.size (some ⟨gw, 0, none⟩) n (some ⟨gl, 0, none⟩) m M V4 := by
      have hVV := HB1.out.size
      refine ⟨?_, ?_⟩
      · rw [HN.out]
        refine ⟨by rw [wcells_len, HN.out]; omega, .inr ⟨gw, n, _, rfl, by omega, HW4.out, Nat.le_refl _, by unfold maxLen; omega, by simp [wcells_len, HN.out], ?_⟩⟩
        rw [List.take_of_length_le (by simp [wcells_len, HN.out])]
      · rw [HMM.out]
        refine ⟨by rw [bcells_len, HMM.out]; omega, .inr ⟨gl, m, _, rfl, by omega, HG4.out, Nat.le_refl _, by unfold maxLen; omega, by simp [bcells_len, HMM.out], ?_⟩⟩
        rw [List.take_of_length_le (by simp [bcells_len, HMM.out])]
    obtain ⟨V5, hV5, hz5, hk5, hb5, hm5⟩ := put_mem HZ4.out (.slice (some ⟨gw, 0, none⟩) n n) (.slice (some ⟨gl, 0, none⟩) m m) (.bool F)
    have HM5 := hid (hm5 _ _ _ _ _ _ hMO)
    have HB5 := hid (hb5 _ _ HZX.out ((HB1.out.trans (HB4.out.mono HB1.out.size))))
    have HZ5 := hid hz5
    have HV5 := hid hV5
    clear hg4 hk4 hb4 hMO hV5 hz5 hk5 hb5 hm5
    go_wp2
    rw [← HV5.out]
    refine bodyPost_ret (memown_result HZ5.out rfl) rfl ?_
    exact ⟨_, _, _, _, rfl, HM5.out, HB5.out⟩
end Go.Proofs.YtahicokokfcieaaDoor
namespace Go.Proofs.YtahicokokfcieaaDoor
open Go.RowKit
open Go.Proofs
set_option linter.unusedVariables false

def liveAt (M : Mem) (at_ : Int) : Bool := decide (0 ≤ at_) && (M.L[at_.toNat]?).getD false
/-- A load, or a store: the memory, what the word held, whether it was done. -/
def stepM (M : Mem) (st : Bool) (at_ : Int) (new : Nat) : Mem × Nat × Bool :=
  if liveAt M at_ = true then (if st = true then ⟨M.W.set at_.toNat new, M.L, M.F⟩ else M, M.W.getD at_.toNat 0, true) else (⟨M.W, M.L, true⟩, 0, false)
def GivesG (M : Mem) (v : Nat) (d : Bool) (w : World) (e : Ending) (W : World) : Prop := ∃ wa wc la lc, e = .returned (.tuple #[memV wa wc la lc M, .agg #[.int .u64 ((v : Nat) : Int), .bool d], .int .i64 0]) ∧ MemO w.heap.size wa wc la lc M W ∧ Below w.heap.size w W
theorem step_result {W : World} {b c : Nat} {v0 v1 v2 u0 u1 s : Value} {tmps : Array Value} (h : W.heap[b]? = some (.cells #[v0, v1, v2] 38 (0, 0))) (h' : W.heap[c]? = some (.cells #[u0, u1] 127 (0, 0))) (hp : tmps[4]?.getD undef = .pointer (some ⟨b, 0, none⟩)) (hq : tmps[5]?.getD undef = .pointer (some ⟨c, 0, none⟩)) (hs : tmps[6]?.getD undef = s) :
    (results Tryd.f67 tmps).run Tryd.prog W = .ok (.tuple #[.agg #[v0, v1, v2], .agg #[u0, u1], s]) W := by
  have h0 := cell_laid (i := 0) (v := v0) h rfl
  have h1 := cell_laid (i := 1) (v := v1) h rfl
  have h2 := cell_laid (i := 2) (v := v2) h rfl
  have g0 := cell_laid (i := 0) (v := u0) h' rfl
  have g1 := cell_laid (i := 1) (v := u1) h' rfl
  simp [results, Tryd.results67, go_sem, hp, hq, hs, h0, h1, h2, g0, g1]
theorem acc_load (a b c d p : Value) (V : World) : Calls Tryd.prog 90 #[.agg #[a, b, c, d], p] V (Ret (.bool true) V) := by
  obtain ⟨V1, hV1, hb1, hs1, hl1⟩ := laid V #[a, b, c, d] 155
  go_enter Tryd.func90, Tryd.ntmps90
  go_wp2
  go_ret
  exact ⟨rfl, hb1⟩
theorem acc_store (a b c : Value) (g k x y : Nat) (V : World) (h : V.cell? ⟨g, k, none⟩ = some (.int .u64 ((y : Nat) : Int))) (hf : V.frozen? ⟨g, k, none⟩ = false) (hg : g < V.heap.size) :
    Calls Tryd.prog 91 #[.agg #[a, b, c, .int .u64 ((x : Nat) : Int)], .pointer (some ⟨g, k, none⟩)] V (fun e W => e = .returned (.bool true) ∧ ∃ V', Below V.heap.size V V' ∧ W = V'.setCell ⟨g, k, none⟩ (.int .u64 ((x : Nat) : Int))) := by
  obtain ⟨V1, hV1, hb1, hs1, hl1⟩ := laid V #[a, b, c, .int .u64 ((x : Nat) : Int)] 155
  obtain ⟨X, hX⟩ : ∃ X, V.heap.size = X := ⟨_, rfl⟩
  rw [hX] at hl1
  have c3 := cell_laid (i := 3) hl1 rfl
  have e1 : V1.cell? ⟨g, k, none⟩ = some (.int .u64 ((y : Nat) : Int)) := (hb1.cell (p := ⟨g, k, none⟩) hg).trans h
  have e2 : V1.frozen? ⟨g, k, none⟩ = false := by
    have := hb1.block g hg
    unfold World.frozen? at hf ⊢
    rw [this]
    exact hf
  have HB1 := hid hb1
  clear h hf hl1 hs1 hb1
  go_enter Tryd.func91, Tryd.ntmps91
  go_wp2
  go_ret
  exact ⟨rfl, V1, HB1.out, rfl⟩
theorem does_result {W : World} {b : Nat} {v0 v1 v2 v3 : Value} {tmps : Array Value} (h : W.heap[b]? = some (.cells #[v0, v1, v2, v3] 152 (0, 0))) (hp : tmps[0]?.getD undef = .pointer (some ⟨b, 0, none⟩)) :
    (results Tryd.f81 tmps).run Tryd.prog W = .ok (.agg #[v0, v1, v2, v3]) W := by
  have h0 := cell_laid (i := 0) (v := v0) h rfl
  have h1 := cell_laid (i := 1) (v := v1) h rfl
  have h2 := cell_laid (i := 2) (v := v2) h rfl
  have h3 := cell_laid (i := 3) (v := v3) h rfl
  simp [results, Tryd.results81, go_sem, hp, h0, h1, h2, h3]
end Go.Proofs.YtahicokokfcieaaDoor
namespace Go.Proofs.YtahicokokfcieaaDoor
open Go.RowKit
open Go.Proofs
set_option linter.unusedVariables false

theorem does_any (V : World) : Calls Tryd.prog 81 #[] V (fun e W => ∃ z, e = .returned (.agg #[z, .func (.func 90) #[] #[], .func (.func 91) #[] #[], .func (.func 92) #[] #[]]) ∧ Below V.heap.size V W) := by
  obtain ⟨V1, hV1, hb1, hs1, hl1⟩ := laid V #[.nilFunc, .nilFunc, .nilFunc, .nilFunc] 152
  obtain ⟨Y, hY⟩ : ∃ Y, V.heap.size = Y := ⟨_, rfl⟩
  have hYY : V.heap.size ≤ Y := by omega
  rw [hY] at hl1
  obtain ⟨V2, hV2, hl2, -, hb2⟩ := put4 hl1 .nilFunc (.func (.func 90) #[] #[]) (.func (.func 91) #[] #[]) (.func (.func 92) #[] #[])
  have HL2 := hid hl2
  have HB2 := hid (hb2 _ _ hYY hb1)
  have f0 := free_laid (i := 0) hl1
  have f1 := free_laid (i := 1) hl1
  have f2 := free_laid (i := 2) hl1
  have f3 := free_laid (i := 3) hl1
  have c0 := cell_laid (i := 0) hl1 rfl
  have c1 := cell_laid (i := 1) hl1 rfl
  have c2 := cell_laid (i := 2) hl1 rfl
  have c3 := cell_laid (i := 3) hl1 rfl
  have HV2 := hid hV2
  clear hl1 hs1 hl2 hb2 hV2 hb1 hYY
  go_enter Tryd.func81, Tryd.ntmps81
  go_wp2
  rw [← HV2.out]
  refine bodyPost_ret (does_result HL2.out rfl) rfl ?_
  exact ⟨_, rfl, HB2.out⟩
end Go.Proofs.YtahicokokfcieaaDoor
