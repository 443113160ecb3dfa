/- Memories: own. -/
import Derived.Test.YtipohagcppfgiaaGreatMem1
namespace Go.Proofs.YtipohagcppfgiaaGreat
open Go.RowKit
open Go.Proofs
set_option linter.unusedVariables false
theorem elemWords : Elem Tryz.prog 22 26 1 8 := Elem.mk' (z := .int .u64 0) Tryz.underlying22 (by kernel_rfl) rfl (by decide) (by decide)
theorem elemBools : Elem Tryz.prog 23 4 1 1 := Elem.mk' (z := .bool false) Tryz.underlying23 (by kernel_rfl) rfl (by decide) (by decide)
theorem made_one (z : Value) (n : Nat) : madeCells #[z] n = (List.replicate n z).toArray := by
 apply Array.ext
 ·simp [size_madeCells]
 ·intro j h1 h2
  have := size_madeCells #[z] n
  have e : j % 1 = 0 := Nat.mod_one j
  simp [madeCells, e]
theorem make_words (w : World) (n : Nat) (hn : n ≤ 100000) : (Instr.makeSlice 22 (.int .i64 n) (.int .i64 n)).run Tryz.prog w = .ok (.slice (some ⟨w.heap.size, 0, none⟩) n n) (w.alloc (.cells (List.replicate n (.int .u64 0)).toArray 26)) := by
 obtain ⟨i, z, hi, hz, h2, h3, h4⟩ := elemWords.info
 have hz0 : (Tryz.prog.info? 26).map (fun i => i.zero) = some (some (.int .u64 0)) := by kernel_rfl
 rw [hi] at hz0
 have e : i.zero = some (.int .u64 0) := Option.some.inj hz0
 have hr := run_make (P := Tryz.prog) w 22 26 i _ Tryz.underlying22 hi e .i64 .i64 (n : Int) (n : Int) (by omega) (by omega) (by rw [h3]; omega) (by omega)
 rw [hr, h2, Int.toNat_natCast, Nat.mul_one]
 show _ = Result.ok _ (w.alloc (.cells (List.replicate n (.int .u64 0)).toArray 26))
 rw [← made_one]
 rfl
theorem make_bools (w : World) (n : Nat) (hn : n ≤ 100000) : (Instr.makeSlice 23 (.int .i64 n) (.int .i64 n)).run Tryz.prog w = .ok (.slice (some ⟨w.heap.size, 0, none⟩) n n) (w.alloc (.cells (List.replicate n (.bool false)).toArray 4)) := by
 obtain ⟨i, z, hi, hz, h2, h3, h4⟩ := elemBools.info
 have hz0 : (Tryz.prog.info? 4).map (fun i => i.zero) = some (some (.bool false)) := by kernel_rfl
 rw [hi] at hz0
 have e : i.zero = some (.bool false) := Option.some.inj hz0
 have hr := run_make (P := Tryz.prog) w 23 4 i _ Tryz.underlying23 hi e .i64 .i64 (n : Int) (n : Int) (by omega) (by omega) (by rw [h3]; omega) (by omega)
 rw [hr, h2, Int.toNat_natCast, Nat.mul_one]
 show _ = Result.ok _ (w.alloc (.cells (List.replicate n (.bool false)).toArray 4))
 rw [← made_one]
 rfl
/-- A memory's rows, of its own. -/
structure MemO (base : Nat) (wa : Option Addr) (wc : Nat) (la : Option Addr) (lc : Nat) (M : Mem) (V : World) : Prop where
 w : V.ownsRow base 26 1 (.slice wa M.W.length wc) M.W.length (wcells M.W)
 l : V.ownsRow base 4 1 (.slice la M.L.length lc) M.L.length (bcells M.L)
theorem MemO.grow {base : Nat} {wa la : Option Addr} {wc lc : Nat} {M : Mem} {V V' : World} (h : MemO base wa wc la lc M V) (hb : Below V.heap.size V V') : MemO base wa wc la lc M V' := ⟨ogr h.w hb, ogr h.l hb⟩
theorem MemO.memL {base : Nat} {wa la : Option Addr} {wc lc : Nat} {M : Mem} {V : World} (h : MemO base wa wc la lc M V) : MemL V wa wc la lc M := ⟨Leads.of_own1 h.w, Leads.of_own1 h.l⟩
theorem MemO.set {base Z i : Nat} {wa la : Option Addr} {wc lc : Nat} {M : Mem} {V : World} {cur : Array Value} {e : TypeId} (h : MemO base wa wc la lc M V) (hZ : V.heap[Z]? = some (.cells cur e (0, 0))) (h1 : 26 ≠ e) (h2 : 4 ≠ e) (v : Value) : MemO base wa wc la lc M (V.setCell ⟨Z, i, none⟩ v) := by
 refine ⟨okp h.w (fun k o hk hh => ?_), okp h.l (fun k o hk hh => ?_)⟩
 ·obtain ⟨cur', hc⟩ := own_type h.w k hk
  exact olD hh (tyN hc hZ h1) _
 ·obtain ⟨cur', hc⟩ := own_type h.l k hk
  exact olD hh (tyN hc hZ h2) _
/-- A call gives a memory of its own. -/
def GivesM (M : Mem) (w : World) (e : Ending) (W : World) : Prop := ∃ wa wc la lc, e = .returned (memV wa wc la lc M) ∧ MemO w.heap.size wa wc la lc M W ∧ Below w.heap.size w W
/-- A memory is put into a variable that holds none. -/
theorem put_mem {V : World} {Y : Nat} {z0 z1 z2 : Value} (h : V.heap[Y]? = some (.cells #[z0, z1, z2] 25 (0, 0))) (v0 v1 v2 : Value) :
  ∃ V', V' = ((V.setCell ⟨Y, 0, none⟩ v0).setCell ⟨Y, 1, none⟩ v1).setCell ⟨Y, 2, none⟩ v2 ∧ V'.heap[Y]? = some (.cells #[v0, v1, v2] 25 (0, 0)) ∧
   (∀ (k : Nat) (o : Obj), k ≠ Y → V.heap[k]? = some o → V'.heap[k]? = some o) ∧ (∀ (B : Nat) (w : World), B ≤ Y → Below B w V → Below B w V') ∧
   ∀ (base : Nat) (wa : Option Addr) (wc : Nat) (la : Option Addr) (lc : Nat) (M : Mem), MemO base wa wc la lc M V → MemO base wa wc la lc M V' := by
 have h0 := slD (i := 0) h v0
 have h1 := slD (i := 1) h0 v1
 refine ⟨_, rfl, slD (i := 2) h1 v2, fun k o hk ho => olD (olD (olD ho hk _) hk _) hk _, fun B w hB hb => ((hb.setCell hB _).setCell hB _).setCell hB _,
  fun base wa wc la lc M hm => ((hm.set h (by decide) (by decide) v0).set h0 (by decide) (by decide) v1).set h1 (by decide) (by decide) v2⟩
theorem cells3 {W : World} {Y : Nat} {v0 v1 v2 : Value} {T : TypeId} (h : W.heap[Y]? = some (.cells #[v0, v1, v2] T (0, 0))) : W.cell? ⟨Y, 0, none⟩ = some v0 ∧ W.cell? ⟨Y, 1, none⟩ = some v1 ∧ W.cell? ⟨Y, 2, none⟩ = some v2 := ⟨clD h rfl, clD h rfl, clD h rfl⟩
theorem memown_result {W : World} {b : Nat} {v0 v1 v2 : Value} {tmps : Array Value} (h : W.heap[b]? = some (.cells #[v0, v1, v2] 25 (0, 0))) (hp : tmps[2]?.getD undef = .pointer (some ⟨b, 0, none⟩)) :
  (results Tryz.f101 tmps).run Tryz.prog W = .ok (.agg #[v0, v1, v2]) W := by
 have h0 := clD (i := 0) (v := v0) h rfl
 have h1 := clD (i := 1) (v := v1) h rfl
 have h2 := clD (i := 2) (v := v2) h rfl
 simp [results, Tryz.results101, go_sem, hp, h0, h1, h2]
theorem splice_whole {α : Type} (L cs : List α) (h : L.length = cs.length) : splice L 0 cs = cs := by unfold splice; simp [h]
set_option maxRecDepth 100000 in
set_option maxHeartbeats 4000000 in
theorem memown_any (M : Mem) (wa la : Option Addr) (wc lc : Nat) (V : World) (h : MemL V wa wc la lc M) (hW : M.W.length ≤ 5000) (hL : M.L.length ≤ 5000) :
  Calls Tryz.prog 101 #[memV wa wc la lc M] V (GivesM M V) := by
 obtain ⟨V0, hV0, hb0, hs0, hl0⟩ := laid V #[.slice wa M.W.length wc, .slice la M.L.length lc, .bool M.F] 25
 obtain ⟨V1, hV1, hb1, hs1, hl1⟩ := laid V0 #[.slice none 0 0, .slice none 0 0, .bool false] 25
 obtain ⟨X, hX⟩ := nm (V.heap.size)
 obtain ⟨Z, hZ⟩ := nm (V0.heap.size)
 rw [hX] at hl0
 rw [hZ] at hl1
 have HXB := hid (klD hl0 hb1)
 have HZB := hid hl1
 have HB1 := hid (step hb0 hb1)
 have HZX : Hid (V.heap.size ≤ Z) := hid (by rw [← hZ]; exact hb0.size)
 have HM := hid (h.grow HB1.out)
 have hwl := h.w.len
 have hll := h.l.len
 unfold GivesM memV
 obtain ⟨F, hF⟩ := nm (M.F)
 obtain ⟨n, hn⟩ := nm (M.W.length)
 obtain ⟨m, hm⟩ := nm (M.L.length)
 rw [hn] at hV0 HXB hwl hW
 rw [hm] at hV0 HXB hll hL
 rw [hF] at hV0 HXB
 rw [hn, hm, hF]
 have HN := hid hn
 have HMM := hid hm
 have HF := hid hF
 have x0 : ∀ z : Ext V1, z.v.cell? ⟨X, 0, none⟩ = some (.slice wa n wc) := fun z => (cells3 (klD HXB.out z.b)).1
 have x1 : ∀ z : Ext V1, z.v.cell? ⟨X, 1, none⟩ = some (.slice la m lc) := fun z => (cells3 (klD HXB.out z.b)).2.1
 have x2 : ∀ z : Ext V1, z.v.cell? ⟨X, 2, none⟩ = some (.bool F) := fun z => (cells3 (klD HXB.out z.b)).2.2
 clear h hs0 hs1 hb0 hb1 hl0 hl1 hn hm hF
 go_enter Tryz.func101, Tryz.ntmps101
 go_upto_region 1 with (fail)
 go_cut [3] (fun t3 V2 => ∃ Y gw gl : Nat, t3 = .pointer (some ⟨Y, 0, none⟩) ∧ V2.heap[Y]? = some (.cells #[.slice (some ⟨gw, 0, none⟩) n n, .slice (some ⟨gl, 0, none⟩) m m, .bool F] 25 (0, 0)) ∧ V2.heap[gw]? = some (.cells (List.replicate n (.int .u64 0)).toArray 26 (0, 0)) ∧ V2.heap[gl]? = some (.cells (List.replicate m (.bool false)).toArray 4 (0, 0)) ∧ V1.heap.size ≤ Y ∧ V1.heap.size ≤ gw ∧ V1.heap.size ≤ gl ∧ Below V1.heap.size V1 V2)
 case first =>
  refine rgm3 (fun W => ∃ z : Ext V1, W = z.v) 12 (.q 0 (.q 1 (.q 2 (.q 4 (.q 5 (.q 6 (.q 8 (.q 9 (.h3 3 (.h2 7 (.q 10 (.h 11 (.done))) 11 (.h 7 (.q 10 (.done)))) 7 (.h2 3 (.q 10 (.h 11 (.done))) 11 (.h 3 (.q 10 (.done)))) 11 (.h2 3 (.h 7 (.q 10 (.done))) 7 (.h 3 (.q 10 (.done))))))))))))) (by kernel_rfl) (by kernel_rfl) ⟨⟨_, (Below.refl _ _).drew⟩, rfl⟩ ?_
  repeat (refine m3q rfl rfl ?_; go_big_quiet_step (fail); refine wpQuiet_nil ?_)
  obtain ⟨wD, hwD⟩ := nm (V1.drew)
  have HBD : Hid (Below V1.heap.size V1 wD) := hid (by rw [← hwD]; exact (Below.refl _ _).drew)
  rw [hwD]
  clear hwD x0 x1 x2
  refine wpMix3_h3 ?_ ?_ ?_
  ·refine m3h rfl fun R' hR' hO => ?_
   obtain ⟨w1_, hw1, hb1, hs1, hl1⟩ := laid wD (List.replicate n (.int .u64 0)).toArray 26
   obtain ⟨gw, hg1⟩ := nm (wD.heap.size)
   have HLW : Hid (V1.heap.size ≤ gw) := hid (by rw [← hg1]; exact HBD.out.size)
   have hmk1 := make_words wD n (by omega)
   rw [hw1, hg1] at hmk1
   rw [hg1] at hl1 hs1
   have HC1 := hid hl1
   have HBW1 := hid (step HBD.out hb1)
   clear hb1 hl1 hs1
   go_wp2
   refine hR' _ _ ⟨⟨_, HBW1.out⟩, rfl⟩ ?_
   clear hR' hO R' hg1 hw1 hmk1
   refine wpMix3_h2 ?_ ?_
   ·refine m3h rfl fun R' hR' hO => ?_
    obtain ⟨w2_, hw2, hb2, hs2, hl2⟩ := laid w1_ (List.replicate m (.bool false)).toArray 4
    obtain ⟨gl, hg2⟩ := nm (w1_.heap.size)
    have HLL : Hid (V1.heap.size ≤ gl) := hid (by rw [← hg2]; exact HBW1.out.size)
    have hmk2 := make_bools w1_ m (by omega)
    rw [hw2, hg2] at hmk2
    rw [hg2] at hl2 hs2
    have HC2 := hid hl2
    have HK2W := hid (klD HC1.out hb2)
    have HBW2 := hid (step HBW1.out hb2)
    clear hb2 hl2 hs2
    go_wp2
    refine hR' _ _ ⟨⟨_, HBW2.out⟩, rfl⟩ ?_
    clear hR' hO R' hg2 hw2 hmk2
    refine m3q rfl rfl ?_
    go_big_quiet_step (fail)
    refine wpQuiet_nil ?_
    refine m3h rfl fun R' hR' hO => ?_
    obtain ⟨w3_, hw3, hb3, hs3, hl3⟩ := laid w2_ #[.slice none 0 0, .slice none 0 0, .bool false] 25
    obtain ⟨Y, hg3⟩ := nm (w2_.heap.size)
    have HLY : Hid (V1.heap.size ≤ Y) := hid (by rw [← hg3]; exact HBW2.out.size)
    rw [hg3] at hl3 hs3
    have HC3 := hid hl3
    have HK3W := hid (klD HK2W.out hb3)
    have HK3L := hid (klD HC2.out hb3)
    have HBW3 := hid (step HBW2.out hb3)
    clear hb3 hl3 hs3
    go_wp2
    refine hR' _ _ ⟨⟨_, HBW3.out⟩, rfl⟩ ?_
    clear hR' hO R' hg3 hw3
    refine m3d ?_
    simp only [List.drop_succ_cons, List.drop_zero]
    have f0 := flD (i := 0) HC3.out
    have f1 := flD (i := 1) HC3.out
    have f2 := flD (i := 2) HC3.out
    have c0 := clD (i := 0) HC3.out rfl
    have c1 := clD (i := 1) HC3.out rfl
    have c2 := clD (i := 2) HC3.out rfl
    obtain ⟨w7, hw7, hy7, hk7, hb7, -⟩ := put_mem HC3.out (.slice (some ⟨gw, 0, none⟩) n n) (.slice (some ⟨gl, 0, none⟩) m m) (.bool F)
    have HF7 := hid (show w7.heap[Y]? = _ ∧ w7.heap[gw]? = _ ∧ w7.heap[gl]? = _ ∧ Below V1.heap.size V1 w7 from ⟨hy7, hk7 gw _ (tyN HK3W.out HC3.out (by decide)) HK3W.out, hk7 gl _ (tyN HK3L.out HC3.out (by decide)) HK3L.out, hb7 _ _ HLY.out HBW3.out⟩)
    have HW7 := hid hw7
    clear hw7 hy7 hk7 hb7
    go_wp2
    go_meet
    rw [← HW7.out]
    exact ⟨Y, gw, gl, rfl, HF7.out.1, HF7.out.2.1, HF7.out.2.2.1, HLY.out, HLW.out, HLL.out, HF7.out.2.2.2⟩
   ·refine m3h rfl fun R' hR' hO => ?_
    obtain ⟨w4_, hw4, hb4, hs4, hl4⟩ := laid w1_ #[.slice none 0 0, .slice none 0 0, .bool false] 25
    obtain ⟨Y, hg4⟩ := nm (w1_.heap.size)
    have HLY : Hid (V1.heap.size ≤ Y) := hid (by rw [← hg4]; exact HBW1.out.size)
    rw [hg4] at hl4 hs4
    have HC4 := hid hl4
    have HK4W := hid (klD HC1.out hb4)
    have HBW4 := hid (step HBW1.out hb4)
    clear hb4 hl4 hs4
    go_wp2
    refine hR' _ _ ⟨⟨_, HBW4.out⟩, rfl⟩ ?_
    clear hR' hO R' hg4 hw4
    refine m3h rfl fun R' hR' hO => ?_
    obtain ⟨w5_, hw5, hb5, hs5, hl5⟩ := laid w4_ (List.replicate m (.bool false)).toArray 4
    obtain ⟨gl, hg5⟩ := nm (w4_.heap.size)
    have HLL : Hid (V1.heap.size ≤ gl) := hid (by rw [← hg5]; exact HBW4.out.size)
    have hmk5 := make_bools w4_ m (by omega)
    rw [hw5, hg5] at hmk5
    rw [hg5] at hl5 hs5
    have HC5 := hid hl5
    have HK5W := hid (klD HK4W.out hb5)
    have HK5Y := hid (klD HC4.out hb5)
    have HBW5 := hid (step HBW4.out hb5)
    clear hb5 hl5 hs5
    go_wp2
    refine hR' _ _ ⟨⟨_, HBW5.out⟩, rfl⟩ ?_
    clear hR' hO R' hg5 hw5 hmk5
    refine m3q rfl rfl ?_
    go_big_quiet_step (fail)
    refine wpQuiet_nil ?_
    refine m3d ?_
    simp only [List.drop_succ_cons, List.drop_zero]
    have f0 := flD (i := 0) HK5Y.out
    have f1 := flD (i := 1) HK5Y.out
    have f2 := flD (i := 2) HK5Y.out
    have c0 := clD (i := 0) HK5Y.out rfl
    have c1 := clD (i := 1) HK5Y.out rfl
    have c2 := clD (i := 2) HK5Y.out rfl
    obtain ⟨w7, hw7, hy7, hk7, hb7, -⟩ := put_mem HK5Y.out (.slice (some ⟨gw, 0, none⟩) n n) (.slice (some ⟨gl, 0, none⟩) m m) (.bool F)
    have HF7 := hid (show w7.heap[Y]? = _ ∧ w7.heap[gw]? = _ ∧ w7.heap[gl]? = _ ∧ Below V1.heap.size V1 w7 from ⟨hy7, hk7 gw _ (tyN HK5W.out HK5Y.out (by decide)) HK5W.out, hk7 gl _ (tyN HC5.out HK5Y.out (by decide)) HC5.out, hb7 _ _ HLY.out HBW5.out⟩)
    have HW7 := hid hw7
    clear hw7 hy7 hk7 hb7
    go_wp2
    go_meet
    rw [← HW7.out]
    exact ⟨Y, gw, gl, rfl, HF7.out.1, HF7.out.2.1, HF7.out.2.2.1, HLY.out, HLW.out, HLL.out, HF7.out.2.2.2⟩
  ·refine m3h rfl fun R' hR' hO => ?_
   obtain ⟨w6_, hw6, hb6, hs6, hl6⟩ := laid wD (List.replicate m (.bool false)).toArray 4
   obtain ⟨gl, hg6⟩ := nm (wD.heap.size)
   have HLL : Hid (V1.heap.size ≤ gl) := hid (by rw [← hg6]; exact HBD.out.size)
   have hmk6 := make_bools wD m (by omega)
   rw [hw6, hg6] at hmk6
   rw [hg6] at hl6 hs6
   have HC6 := hid hl6
   have HBW6 := hid (step HBD.out hb6)
   clear hb6 hl6 hs6
   go_wp2
   refine hR' _ _ ⟨⟨_, HBW6.out⟩, rfl⟩ ?_
   clear hR' hO R' hg6 hw6 hmk6
   refine wpMix3_h2 ?_ ?_
   ·refine m3h rfl fun R' hR' hO => ?_
    obtain ⟨w7_, hw7, hb7, hs7, hl7⟩ := laid w6_ (List.replicate n (.int .u64 0)).toArray 26
    obtain ⟨gw, hg7⟩ := nm (w6_.heap.size)
    have HLW : Hid (V1.heap.size ≤ gw) := hid (by rw [← hg7]; exact HBW6.out.size)
    have hmk7 := make_words w6_ n (by omega)
    rw [hw7, hg7] at hmk7
    rw [hg7] at hl7 hs7
    have HC7 := hid hl7
    have HK7L := hid (klD HC6.out hb7)
    have HBW7 := hid (step HBW6.out hb7)
    clear hb7 hl7 hs7
    go_wp2
    refine hR' _ _ ⟨⟨_, HBW7.out⟩, rfl⟩ ?_
    clear hR' hO R' hg7 hw7 hmk7
    refine m3q rfl rfl ?_
    go_big_quiet_step (fail)
    refine wpQuiet_nil ?_
    refine m3h rfl fun R' hR' hO => ?_
    obtain ⟨w8_, hw8, hb8, hs8, hl8⟩ := laid w7_ #[.slice none 0 0, .slice none 0 0, .bool false] 25
    obtain ⟨Y, hg8⟩ := nm (w7_.heap.size)
    have HLY : Hid (V1.heap.size ≤ Y) := hid (by rw [← hg8]; exact HBW7.out.size)
    rw [hg8] at hl8 hs8
    have HC8 := hid hl8
    have HK8W := hid (klD HC7.out hb8)
    have HK8L := hid (klD HK7L.out hb8)
    have HBW8 := hid (step HBW7.out hb8)
    clear hb8 hl8 hs8
    go_wp2
    refine hR' _ _ ⟨⟨_, HBW8.out⟩, rfl⟩ ?_
    clear hR' hO R' hg8 hw8
    refine m3d ?_
    simp only [List.drop_succ_cons, List.drop_zero]
    have f0 := flD (i := 0) HC8.out
    have f1 := flD (i := 1) HC8.out
    have f2 := flD (i := 2) HC8.out
    have c0 := clD (i := 0) HC8.out rfl
    have c1 := clD (i := 1) HC8.out rfl
    have c2 := clD (i := 2) HC8.out rfl
    obtain ⟨w7, hw7, hy7, hk7, hb7, -⟩ := put_mem HC8.out (.slice (some ⟨gw, 0, none⟩) n n) (.slice (some ⟨gl, 0, none⟩) m m) (.bool F)
    have HF7 := hid (show w7.heap[Y]? = _ ∧ w7.heap[gw]? = _ ∧ w7.heap[gl]? = _ ∧ Below V1.heap.size V1 w7 from ⟨hy7, hk7 gw _ (tyN HK8W.out HC8.out (by decide)) HK8W.out, hk7 gl _ (tyN HK8L.out HC8.out (by decide)) HK8L.out, hb7 _ _ HLY.out HBW8.out⟩)
    have HW7 := hid hw7
    clear hw7 hy7 hk7 hb7
    go_wp2
    go_meet
    rw [← HW7.out]
    exact ⟨Y, gw, gl, rfl, HF7.out.1, HF7.out.2.1, HF7.out.2.2.1, HLY.out, HLW.out, HLL.out, HF7.out.2.2.2⟩
   ·refine m3h rfl fun R' hR' hO => ?_
    obtain ⟨w9_, hw9, hb9, hs9, hl9⟩ := laid w6_ #[.slice none 0 0, .slice none 0 0, .bool false] 25
    obtain ⟨Y, hg9⟩ := nm (w6_.heap.size)
    have HLY : Hid (V1.heap.size ≤ Y) := hid (by rw [← hg9]; exact HBW6.out.size)
    rw [hg9] at hl9 hs9
    have HC9 := hid hl9
    have HK9L := hid (klD HC6.out hb9)
    have HBW9 := hid (step HBW6.out hb9)
    clear hb9 hl9 hs9
    go_wp2
    refine hR' _ _ ⟨⟨_, HBW9.out⟩, rfl⟩ ?_
    clear hR' hO R' hg9 hw9
    refine m3h rfl fun R' hR' hO => ?_
    obtain ⟨w10_, hw10, hb10, hs10, hl10⟩ := laid w9_ (List.replicate n (.int .u64 0)).toArray 26
    obtain ⟨gw, hg10⟩ := nm (w9_.heap.size)
    have HLW : Hid (V1.heap.size ≤ gw) := hid (by rw [← hg10]; exact HBW9.out.size)
    have hmk10 := make_words w9_ n (by omega)
    rw [hw10, hg10] at hmk10
    rw [hg10] at hl10 hs10
    have HC10 := hid hl10
    have HK10L := hid (klD HK9L.out hb10)
    have HK10Y := hid (klD HC9.out hb10)
    have HBW10 := hid (step HBW9.out hb10)
    clear hb10 hl10 hs10
    go_wp2
    refine hR' _ _ ⟨⟨_, HBW10.out⟩, rfl⟩ ?_
    clear hR' hO R' hg10 hw10 hmk10
    refine m3q rfl rfl ?_
    go_big_quiet_step (fail)
    refine wpQuiet_nil ?_
    refine m3d ?_
    simp only [List.drop_succ_cons, List.drop_zero]
    have f0 := flD (i := 0) HK10Y.out
    have f1 := flD (i := 1) HK10Y.out
    have f2 := flD (i := 2) HK10Y.out
    have c0 := clD (i := 0) HK10Y.out rfl
    have c1 := clD (i := 1) HK10Y.out rfl
    have c2 := clD (i := 2) HK10Y.out rfl
    obtain ⟨w7, hw7, hy7, hk7, hb7, -⟩ := put_mem HK10Y.out (.slice (some ⟨gw, 0, none⟩) n n) (.slice (some ⟨gl, 0, none⟩) m m) (.bool F)
    have HF7 := hid (show w7.heap[Y]? = _ ∧ w7.heap[gw]? = _ ∧ w7.heap[gl]? = _ ∧ Below V1.heap.size V1 w7 from ⟨hy7, hk7 gw _ (tyN HC10.out HK10Y.out (by decide)) HC10.out, hk7 gl _ (tyN HK10L.out HK10Y.out (by decide)) HK10L.out, hb7 _ _ HLY.out HBW10.out⟩)
    have HW7 := hid hw7
    clear hw7 hy7 hk7 hb7
    go_wp2
    go_meet
    rw [← HW7.out]
    exact ⟨Y, gw, gl, rfl, HF7.out.1, HF7.out.2.1, HF7.out.2.2.1, HLY.out, HLW.out, HLL.out, HF7.out.2.2.2⟩
  ·refine m3h rfl fun R' hR' hO => ?_
   obtain ⟨w11_, hw11, hb11, hs11, hl11⟩ := laid wD #[.slice none 0 0, .slice none 0 0, .bool false] 25
   obtain ⟨Y, hg11⟩ := nm (wD.heap.size)
   have HLY : Hid (V1.heap.size ≤ Y) := hid (by rw [← hg11]; exact HBD.out.size)
   rw [hg11] at hl11 hs11
   have HC11 := hid hl11
   have HBW11 := hid (step HBD.out hb11)
   clear hb11 hl11 hs11
   go_wp2
   refine hR' _ _ ⟨⟨_, HBW11.out⟩, rfl⟩ ?_
   clear hR' hO R' hg11 hw11
   refine wpMix3_h2 ?_ ?_
   ·refine m3h rfl fun R' hR' hO => ?_
    obtain ⟨w12_, hw12, hb12, hs12, hl12⟩ := laid w11_ (List.replicate n (.int .u64 0)).toArray 26
    obtain ⟨gw, hg12⟩ := nm (w11_.heap.size)
    have HLW : Hid (V1.heap.size ≤ gw) := hid (by rw [← hg12]; exact HBW11.out.size)
    have hmk12 := make_words w11_ n (by omega)
    rw [hw12, hg12] at hmk12
    rw [hg12] at hl12 hs12
    have HC12 := hid hl12
    have HK12Y := hid (klD HC11.out hb12)
    have HBW12 := hid (step HBW11.out hb12)
    clear hb12 hl12 hs12
    go_wp2
    refine hR' _ _ ⟨⟨_, HBW12.out⟩, rfl⟩ ?_
    clear hR' hO R' hg12 hw12 hmk12
    refine m3h rfl fun R' hR' hO => ?_
    obtain ⟨w13_, hw13, hb13, hs13, hl13⟩ := laid w12_ (List.replicate m (.bool false)).toArray 4
    obtain ⟨gl, hg13⟩ := nm (w12_.heap.size)
    have HLL : Hid (V1.heap.size ≤ gl) := hid (by rw [← hg13]; exact HBW12.out.size)
    have hmk13 := make_bools w12_ m (by omega)
    rw [hw13, hg13] at hmk13
    rw [hg13] at hl13 hs13
    have HC13 := hid hl13
    have HK13W := hid (klD HC12.out hb13)
    have HK13Y := hid (klD HK12Y.out hb13)
    have HBW13 := hid (step HBW12.out hb13)
    clear hb13 hl13 hs13
    go_wp2
    refine hR' _ _ ⟨⟨_, HBW13.out⟩, rfl⟩ ?_
    clear hR' hO R' hg13 hw13 hmk13
    refine m3q rfl rfl ?_
    go_big_quiet_step (fail)
    refine wpQuiet_nil ?_
    refine m3d ?_
    simp only [List.drop_succ_cons, List.drop_zero]
    have f0 := flD (i := 0) HK13Y.out
    have f1 := flD (i := 1) HK13Y.out
    have f2 := flD (i := 2) HK13Y.out
    have c0 := clD (i := 0) HK13Y.out rfl
    have c1 := clD (i := 1) HK13Y.out rfl
    have c2 := clD (i := 2) HK13Y.out rfl
    obtain ⟨w7, hw7, hy7, hk7, hb7, -⟩ := put_mem HK13Y.out (.slice (some ⟨gw, 0, none⟩) n n) (.slice (some ⟨gl, 0, none⟩) m m) (.bool F)
    have HF7 := hid (show w7.heap[Y]? = _ ∧ w7.heap[gw]? = _ ∧ w7.heap[gl]? = _ ∧ Below V1.heap.size V1 w7 from ⟨hy7, hk7 gw _ (tyN HK13W.out HK13Y.out (by decide)) HK13W.out, hk7 gl _ (tyN HC13.out HK13Y.out (by decide)) HC13.out, hb7 _ _ HLY.out HBW13.out⟩)
    have HW7 := hid hw7
    clear hw7 hy7 hk7 hb7
    go_wp2
    go_meet
    rw [← HW7.out]
    exact ⟨Y, gw, gl, rfl, HF7.out.1, HF7.out.2.1, HF7.out.2.2.1, HLY.out, HLW.out, HLL.out, HF7.out.2.2.2⟩
   ·refine m3h rfl fun R' hR' hO => ?_
    obtain ⟨w14_, hw14, hb14, hs14, hl14⟩ := laid w11_ (List.replicate m (.bool false)).toArray 4
    obtain ⟨gl, hg14⟩ := nm (w11_.heap.size)
    have HLL : Hid (V1.heap.size ≤ gl) := hid (by rw [← hg14]; exact HBW11.out.size)
    have hmk14 := make_bools w11_ m (by omega)
    rw [hw14, hg14] at hmk14
    rw [hg14] at hl14 hs14
    have HC14 := hid hl14
    have HK14Y := hid (klD HC11.out hb14)
    have HBW14 := hid (step HBW11.out hb14)
    clear hb14 hl14 hs14
    go_wp2
    refine hR' _ _ ⟨⟨_, HBW14.out⟩, rfl⟩ ?_
    clear hR' hO R' hg14 hw14 hmk14
    refine m3h rfl fun R' hR' hO => ?_
    obtain ⟨w15_, hw15, hb15, hs15, hl15⟩ := laid w14_ (List.replicate n (.int .u64 0)).toArray 26
    obtain ⟨gw, hg15⟩ := nm (w14_.heap.size)
    have HLW : Hid (V1.heap.size ≤ gw) := hid (by rw [← hg15]; exact HBW14.out.size)
    have hmk15 := make_words w14_ n (by omega)
    rw [hw15, hg15] at hmk15
    rw [hg15] at hl15 hs15
    have HC15 := hid hl15
    have HK15L := hid (klD HC14.out hb15)
    have HK15Y := hid (klD HK14Y.out hb15)
    have HBW15 := hid (step HBW14.out hb15)
    clear hb15 hl15 hs15
    go_wp2
    refine hR' _ _ ⟨⟨_, HBW15.out⟩, rfl⟩ ?_
    clear hR' hO R' hg15 hw15 hmk15
    refine m3q rfl rfl ?_
    go_big_quiet_step (fail)
    refine wpQuiet_nil ?_
    refine m3d ?_
    simp only [List.drop_succ_cons, List.drop_zero]
    have f0 := flD (i := 0) HK15Y.out
    have f1 := flD (i := 1) HK15Y.out
    have f2 := flD (i := 2) HK15Y.out
    have c0 := clD (i := 0) HK15Y.out rfl
    have c1 := clD (i := 1) HK15Y.out rfl
    have c2 := clD (i := 2) HK15Y.out rfl
    obtain ⟨w7, hw7, hy7, hk7, hb7, -⟩ := put_mem HK15Y.out (.slice (some ⟨gw, 0, none⟩) n n) (.slice (some ⟨gl, 0, none⟩) m m) (.bool F)
    have HF7 := hid (show w7.heap[Y]? = _ ∧ w7.heap[gw]? = _ ∧ w7.heap[gl]? = _ ∧ Below V1.heap.size V1 w7 from ⟨hy7, hk7 gw _ (tyN HC15.out HK15Y.out (by decide)) HC15.out, hk7 gl _ (tyN HK15L.out HK15Y.out (by decide)) HK15L.out, hb7 _ _ HLY.out HBW15.out⟩)
    have HW7 := hid hw7
    clear hw7 hy7 hk7 hb7
    go_wp2
    go_meet
    rw [← HW7.out]
    exact ⟨Y, gw, gl, rfl, HF7.out.1, HF7.out.2.1, HF7.out.2.2.1, HLY.out, HLW.out, HLL.out, HF7.out.2.2.2⟩
 case rest =>
  obtain ⟨Y, gw, gl, rfl, hy, hw, hg, hlY, hlW, hlL, hb⟩ := hcut
  obtain ⟨V2, hV2⟩ : ∃ V2, V2 = wc := ⟨_, rfl⟩
  subst hV2
  have HY := hid hy
  have HW := hid hw
  have HG := hid hg
  have HB2 := hid hb
  have HXB2 := hid (klD HXB.out hb)
  have HM2 := hid (HM.out.grow hb)
  have HWY : Hid (gw ≠ Y) := hid (tyN hw hy (by decide))
  have HGY : Hid (gl ≠ Y) := hid (tyN hg hy (by decide))
  have HWG : Hid (gw ≠ gl) := hid (tyN hw hg (by decide))
  have hXY : X ≠ Y := by have := llD HXB.out; omega
  have hXW : X ≠ gw := by have := llD HXB.out; omega
  have hXG : X ≠ gl := by have := llD HXB.out; omega
  obtain ⟨y0, y1, y2⟩ := cells3 hy
  obtain ⟨c0, c1, c2⟩ := cells3 HXB2.out
  clear hy hw hg hb x0 x1 x2 hXY hXW hXG
  have HLW2 := HM2.out.w
  rw [HN.out] at HLW2
  have HLWH := hid HLW2
  clear HLW2
  go_wp2_with ((with_reducible show wpList _ _ _ _ _ _); refine wp_copyK rfl (.tmp 16) (.tmp 18) 22 22 rfl 26 Tryz.underlying22 (by kernel_rfl) _ _ n n n wc rfl rfl gw 0 (List.replicate n (.int .u64 0)) 26 HW.out (wcells M.W) ?c1 ?c2 ?c3 ?c4 ?c5)
  case c1 => rw [wcells_len, HN.out]; exact (Nat.min_self n).symm
  case c2 =>
   intro hp
   obtain ⟨-, -, ⟨h0, -⟩ | ⟨b, off, rfl, -, hc⟩⟩ := HLWH.out
   ·rw [wcells_len, HN.out] at hp; omega
   ·exact ⟨_, rfl, fun j v hj => cell_add (hc j v hj)⟩
  case c3 => rw [wcells_len, HN.out]; simp
  case c4 => exact wcells_one _
  case c5 =>
  intro V3 h3
  obtain ⟨hg3, hk3, hb3⟩ := h3.out
  rw [splice_whole _ _ (by rw [wcells_len, HN.out]; simp)] at hg3
  have HW3 := hid hg3
  have HY3 := hid ((hk3 Y (Ne.symm HWY.out)).trans HY.out)
  have HG3 := hid ((hk3 gl (Ne.symm HWG.out)).trans HG.out)
  have HB3 := hid (hb3 V1.heap.size V1 hlW HB2.out)
  obtain ⟨y0, y1, y2⟩ := cells3 HY3.out
  obtain ⟨c0, c1, c2⟩ := cells3 (klD HXB.out HB3.out)
  have HLL3 := (HM.out.grow HB3.out).l
  rw [HMM.out] at HLL3
  have HLLH := hid HLL3
  clear HLL3 hg3 hk3 hb3
  go_wp2_with ((with_reducible show wpList _ _ _ _ _ _); refine wp_copyK rfl (.tmp 21) (.tmp 23) 23 23 rfl 4 Tryz.underlying23 (by kernel_rfl) _ _ m m m lc rfl rfl gl 0 (List.replicate m (.bool false)) 4 HG3.out (bcells M.L) ?d1 ?d2 ?d3 ?d4 ?d5)
  case d1 => rw [bcells_len, HMM.out]; exact (Nat.min_self m).symm
  case d2 =>
   intro hp
   obtain ⟨-, -, ⟨h0, -⟩ | ⟨b, off, rfl, -, hc⟩⟩ := HLLH.out
   ·rw [bcells_len, HMM.out] at hp; omega
   ·exact ⟨_, rfl, fun j v hj => cell_add (hc j v hj)⟩
  case d3 => rw [bcells_len, HMM.out]; simp
  case d4 => exact bcells_one _
  case d5 =>
  intro V4 h4
  obtain ⟨hg4, hk4, hb4⟩ := h4.out
  rw [splice_whole _ _ (by rw [bcells_len, HMM.out]; simp)] at hg4
  have HG4 := hid hg4
  have HY4 := hid ((hk4 Y (Ne.symm HGY.out)).trans HY3.out)
  have HW4 := hid ((hk4 gw HWG.out).trans HW3.out)
  have HB4 := hid (hb4 V1.heap.size V1 hlL HB3.out)
  have HZ4 := hid (klD HZB.out HB4.out)
  obtain ⟨y0, y1, y2⟩ := cells3 HY4.out
  have f0 := flD (i := 0) HZ4.out
  have f1 := flD (i := 1) HZ4.out
  have f2 := flD (i := 2) HZ4.out
  obtain ⟨z0, z1, z2⟩ := cells3 HZ4.out
  have hMO : MemO V.heap.size (some ⟨gw, 0, none⟩) n (some ⟨gl, 0, none⟩) m M V4 := by
   have hVV := HB1.out.size
   refine ⟨?_, ?_⟩
   ·rw [HN.out]
    refine ⟨by rw [wcells_len, HN.out]; omega, .inr ⟨gw, n, _, rfl, by omega, HW4.out, Nat.le_refl _, by unfold maxLen; omega, by simp [wcells_len, HN.out], ?_⟩⟩
    rw [List.take_of_length_le (by simp [wcells_len, HN.out])]
   ·rw [HMM.out]
    refine ⟨by rw [bcells_len, HMM.out]; omega, .inr ⟨gl, m, _, rfl, by omega, HG4.out, Nat.le_refl _, by unfold maxLen; omega, by simp [bcells_len, HMM.out], ?_⟩⟩
    rw [List.take_of_length_le (by simp [bcells_len, HMM.out])]
  obtain ⟨V5, hV5, hz5, hk5, hb5, hm5⟩ := put_mem HZ4.out (.slice (some ⟨gw, 0, none⟩) n n) (.slice (some ⟨gl, 0, none⟩) m m) (.bool F)
  have HM5 := hid (hm5 _ _ _ _ _ _ hMO)
  have HB5 := hid (hb5 _ _ HZX.out ((HB1.out.trans (HB4.out.mono HB1.out.size))))
  have HZ5 := hid hz5
  have HV5 := hid hV5
  clear hg4 hk4 hb4 hMO hV5 hz5 hk5 hb5 hm5
  go_wp2
  rw [← HV5.out]
  refine bodyPost_ret (memown_result HZ5.out rfl) rfl ?_
  exact ⟨_, _, _, _, rfl, HM5.out, HB5.out⟩
end Go.Proofs.YtipohagcppfgiaaGreat
