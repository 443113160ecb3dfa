/- Memories: a law's own copy, and spoiling it. -/
import Derived.Test.YtoihjmdpbbcbjaaMemClone
namespace Go.Proofs.Ytoihjmdpbbcbjaa
open Go.RowKit
open Go.Proofs
set_option linter.unusedVariables false

theorem take_min48 {α : Type} (l : List α) : l.take (min l.length 48) = l.take 48 := by
  rcases Nat.le_total l.length 48 with h | h
  · rw [Nat.min_eq_left h, List.take_of_length_le (Nat.le_refl _), List.take_of_length_le h]
  · rw [Nat.min_eq_right h]
def take48 (M : Mem) : Mem := ⟨M.W.take 48, M.L.take 48, M.F⟩
theorem lawown_result {W : World} {b : Nat} {v0 v1 v2 : Value} {tmps : Array Value} (h : W.heap[b]? = some (.cells #[v0, v1, v2] 25 (0, 0))) (hp : tmps[2]?.getD undef = .pointer (some ⟨b, 0, none⟩)) :
    (results Try.f8 tmps).run Try.prog W = .ok (.agg #[v0, v1, v2]) W := by
  have h0 := cell_laid (i := 0) (v := v0) h rfl
  have h1 := cell_laid (i := 1) (v := v1) h rfl
  have h2 := cell_laid (i := 2) (v := v2) h rfl
  simp [results, Try.results8, go_sem, hp, h0, h1, h2]
set_option maxRecDepth 100000 in
set_option maxHeartbeats 4000000 in
theorem lawown_any (M : Mem) (wa la : Option Addr) (wc lc : Nat) (V : World) (h : MemL V wa wc la lc M) :
    Calls Try.prog 8 #[memV wa wc la lc M] V (GivesM (take48 M) V) := by
  obtain ⟨V1, hV1, hb1, hs1, hl1⟩ := laid V #[.slice wa M.W.length wc, .slice la M.L.length lc, .bool M.F] 25
  obtain ⟨V2, hV2, hb2, hs2, hl2⟩ := laid V1 #[.slice none 0 0, .slice none 0 0, .bool false] 25
  obtain ⟨X, hX⟩ : ∃ X, V.heap.size = X := ⟨_, rfl⟩
  obtain ⟨Z, hZ⟩ : ∃ Z, V1.heap.size = Z := ⟨_, rfl⟩
  rw [hX] at hl1
  rw [hZ] at hl2
  have HX := hid (keep_laid hl1 hb2)
  have HZ := hid hl2
  have HB2 := hid (step hb1 hb2)
  have HZV : Hid (V.heap.size ≤ Z) := hid (by rw [← hZ]; exact hb1.size)
  have hwl := h.w.len
  have hll := h.l.len
  have hwc1 := h.w.1
  have hlc1 := h.l.1
  obtain ⟨F, hF⟩ : ∃ F, M.F = F := ⟨_, rfl⟩
  obtain ⟨n, hn⟩ : ∃ n, M.W.length = n := ⟨_, rfl⟩
  obtain ⟨m, hm⟩ : ∃ m, M.L.length = m := ⟨_, rfl⟩
  obtain ⟨k, hk⟩ : ∃ k, min n 48 = k := ⟨_, rfl⟩
  obtain ⟨j, hj⟩ : ∃ j, min m 48 = j := ⟨_, rfl⟩
  have hkI : min (((n : Nat) : Int)) 48 = ((k : Nat) : Int) := by omega
  have hjI : min (((m : Nat) : Int)) 48 = ((j : Nat) : Int) := by omega
  have hkn : k ≤ n := by omega
  have hjm : j ≤ m := by omega
  have hk48 : k ≤ 48 := by omega
  have hj48 : j ≤ 48 := by omega
  have hW := h.w
  have hLv := h.l
  rw [hn] at hW hV1 HX hwl hwc1
  rw [hm] at hLv hV1 HX hll hlc1
  rw [hF] at hV1 HX
  have hkc : k ≤ wc := Nat.le_trans hkn hwc1
  have hjc : j ≤ lc := Nat.le_trans hjm hlc1
  have e1 : (wcells M.W).take k = wcells (M.W.take 48) := by rw [← hk, ← hn]; unfold wcells; rw [← List.map_take, take_min48]
  have e2 : (bcells M.L).take j = bcells (M.L.take 48) := by rw [← hj, ← hm]; unfold bcells; rw [← List.map_take, take_min48]
  have l1 : (M.W.take 48).length = k := by rw [List.length_take, hn]; omega
  have l2 : (M.L.take 48).length = j := by rw [List.length_take, hm]; omega
  have HCW := hid fun W (hb : Below V.heap.size V W) => CloneW_any wa k wc (wcells (M.W.take 48)) W (by rw [← e1]; exact (hW.vtake (by rw [wcells_len, hn]) hkn).grow hb) (by rw [wcells_len, l1]; omega) (by omega) (wcells_one _)
  have HCB := hid fun W (hb : Below V.heap.size V W) => CloneB_any la j lc (bcells (M.L.take 48)) W (by rw [← e2]; exact (hLv.vtake (by rw [bcells_len, hm]) hjm).grow hb) (by rw [bcells_len, l2]; omega) (by omega) (bcells_one _)
  have HL1 := hid l1
  have HL2 := hid l2
  have HF := hid hF
  have x0 : ∀ z : Ext V2, z.v.cell? ⟨X, 0, none⟩ = some (.slice wa n wc) := fun z => (cells3 (keep_laid HX.out z.b)).1
  have x1 : ∀ z : Ext V2, z.v.cell? ⟨X, 1, none⟩ = some (.slice la m lc) := fun z => (cells3 (keep_laid HX.out z.b)).2.1
  have x2 : ∀ z : Ext V2, z.v.cell? ⟨X, 2, none⟩ = some (.bool F) := fun z => (cells3 (keep_laid HX.out z.b)).2.2
  unfold memV
  rw [hn, hm, hF]
  clear h hW hLv e1 e2 l1 l2 hs1 hs2 hb1 hb2 hl1 hl2 hn hm hk hj hF
  go_enter Try.func8, Try.ntmps8
  go_upto_region 1 with (fail)
  refine wp_region_mix2 (fun W => ∃ z : Ext V2, W = z.v) 19 (.q 0 (.q 1 (.q 2 (.q 3 (.q 4 (.q 5 (.q 6 (.q 8 (.q 9 (.q 10 (.q 11 (.q 12 (.q 13 (.q 14 (.q 16 (.q 17 (.h 7 (.h 15 (.q 18 (.done)))))))))))))))))))) (by kernel_rfl) (by kernel_rfl) ⟨⟨_, (Below.refl _ _).drew⟩, rfl⟩ ?_
  repeat (refine wpMix2_q rfl rfl ?_; go_big_quiet_step (fail); refine wpQuiet_nil ?_)
  refine wpMix2_h rfl fun R' hR' hO => ?_
  have hbd : Below V2.heap.size V2 V2.drew := (Below.refl _ _).drew
  go_wp2_with fail
  refine (HCW.out _ (step HB2.out hbd)).mono ?_
  rintro e V3 ⟨v3, rfl, ho3, hb3⟩
  obtain ⟨wa', wc', rfl, -⟩ := Leads.of_own ho3
  have hb23 := step hbd hb3
  have HO3 := hid ho3
  clear ho3
  go_wp2
  refine hR' _ _ ⟨⟨V3, hb23⟩, rfl⟩ ?_
  clear hR' hO R'
  refine wpMix2_h rfl fun R' hR' hO => ?_
  go_wp2_with fail
  refine (HCB.out _ (step HB2.out hb23)).mono ?_
  rintro e V4 ⟨v4, rfl, ho4, hb4⟩
  obtain ⟨la', lc', rfl, -⟩ := Leads.of_own ho4
  have hb24 := step hb23 hb4
  have HMO : Hid (MemO V.heap.size wa' wc' la' lc' (take48 M) V4) := hid (by
    refine ⟨?_, ?_⟩
    · show V4.ownsRow V.heap.size 26 1 (.slice wa' (M.W.take 48).length wc') (M.W.take 48).length (wcells (M.W.take 48))
      rw [HL1.out]
      exact row_base (own_grow HO3.out hb4) (step HB2.out hbd).size
    · show V4.ownsRow V.heap.size 4 1 (.slice la' (M.L.take 48).length lc') (M.L.take 48).length (bcells (M.L.take 48))
      rw [HL2.out]
      exact row_base ho4 (step HB2.out hb23).size)
  clear ho4
  go_wp2
  refine hR' _ _ ⟨⟨V4, hb24⟩, rfl⟩ ?_
  clear hR' hO R'
  refine wpMix2_q rfl rfl ?_
  go_big_quiet_step (fail)
  refine wpQuiet_nil ?_
  refine wpMix2_done ?_
  simp only [List.drop_succ_cons, List.drop_zero]
  have HZ4 := hid (keep_laid HZ.out hb24)
  obtain ⟨z0, z1, z2⟩ := cells3 HZ4.out
  have f0 := free_laid (i := 0) HZ4.out
  have f1 := free_laid (i := 1) HZ4.out
  have f2 := free_laid (i := 2) HZ4.out
  obtain ⟨V5, hV5, hz5, hk5, hb5, hm5⟩ := put_mem HZ4.out (.slice wa' k wc') (.slice la' j lc') (.bool F)
  have HM5 := hid (hm5 _ _ _ _ _ _ HMO.out)
  have HB5 := hid (hb5 _ _ HZV.out (step HB2.out hb24))
  have HZ5 := hid hz5
  have HV5 := hid hV5
  clear hV5 hz5 hk5 hb5 hm5 x0 x1 x2
  go_wp2
  rw [← HV5.out]
  refine bodyPost_ret (lawown_result HZ5.out rfl) rfl ?_
  exact ⟨wa', wc', la', lc', by unfold memV take48; dsimp only; rw [HL1.out, HL2.out, HF.out], HM5.out, HB5.out⟩

/-- All that lay here lies there as it did, but for two rows. -/
def spK (base : Nat) (v1 v2 : Value) (V W : World) : Prop := Below base V W ∧ ∀ (k : Nat) (o : Obj), V.heap[k]? = some o → v1.ownBlock ≠ some k → v2.ownBlock ≠ some k → W.heap[k]? = some o
set_option maxRecDepth 100000 in
set_option maxHeartbeats 4000000 in
/-- A memory of one's own is written over. -/
theorem spoil_any (M : Mem) (base : Nat) (wa la : Option Addr) (wc lc : Nat) (V : World) (h : MemO base wa wc la lc M V) (hb : base ≤ V.heap.size) :
    Calls Try.prog 21 #[memV wa wc la lc M] V (fun e W => (∃ v, e = .returned v) ∧ spK base (.slice wa M.W.length wc) (.slice la M.L.length lc) V W) := by
  obtain ⟨V1, hV1, hb1, hs1, hl1⟩ := laid V #[.slice wa M.W.length wc, .slice la M.L.length lc, .bool M.F] 25
  obtain ⟨X, hX⟩ : ∃ X, V.heap.size = X := ⟨_, rfl⟩
  rw [hX] at hl1
  have hW := own_grow h.w hb1
  have hL := own_grow h.l hb1
  have hwl := (Leads.of_own1 h.w).len
  have hll := (Leads.of_own1 h.l).len
  obtain ⟨F, hF⟩ : ∃ F, M.F = F := ⟨_, rfl⟩
  obtain ⟨n, hn⟩ : ∃ n, M.W.length = n := ⟨_, rfl⟩
  obtain ⟨m, hm⟩ : ∃ m, M.L.length = m := ⟨_, rfl⟩
  unfold memV
  rw [hn] at hW hV1 hl1 hwl ⊢
  rw [hm] at hL hV1 hl1 hll ⊢
  rw [hF] at hV1 hl1 ⊢
  have HW := hid hW
  have HL := hid hL
  have HX := hid hl1
  have HB1 : Hid (spK base (.slice wa n wc) (.slice la m lc) V V1) := hid ⟨hb1.mono hb, fun k o hk _ _ => keep_laid hk hb1⟩
  have HBV := hid hb
  have HWI : Hid (∀ v ∈ wcells M.W, ∃ z : Int, v = .int .u64 z) := hid (fun v hv => by obtain ⟨x, -, rfl⟩ := List.mem_map.1 hv; exact ⟨_, rfl⟩)
  have HLI : Hid (∀ v ∈ bcells M.L, ∃ z : Bool, v = .bool z) := hid (fun v hv => by obtain ⟨x, -, rfl⟩ := List.mem_map.1 hv; exact ⟨_, rfl⟩)
  have x0 := (cells3 hl1).1
  clear h hW hL hl1 hs1 hb1 hn hm hF
  go_enter Try.func21, Try.ntmps21
  go_wp2
  go_loopg [7] n (fun g i W => ∃ (k : Nat) (cs : List Value), g + k = n ∧ i = .int .i64 (k : Nat) ∧ Hid (W.ownsRow base 26 1 (.slice wa n wc) n cs) ∧ Hid (∀ v ∈ cs, ∃ z : Int, v = .int .u64 z) ∧ Hid (W.ownsRow base 4 1 (.slice la m lc) m (bcells M.L)) ∧ Hid (W.heap[X]? = some (.cells #[.slice wa n wc, .slice la m lc, .bool F] 25 (0, 0))) ∧ spK base (.slice wa n wc) (.slice la m lc) V W)
  case atStart => exact ⟨0, _, rfl, rfl, HW, HWI, HL, HX, HB1.out⟩
  case round =>
    obtain ⟨k, cs, hk, rfl, hW, hcs, hL, hXB, hbb⟩ := hrel
    have HK := hid hk
    clear hk x0
    by_cases hlt : k < n
    · obtain ⟨gw, rfl⟩ := row_addr hW.out (by omega)
      have hcl : cs.length = n * 1 := hW.out.1
      have hck := hW.out.cellAt k (by omega)
      rw [List.getElem?_eq_getElem (by omega)] at hck
      obtain ⟨z, hz⟩ := hcs.out _ (List.getElem_mem (by omega : k < cs.length))
      rw [hz] at hck
      have hfk := hW.out.frozenAt k
      have x0 := (cells3 hXB.out).1
      obtain ⟨curw, hcw⟩ := own_type hW.out gw rfl
      have HST := hid fun y : Int => (hW.out.stored k (.int .u64 y)).1
      have HCS := hid fun y : Int => show ∀ v ∈ cs.set k (.int .u64 y), ∃ z : Int, v = .int .u64 z from fun v hv => by
        rcases List.mem_or_eq_of_mem_set hv with hv | rfl
        · exact hcs.out v hv
        · exact ⟨y, rfl⟩
      have HLS := hid fun y : Int => own_keep (w' := wr.setCell ⟨gw, k, none⟩ (.int .u64 y)) hL.out (fun b o hb ho => by
        obtain ⟨cur', hc⟩ := own_type hL.out b hb
        exact other_laid ho (type_ne hc hcw (by decide)) _)
      have HXS := hid fun y : Int => other_laid (i := k) hXB.out (type_ne hXB.out hcw (by decide)) (.int .u64 y)
      have HBS := hid fun y : Int => (show spK base (.slice (some ⟨gw, 0, none⟩) n wc) (.slice la m lc) V (wr.setCell ⟨gw, k, none⟩ (.int .u64 y)) from ⟨hbb.1.setCell (p := ⟨gw, k, none⟩) (hW.out.lt gw rfl).1 (.int .u64 y), fun j o hj h1 h2 => other_laid (hbb.2 j o hj h1 h2) (fun e => h1 (by rw [e]; rfl)) _⟩)
      clear hcl hz hW hcs hL hXB hcw
      go_wp2
      go_roundg (gk - 1)
      case measure => have := HK.out; omega
      case rel => exact ⟨k + 1, _, by have := HK.out; omega, by go_num, hid (HST.out _), hid (HCS.out _), hid (HLS.out _), hid (HXS.out _), HBS.out _⟩
    · have x1 := (cells3 hXB.out).2.1
      have HBB := hid hbb
      clear HK hW hcs hbb
      go_wp2
      go_loopg [21] m (fun g i W => ∃ (k : Nat) (cs : List Value), g + k = m ∧ i = .int .i64 (k : Nat) ∧ Hid (W.ownsRow base 4 1 (.slice la m lc) m cs) ∧ Hid (∀ v ∈ cs, ∃ z : Bool, v = .bool z) ∧ Hid (W.heap[X]? = some (.cells #[.slice wa n wc, .slice la m lc, .bool F] 25 (0, 0))) ∧ spK base (.slice wa n wc) (.slice la m lc) V W)
      case atStart => exact ⟨0, _, rfl, rfl, hL, HLI, hXB, HBB.out⟩
      case round =>
        obtain ⟨k, cs, hk, rfl, hL, hcs, hXB, hbb⟩ := hrel
        have HK := hid hk
        clear hk x1
        by_cases hlt : k < m
        · obtain ⟨gl, rfl⟩ := row_addr hL.out (by omega)
          have hcl : cs.length = m * 1 := hL.out.1
          obtain ⟨z, hz⟩ := hcs.out _ (List.getElem_mem (by omega : k < cs.length))
          have hck : ∀ x : Ext wr, x.v.cell? ⟨gl, k, none⟩ = some (.bool z) := fun x => by
            rw [(own_grow hL.out x.b).cellAt k (by omega), List.getElem?_eq_getElem (by omega), hz]
          have x1 : ∀ x : Ext wr, x.v.cell? ⟨X, 1, none⟩ = some (.slice (some ⟨gl, 0, none⟩) m lc) := fun x => (cells3 (keep_laid hXB.out x.b)).2.1
          obtain ⟨wD, hwD⟩ : ∃ wD, wr.drew = wD := ⟨_, rfl⟩
          have hbd : Below wr.heap.size wr wD := by rw [← hwD]; exact (Below.refl _ _).drew
          have hLd := own_grow hL.out hbd
          have hXd := keep_laid hXB.out hbd
          have hcd : wD.cell? ⟨gl, k, none⟩ = some (.bool z) := hck ⟨wD, hbd⟩
          have hfk := hLd.frozenAt k
          obtain ⟨curl, hcl2⟩ := own_type hLd gl rfl
          have HST := hid fun y : Bool => (hLd.stored k (.bool y)).1
          have HCS := hid fun y : Bool => show ∀ v ∈ cs.set k (.bool y), ∃ z : Bool, v = .bool z from fun v hv => by
            rcases List.mem_or_eq_of_mem_set hv with hv | rfl
            · exact hcs.out v hv
            · exact ⟨y, rfl⟩
          have HXS := hid fun y : Bool => other_laid (i := k) hXd (type_ne hXd hcl2 (by decide)) (.bool y)
          have HBS := hid fun y : Bool => (show spK base (.slice wa n wc) (.slice (some ⟨gl, 0, none⟩) m lc) V (wD.setCell ⟨gl, k, none⟩ (.bool y)) from ⟨(hbb.1.trans (hbd.mono (Nat.le_trans HBV.out hbb.1.size))).setCell (p := ⟨gl, k, none⟩) (hLd.lt gl rfl).1 (.bool y), fun j o hj h1 h2 => other_laid (keep_laid (hbb.2 j o hj h1 h2) hbd) (fun e => h2 (by rw [e]; rfl)) _⟩)
          clear hcl hz hL hcs hXB hcl2 hLd hXd hbd
          go_upto_region 9 with (fail)
          refine wp_region_mix2 (fun W => ∃ z : Ext wr, W = z.v) 10 (.q 0 (.q 1 (.q 2 (.q 3 (.q 4 (.q 5 (.q 6 (.q 7 (.q 8 (.q 9 (.done))))))))))) (by kernel_rfl) (by kernel_rfl) ⟨⟨_, (Below.refl _ _).drew⟩, rfl⟩ ?_
          repeat (refine wpMix2_q rfl rfl ?_; go_big_quiet_step (fail); refine wpQuiet_nil ?_)
          refine wpMix2_done ?_
          simp only [List.drop_succ_cons, List.drop_zero]
          rw [hwD]
          go_wp2
          go_roundg (gk - 1)
          case measure => have := HK.out; omega
          case rel => exact ⟨k + 1, _, by have := HK.out; omega, by go_num, hid (HST.out _), hid (HCS.out _), hid (HXS.out _), HBS.out _⟩
        · clear HK hL hcs
          go_wp2
          go_returns
          exact ⟨⟨_, rfl⟩, hbb⟩
end Go.Proofs.Ytoihjmdpbbcbjaa
