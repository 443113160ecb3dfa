/- The document's lists (printed by gen_lsref8.py): Insert, Remove. -/
import Derived.Test.YtdkkjcflcegeoaaLsRef5
import Derived.Test.YtdkkjcflcegeoaaLsRef6
import Derived.Test.YtdkkjcflcegeoaaLsRef7
import Derived.Test.YtdkkjcflcegeoaaLsPlain2
namespace Go.Proofs.Ytdkkjcflcegeoaa
open Go.RowKit
open Go.Proofs
set_option linter.unusedVariables false
attribute [local go_sem] Oper.semAt_some

def GivesKI (wa0 la0 : Option Addr) (R : Mem × Nat × Nat) (w : World) (e : Ending) (W : World) : Prop := ∃ wa wc la lc, e = .returned (.tuple #[memV wa wc la lc R.1, .int .i64 ((R.2.1 : Nat) : Int), .int .i64 ((R.2.2 : Nat) : Int)]) ∧ MemL W wa wc la lc R.1 ∧ Below w.heap.size w W ∧ (R.1 = zeroM ∨ (keptA w wa0 wa ∧ keptA w la0 la))
def GivesKU (wa0 la0 : Option Addr) (R : Mem × Nat × Nat) (w : World) (e : Ending) (W : World) : Prop := ∃ wa wc la lc, e = .returned (.tuple #[memV wa wc la lc R.1, .int .u64 ((R.2.1 : Nat) : Int), .int .i64 ((R.2.2 : Nat) : Int)]) ∧ MemL W wa wc la lc R.1 ∧ Below w.heap.size w W ∧ (R.1 = zeroM ∨ (keptA w wa0 wa ∧ keptA w la0 la))
theorem memL_zero (W : World) : MemL W none 0 none 0 zeroM := ⟨⟨Nat.le_refl _, Nat.zero_le _, .inl ⟨rfl, rfl⟩⟩, ⟨Nat.le_refl _, Nat.zero_le _, .inl ⟨rfl, rfl⟩⟩⟩
/-- Worlds in which two variables lie so. -/
structure RXS3 (X S : Nat) (cs cs' : Array Value) where
  w : World
  bx : w.heap[X]? = some (.cells cs 25 (0, 0))
  bs : w.heap[S]? = some (.cells cs' 40 (0, 0))
theorem keptA.apart {W : World} {a a' : Option Addr} {B q : Nat} (hk : keptA W a a') (hl : lowA a B) (hB : B ≤ q) (hq : q < W.heap.size) : apartA a' q := by
  rintro b off e rfl
  rcases hk with rfl | hk
  · have := hl b off e; omega
  · have := hk b off e; omega
theorem rRemove_result {W : World} {b8 : Nat} {v8_0 v8_1 v8_2 u9 u10 : Value} {tmps : Array Value} (h8 : W.heap[b8]? = some (.cells #[v8_0, v8_1, v8_2] 25 (0, 0))) (q8 : tmps[8]?.getD undef = .pointer (some ⟨b8, 0, none⟩)) (q9 : tmps[9]?.getD undef = u9) (q10 : tmps[10]?.getD undef = u10) :
    (results Try.f20 tmps).run Try.prog W = .ok (.tuple #[.agg #[v8_0, v8_1, v8_2], u9, u10]) W := by
  have e8_0 := cell_laid (i := 0) (v := v8_0) h8 rfl
  have e8_1 := cell_laid (i := 1) (v := v8_1) h8 rfl
  have e8_2 := cell_laid (i := 2) (v := v8_2) h8 rfl
  simp [results, Try.results20, go_sem, e8_0, e8_1, e8_2, q8, q9, q10]
set_option maxRecDepth 100000 in
set_option maxHeartbeats 8000000 in
theorem rRemove_any (M : Mem) (wa la : Option Addr) (wc lc head hash key : Nat) (xs : List Nd) (V : World) (h : MemL V wa wc la lc M) (hok : okM M = true) (hW : ∀ x ∈ M.W, x < 18446744073709551616) (hns : nodesR M head = some xs) (hh : head < 18446744073709551616) (hha : hash < 18446744073709551616) (hke : key < 18446744073709551616) :
    Calls Try.prog 20 #[memV wa wc la lc M, .int .u64 ((head : Nat) : Int), .int .u64 ((hash : Nat) : Int), .int .u64 ((key : Nat) : Int)] V (GivesKU wa la (rremP M head xs hash key) V) := by
  have HM := hid h
  have HLW := hid (h.lowA hok)
  have hwl := h.w.len
  have hll := h.l.len
  have HOK := hid hok
  have HWW := hid hW
  obtain ⟨hfr1, hfr2⟩ := find_run hok hns hash key
  have hxf := chain_facts hok hW _ _ (nodesW_chain (nodesR_some hns).1).2
  have HFO := hid (findS_ok (hash := hash) (key := key) (by assumption) (by assumption) head xs hh (fun x hx => by have := hxf x hx; exact ⟨by omega, this.2.2.2.1⟩))
  obtain ⟨⟨so, sn⟩, hS⟩ : ∃ r, findS hash key head xs = r := ⟨_, rfl⟩
  have hp4 : 4 ≤ so.ph := by have := findS_ph hash key head xs; rw [hS] at this; rw [this]; decide
  rw [hS] at hfr2 HFO
  have hsn : sn ≤ 20000 := by have e1 := findS_len hash key head xs; have e2 := nodesW_len hok (nodesR_some hns).1; rw [hS] at e1; dsimp only at e1; omega
  have HS := hid hS
  have HFI := hid (fun (W : World) (hb : Below V.heap.size V W) => rFind_any M wa la wc lc head hash key so sn W (h.grow hb) hok hW hh (by assumption) (by assumption) hfr2 hp4)
  unfold memV at HFI
  obtain ⟨V1, hV1, hbV1, hsV1, hlV1⟩ := laid V #[.slice wa M.W.length wc, .slice la M.L.length lc, .bool M.F] 25
  obtain ⟨V2, hV2, hbV2, hsV2, hlV2⟩ := laid V1 #[.slice none 0 0, .slice none 0 0, .bool false] 25
  obtain ⟨X, hX⟩ : ∃ X, V.heap.size = X := ⟨_, rfl⟩
  rw [hX] at hlV1
  obtain ⟨Z, hZ⟩ : ∃ X, V1.heap.size = X := ⟨_, rfl⟩
  rw [hZ] at hlV2
  have KX := hid (keep_laid hlV1 hbV2)
  have KZ := hid hlV2
  have HB := hid (step hbV1 hbV2)
  have hVX : V.heap.size ≤ X := by omega
  have hVZ : V.heap.size ≤ Z := by omega
  have nXZ : X < Z := by omega
  clear hbV1 hsV1 hlV1 hbV2 hsV2 hlV2
  obtain ⟨Wa, hWa⟩ : ∃ W, W = V2 := ⟨_, rfl⟩
  have KXa := KX
  have KZa := KZ
  have HBa := HB
  rw [← hWa] at KXa KZa HBa
  unfold memV
  clear h hok hW hfr1 hfr2 hxf hS hp4 hns
  go_enter Try.func20, Try.ntmps20
  go_upto_region 1 with (fail)
  rw [← hWa]
  clear hX hZ hWa
  obtain ⟨x0, x1, x2⟩ := cells3 KXa.out
  go_wp2_with fail
  refine (HFI.out Wa HBa.out).mono ?_
  rintro e V_5 ⟨rfl, hb5⟩
  have KX5 := keep_laid KXa.out hb5
  have KZ5 := keep_laid KZa.out hb5
  have HB5 := hid (HBa.out.trans (hb5.mono HBa.out.size))
  obtain ⟨sph, shash, skey, slink, snode, sval, sfound⟩ := so
  dsimp only
  obtain ⟨V_7, hV_7, hb7, hs7, hl7⟩ := laid V_5 #[.int .i64 0, .int .u64 0, .int .u64 0, .int .u64 0, .int .u64 0, .int .u64 0, .bool false] 40
  obtain ⟨S, hS⟩ : ∃ X, V_5.heap.size = X := ⟨_, rfl⟩
  rw [hS] at hl7
  obtain ⟨V_8, hV_8, a1, a2, a3, a4, a5⟩ := putM7 hl7 (.int .i64 sph) (.int .u64 ((shash : Nat) : Int)) (.int .u64 ((skey : Nat) : Int)) (.int .u64 ((slink : Nat) : Int)) (.int .u64 ((snode : Nat) : Int)) (.int .u64 ((sval : Nat) : Int)) (.bool sfound)
  obtain ⟨z0, zf0, z1, zf1, z2, zf2, z3, zf3, z4, zf4, z5, zf5, z6, zf6⟩ := fcl7 hl7
  have hVS : V.heap.size ≤ S := by have := HB5.out.size; omega
  have hZS : Z < S := by have := lt_laid KZ5; omega
  have KS8 := hid a1
  have KX8 := hid (a2 X _ (by omega) (keep_laid KX5 hb7))
  have KZ8 := hid (a2 Z _ (by omega) (keep_laid KZ5 hb7))
  have HB8 := hid (a3 V.heap.size V hVS (step HB5.out hb7))
  have HM8 : Hid (MemL V_8 wa wc la lc M) := hid ⟨((HM.out.grow HB5.out).grow hb7).w.keepNe (HLW.out.1.apart hVS) a2, ((HM.out.grow HB5.out).grow hb7).l.keepNe (HLW.out.2.apart hVS) a2⟩
  have HV8 := hid hV_8
  clear hV_8 a1 a2 a3 a4 a5 hb7 hs7 hl7 hb5 KX5 KZ5 x0 x1 x2
  unfold skV
  dsimp only
  go_upto_region 2 with (fail)
  rw [← HV8.out]
  clear z0 z1 z2 z3 z4 z5 z6 zf0 zf1 zf2 zf3 zf4 zf5 zf6
  have s6 := cell_laid (i := 6) KS8.out rfl
  cases sfound with
  | false =>
    have HR : Hid (rremP M head xs hash key = (zeroM, 0, 4)) := hid (by unfold rremP; (try dsimp only); rw [if_pos (by rw [HS.out])])
    obtain ⟨U1, hU1, a1, -, a3, -⟩ := put_mem KZ8.out (.slice none 0 0) (.slice none 0 0) (.bool false)
    have HU1 := hid hU1
    have KZ9 := hid a1
    have HB9 := hid (a3 V.heap.size V hVZ HB8.out)
    obtain ⟨z0, zf0, z1, zf1, z2, zf2⟩ := fcl3 KZ8.out
    clear hU1 a1 a3
    go_wp2
    rw [← HU1.out]
    refine bodyPost_ret (rRemove_result KZ9.out rfl rfl rfl) rfl ?_
    rw [HR.out]
    exact ⟨none, 0, none, 0, rfl, memL_zero _, HB9.out, .inl rfl⟩
  | true =>
    obtain ⟨Mr, hRES⟩ : ∃ r, (editRun 8 M (⟨4, true, slink, snode, 0, 0, 0, 0⟩ : Ede) 0).1 = r := ⟨_, rfl⟩
    have HR : Hid (rremP M head xs hash key = (Mr, snode, 0)) := hid (by unfold rremP; (try dsimp only); rw [HS.out]; rw [if_neg (by simp)]; show ((editRun 8 M (⟨4, true, slink, snode, 0, 0, 0, 0⟩ : Ede) 0).1, snode, 0) = _; rw [hRES])
    have hfo := HFO.out
    have HED : Hid (Calls Try.prog 52 #[.agg #[.slice wa M.W.length wc, .slice la M.L.length lc, .bool M.F], .agg #[.int .i64 4, .bool true, .int .u64 ((slink : Nat) : Int), .int .u64 ((snode : Nat) : Int), .int .u64 0, .int .u64 0, .int .u64 0, .int .u64 0]] V_8 (GivesK wa la Mr V_8)) := hid (by
      have := rEdit_any M (⟨4, true, slink, snode, 0, 0, 0, 0⟩ : Ede) wa la wc lc 0 V_8 HM8.out HOK.out HWW.out ⟨by show -9223372036854775808 ≤ (4 : Int) ∧ (4 : Int) ≤ 9223372036854775807; decide, hfo.link, hfo.node, by show 0 < _; decide, by show 0 < _; decide, by show 0 < _; decide, by show 0 < _; decide⟩ (by show (0 : Int) ≤ 4; decide) (by show (4 : Int) ≤ 7; decide)
      rw [hRES] at this
      exact this)
    have s3 := cell_laid (i := 3) KS8.out rfl
    have s4 := cell_laid (i := 4) KS8.out rfl
    obtain ⟨x0, x1, x2⟩ := cells3 KX8.out
    have hV8s := HB8.out.size
    have HRES := hid hRES
    clear hRES hfo
    go_upto_region 4 with (fail)
    obtain ⟨D, hD⟩ : ∃ DX, V_8.drew = DX := ⟨_, rfl⟩
    have hbD : Below V_8.heap.size V_8 D := by rw [← hD]; exact (Below.refl _ _).drew
    have HD := hid hD
    have HBD := hid hbD
    have HEDD : Hid (Calls Try.prog 52 #[.agg #[.slice wa M.W.length wc, .slice la M.L.length lc, .bool M.F], .agg #[.int .i64 4, .bool true, .int .u64 ((slink : Nat) : Int), .int .u64 ((snode : Nat) : Int), .int .u64 0, .int .u64 0, .int .u64 0, .int .u64 0]] D (GivesK wa la Mr D)) := hid (by
      have := rEdit_any M (⟨4, true, slink, snode, 0, 0, 0, 0⟩ : Ede) wa la wc lc 0 D (HM8.out.grow hbD) HOK.out HWW.out ⟨by show -9223372036854775808 ≤ (4 : Int) ∧ (4 : Int) ≤ 9223372036854775807; decide, HFO.out.link, HFO.out.node, by show 0 < _; decide, by show 0 < _; decide, by show 0 < _; decide, by show 0 < _; decide⟩ (by show (0 : Int) ≤ 4; decide) (by show (4 : Int) ≤ 7; decide)
      rw [HRES.out] at this
      exact this)
    clear hD hbD s3 s4 s6 x0 x1 x2 HED
    haveI : Nonempty (RXS3 X S #[.slice wa M.W.length wc, .slice la M.L.length lc, .bool M.F] #[.int .i64 sph, .int .u64 ((shash : Nat) : Int), .int .u64 ((skey : Nat) : Int), .int .u64 ((slink : Nat) : Int), .int .u64 ((snode : Nat) : Int), .int .u64 ((sval : Nat) : Int), .bool true]) := ⟨⟨D, keep_laid KX8.out HBD.out, keep_laid KS8.out HBD.out⟩⟩
    have p0 : ∀ z : RXS3 X S #[.slice wa M.W.length wc, .slice la M.L.length lc, .bool M.F] #[.int .i64 sph, .int .u64 ((shash : Nat) : Int), .int .u64 ((skey : Nat) : Int), .int .u64 ((slink : Nat) : Int), .int .u64 ((snode : Nat) : Int), .int .u64 ((sval : Nat) : Int), .bool true], z.w.cell? ⟨X, 0, none⟩ = some (.slice wa M.W.length wc) := fun z => cell_laid z.bx rfl
    have p1 : ∀ z : RXS3 X S #[.slice wa M.W.length wc, .slice la M.L.length lc, .bool M.F] #[.int .i64 sph, .int .u64 ((shash : Nat) : Int), .int .u64 ((skey : Nat) : Int), .int .u64 ((slink : Nat) : Int), .int .u64 ((snode : Nat) : Int), .int .u64 ((sval : Nat) : Int), .bool true], z.w.cell? ⟨X, 1, none⟩ = some (.slice la M.L.length lc) := fun z => cell_laid z.bx rfl
    have p2 : ∀ z : RXS3 X S #[.slice wa M.W.length wc, .slice la M.L.length lc, .bool M.F] #[.int .i64 sph, .int .u64 ((shash : Nat) : Int), .int .u64 ((skey : Nat) : Int), .int .u64 ((slink : Nat) : Int), .int .u64 ((snode : Nat) : Int), .int .u64 ((sval : Nat) : Int), .bool true], z.w.cell? ⟨X, 2, none⟩ = some (.bool M.F) := fun z => cell_laid z.bx rfl
    have q3 : ∀ z : RXS3 X S #[.slice wa M.W.length wc, .slice la M.L.length lc, .bool M.F] #[.int .i64 sph, .int .u64 ((shash : Nat) : Int), .int .u64 ((skey : Nat) : Int), .int .u64 ((slink : Nat) : Int), .int .u64 ((snode : Nat) : Int), .int .u64 ((sval : Nat) : Int), .bool true], z.w.cell? ⟨S, 3, none⟩ = some (.int .u64 ((slink : Nat) : Int)) := fun z => cell_laid z.bs rfl
    have q4 : ∀ z : RXS3 X S #[.slice wa M.W.length wc, .slice la M.L.length lc, .bool M.F] #[.int .i64 sph, .int .u64 ((shash : Nat) : Int), .int .u64 ((skey : Nat) : Int), .int .u64 ((slink : Nat) : Int), .int .u64 ((snode : Nat) : Int), .int .u64 ((sval : Nat) : Int), .bool true], z.w.cell? ⟨S, 4, none⟩ = some (.int .u64 ((snode : Nat) : Int)) := fun z => cell_laid z.bs rfl
    refine wp_region_mix2 (fun W => ∃ z : RXS3 X S #[.slice wa M.W.length wc, .slice la M.L.length lc, .bool M.F] #[.int .i64 sph, .int .u64 ((shash : Nat) : Int), .int .u64 ((skey : Nat) : Int), .int .u64 ((slink : Nat) : Int), .int .u64 ((snode : Nat) : Int), .int .u64 ((sval : Nat) : Int), .bool true], W = z.w) 13 (.q 0 (.q 1 (.q 2 (.q 3 (.q 4 (.q 5 (.q 6 (.q 8 (.q 9 (.h 7 (.h 10 (.q 11 (.q 12 .done))))))))))))) (by kernel_rfl) (by kernel_rfl) (by rw [HD.out]; exact ⟨⟨D, keep_laid KX8.out HBD.out, keep_laid KS8.out HBD.out⟩, rfl⟩) ?_
    rw [HD.out]
    repeat (refine wpMix2_q rfl rfl ?_; go_big_quiet_step (fail); refine wpQuiet_nil ?_)
    refine wpMix2_h rfl fun R' hR' hO => ?_
    go_wp2_with fail
    refine HEDD.out.mono ?_
    rintro e V_9 ⟨wa', wc', la', lc', rfl, hm, hb9, kw, kl⟩
    have hwl' := hm.w.len
    have hll' := hm.l.len
    have KX9 := hid (keep_laid (keep_laid KX8.out HBD.out) hb9)
    have KS9 := hid (keep_laid (keep_laid KS8.out HBD.out) hb9)
    have KZ9a := hid (keep_laid (keep_laid KZ8.out HBD.out) hb9)
    have HB9a := hid (step (step HB8.out HBD.out) hb9)
    have hZ8 := lt_laid (keep_laid KZ8.out HBD.out)
    have hVD := Nat.le_trans hV8s HBD.out.size
    have apw : apartA wa' Z := kw.apart HLW.out.1 hVZ hZ8
    have apl : apartA la' Z := kl.apart HLW.out.2 hVZ hZ8
    obtain ⟨U, hU, a1, a2, a3, -⟩ := put_mem KZ9a.out (.slice wa' Mr.W.length wc') (.slice la' Mr.L.length lc') (.bool Mr.F)
    have HU := hid hU
    have KZU := hid a1
    have KXU := hid (a2 X _ (by omega) KX9.out)
    have KSU := hid (a2 S _ (by omega) KS9.out)
    have HMU : Hid (MemL U wa' wc' la' lc' Mr) := hid ⟨hm.w.keepNe apw a2, hm.l.keepNe apl a2⟩
    have HBU := hid (a3 V.heap.size V hVZ HB9a.out)
    have KW := hid (kw.mono hVD)
    have KL := hid (kl.mono hVD)
    obtain ⟨z0, zf0, z1, zf1, z2, zf2⟩ := fcl3 KZ9a.out
    clear hU a1 a2 a3 hm hb9 kw kl apw apl
    unfold memV
    go_wp2
    refine hR' _ _ ⟨⟨V_9, KX9.out, KS9.out⟩, rfl⟩ ?_
    clear hR' hO R'
    refine wpMix2_h rfl fun R' hR' hO => ?_
    go_wp2
    rw [← HU.out]
    refine hR' _ _ ⟨⟨U, KXU.out, KSU.out⟩, rfl⟩ ?_
    clear hR' hO R' z0 z1 z2 zf0 zf1 zf2
    repeat (refine wpMix2_q rfl rfl ?_; go_big_quiet_step (fail); refine wpQuiet_nil ?_)
    refine wpMix2_done ?_
    simp only [List.drop_succ_cons, List.drop_nil]
    go_wp2
    refine bodyPost_ret (rRemove_result KZU.out rfl rfl rfl) rfl ?_
    rw [HR.out]
    exact ⟨wa', wc', la', lc', rfl, HMU.out, HBU.out, .inr ⟨KW.out, KL.out⟩⟩
theorem rInsert_result {W : World} {b8 : Nat} {v8_0 v8_1 v8_2 u9 u10 : Value} {tmps : Array Value} (h8 : W.heap[b8]? = some (.cells #[v8_0, v8_1, v8_2] 25 (0, 0))) (q8 : tmps[8]?.getD undef = .pointer (some ⟨b8, 0, none⟩)) (q9 : tmps[9]?.getD undef = u9) (q10 : tmps[10]?.getD undef = u10) :
    (results Try.f19 tmps).run Try.prog W = .ok (.tuple #[.agg #[v8_0, v8_1, v8_2], u9, u10]) W := by
  have e8_0 := cell_laid (i := 0) (v := v8_0) h8 rfl
  have e8_1 := cell_laid (i := 1) (v := v8_1) h8 rfl
  have e8_2 := cell_laid (i := 2) (v := v8_2) h8 rfl
  simp [results, Try.results19, go_sem, e8_0, e8_1, e8_2, q8, q9, q10]
/-- Worlds in which two variables lie so. -/
structure RXN (X Y : Nat) (cs cs' : Array Value) where
  w : World
  bx : w.heap[X]? = some (.cells cs 25 (0, 0))
  by_ : w.heap[Y]? = some (.cells cs' 38 (0, 0))
set_option maxRecDepth 100000 in
set_option maxHeartbeats 16000000 in
theorem rInsert_any (M : Mem) (wa la va : Option Addr) (wc lc n vc head : Nat) (xs : List Nd) (t : Nd) (V : World) (h : MemL V wa wc la lc M) (hok : okM M = true) (hW : ∀ x ∈ M.W, x < 18446744073709551616) (hns : nodesR M head = some xs) (hl : Leads V va n vc (ndcells xs)) (hn : xs.length = n) (hh : head < 18446744073709551616) (ht : t.Ok) :
    Calls Try.prog 19 #[memV wa wc la lc M, .int .u64 ((head : Nat) : Int), .slice va n vc, ndV t] V (GivesKI wa la (rinsP M head xs t) V) := by
  obtain ⟨t0, t1, t2, t3⟩ := t
  have HT := hid ht
  obtain ⟨ht0, ht1, ht2, ht3⟩ := ht
  dsimp only at ht0 ht1 ht2 ht3
  have HM := hid h
  have HLW := hid (h.lowA hok)
  have hwl := h.w.len
  have hll := h.l.len
  have HOK := hid hok
  have HWW := hid hW
  obtain ⟨hfr1, hfr2⟩ := find_run hok hns t3 t1
  have hxf := chain_facts hok hW _ _ (nodesW_chain (nodesR_some hns).1).2
  have HFO := hid (findS_ok (hash := t3) (key := t1) (by assumption) (by assumption) head xs hh (fun x hx => by have := hxf x hx; exact ⟨by omega, this.2.2.2.1⟩))
  obtain ⟨⟨so, sn⟩, hS⟩ : ∃ r, findS t3 t1 head xs = r := ⟨_, rfl⟩
  have hp4 : 4 ≤ so.ph := by have := findS_ph t3 t1 head xs; rw [hS] at this; rw [this]; decide
  rw [hS] at hfr2 HFO
  have hsn : sn ≤ 20000 := by have e1 := findS_len t3 t1 head xs; have e2 := nodesW_len hok (nodesR_some hns).1; rw [hS] at e1; dsimp only at e1; omega
  have HS := hid hS
  have HFI := hid (fun (W : World) (hb : Below V.heap.size V W) => rFind_any M wa la wc lc head t3 t1 so sn W (h.grow hb) hok hW hh (by assumption) (by assumption) hfr2 hp4)
  unfold memV at HFI
  have hn5 : n ≤ 5000 := by have := nodesW_len hok (nodesR_some hns).1; omega
  have HXS := hid (fun x hx => (hxf x hx).2.1)
  have HWO := hid (fun (W : World) (hb : Below V.heap.size V W) => Words_any head xs va n vc W hh (hl.grow hb) hn hn5 (fun x hx => (hxf x hx).2.1))
  have HLI := hid (fun (q : Nat) (W : World) (hb : Below V.heap.size V W) (hq : q ≤ 1000000) => rlive_any M wa la wc lc q W (h.grow hb) (okM_spec hok).2.2.1 hq)
  unfold memV at HLI
  have hnl := hl.len
  have HLL := hid hl
  have HNN := hid hn
  obtain ⟨FT, hFT⟩ : ∃ b, fitsP M head xs (t0, t1, t2, t3) = b := ⟨_, rfl⟩
  have HFT := hid hFT
  have HFT4 : Hid ((decide (t0 ≠ 0) && (List.range' 0 4).all fun k => liveN M (posL t0 k) && !decide (posL t0 k ∈ wordsL head xs)) = FT) := hid hFT
  obtain ⟨V1, hV1, hbV1, hsV1, hlV1⟩ := laid V #[.slice wa M.W.length wc, .slice la M.L.length lc, .bool M.F] 25
  obtain ⟨V2, hV2, hbV2, hsV2, hlV2⟩ := laid V1 #[.int .u64 ((t0 : Nat) : Int), .int .u64 ((t1 : Nat) : Int), .int .u64 ((t2 : Nat) : Int), .int .u64 ((t3 : Nat) : Int)] 38
  obtain ⟨V3, hV3, hbV3, hsV3, hlV3⟩ := laid V2 #[.slice none 0 0, .slice none 0 0, .bool false] 25
  obtain ⟨X, hX⟩ : ∃ X, V.heap.size = X := ⟨_, rfl⟩
  rw [hX] at hlV1
  obtain ⟨Y, hY⟩ : ∃ X, V1.heap.size = X := ⟨_, rfl⟩
  rw [hY] at hlV2
  obtain ⟨Z, hZ⟩ : ∃ X, V2.heap.size = X := ⟨_, rfl⟩
  rw [hZ] at hlV3
  have KX := hid (keep_laid (keep_laid hlV1 hbV2) hbV3)
  have KY := hid (keep_laid hlV2 hbV3)
  have KZ := hid hlV3
  have HB := hid (step (step hbV1 hbV2) hbV3)
  have hVX : V.heap.size ≤ X := by omega
  have hVY : V.heap.size ≤ Y := by omega
  have nXY : X < Y := by omega
  have hVZ : V.heap.size ≤ Z := by omega
  have nXZ : X < Z := by omega
  have nYZ : Y < Z := by omega
  clear hbV1 hsV1 hlV1 hbV2 hsV2 hlV2 hbV3 hsV3 hlV3
  unfold memV ndV
  clear h hok hW hfr1 hfr2 hxf hS hp4 hns hl hn hFT
  go_enter Try.func19, Try.ntmps19
  go_upto_region 1 with (fail)
  clear hX hY hZ
  go_wp2
  go_loopg [14] 4 (fun g t14 wr => ∃ k : Nat, g + k = 4 ∧ t14 = .int .i64 ((k : Nat) : Int) ∧ Hid (wr.heap[X]? = some (.cells #[.slice wa M.W.length wc, .slice la M.L.length lc, .bool M.F] 25 (0, 0)) ∧ wr.heap[Y]? = some (.cells #[.int .u64 ((t0 : Nat) : Int), .int .u64 ((t1 : Nat) : Int), .int .u64 ((t2 : Nat) : Int), .int .u64 ((t3 : Nat) : Int)] 38 (0, 0)) ∧ wr.heap[Z]? = some (.cells #[.slice none 0 0, .slice none 0 0, .bool false] 25 (0, 0)) ∧ Below V.heap.size V wr) ∧ Hid (k = 0 ∨ t0 ≠ 0) ∧ Hid (FT = if k = 0 then FT else (decide (t0 ≠ 0) && (List.range' k g).all fun k => liveN M (posL t0 k) && !decide (posL t0 k ∈ wordsL head xs))))
  case atStart => exact ⟨0, rfl, rfl, hid ⟨KX.out, KY.out, KZ.out, HB.out⟩, hid (.inl rfl), hid (by rw [if_pos rfl])⟩
  case round =>
    clear KX KY KZ HB
    obtain ⟨k, hk, rfl, hF, hNZ, hR⟩ := hrel
    have HK := hid hk
    clear hk
    have HR0 : Hid (FT = (decide (t0 ≠ 0) && (List.range' k gk).all fun k => liveN M (posL t0 k) && !decide (posL t0 k ∈ wordsL head xs))) := hid (by
      have e := hR.out
      split at e
      · rename_i h0
        subst h0
        have : gk = 4 := by have := HK.out; omega
        rw [this]
        exact HFT4.out.symm
      · exact e)
    clear hR
    by_cases hkt : k < 4
    · obtain ⟨g1, hg1⟩ : ∃ g1, gk = g1 + 1 := ⟨gk - 1, by have := HK.out; omega⟩
      obtain ⟨P, hP⟩ : ∃ q, posL t0 k = q := ⟨_, rfl⟩
      have HAT := hid (fun W => rat_any t0 k W ht0 (by omega))
      have hp46 : P ≤ 1000000 := by rw [← hP]; unfold posL; omega
      rw [hP] at HAT
      obtain ⟨L, hL⟩ : ∃ b, liveN M P = b := ⟨_, rfl⟩
      obtain ⟨B, hB⟩ : ∃ b, decide (P ∈ wordsL head xs) = b := ⟨_, rfl⟩
      have HL := hid hL
      have HBB := hid hB
      have HR1 : Hid (FT = (decide (t0 ≠ 0) && ((L && !B) && (List.range' (k + 1) g1).all fun k => liveN M (posL t0 k) && !decide (posL t0 k ∈ wordsL head xs)))) := hid (by
        rw [HR0.out, hg1, List.range'_succ, List.all_cons, hP, hL, hB])
      have HG1 := hid hg1
      clear HR0 hg1 hP hL hB
      obtain ⟨D, hD⟩ : ∃ DX, wr.drew = DX := ⟨_, rfl⟩
      have hbD : Below wr.heap.size wr D := by rw [← hD]; exact (Below.refl _ _).drew
      have HD := hid hD
      have KXD := hid (keep_laid hF.out.1 hbD)
      have KYD := hid (keep_laid hF.out.2.1 hbD)
      have KZD := hid (keep_laid hF.out.2.2.1 hbD)
      have HBD := hid (hF.out.2.2.2.trans (hbD.mono hF.out.2.2.2.size))
      clear hD hbD hF
      haveI : Nonempty (RXN X Y #[.slice wa M.W.length wc, .slice la M.L.length lc, .bool M.F] #[.int .u64 ((t0 : Nat) : Int), .int .u64 ((t1 : Nat) : Int), .int .u64 ((t2 : Nat) : Int), .int .u64 ((t3 : Nat) : Int)]) := ⟨⟨D, KXD.out, KYD.out⟩⟩
      have p0 : ∀ z : RXN X Y #[.slice wa M.W.length wc, .slice la M.L.length lc, .bool M.F] #[.int .u64 ((t0 : Nat) : Int), .int .u64 ((t1 : Nat) : Int), .int .u64 ((t2 : Nat) : Int), .int .u64 ((t3 : Nat) : Int)], z.w.cell? ⟨X, 0, none⟩ = some (.slice wa M.W.length wc) := fun z => cell_laid z.bx rfl
      have p1 : ∀ z : RXN X Y #[.slice wa M.W.length wc, .slice la M.L.length lc, .bool M.F] #[.int .u64 ((t0 : Nat) : Int), .int .u64 ((t1 : Nat) : Int), .int .u64 ((t2 : Nat) : Int), .int .u64 ((t3 : Nat) : Int)], z.w.cell? ⟨X, 1, none⟩ = some (.slice la M.L.length lc) := fun z => cell_laid z.bx rfl
      have p2 : ∀ z : RXN X Y #[.slice wa M.W.length wc, .slice la M.L.length lc, .bool M.F] #[.int .u64 ((t0 : Nat) : Int), .int .u64 ((t1 : Nat) : Int), .int .u64 ((t2 : Nat) : Int), .int .u64 ((t3 : Nat) : Int)], z.w.cell? ⟨X, 2, none⟩ = some (.bool M.F) := fun z => cell_laid z.bx rfl
      have q0 : ∀ z : RXN X Y #[.slice wa M.W.length wc, .slice la M.L.length lc, .bool M.F] #[.int .u64 ((t0 : Nat) : Int), .int .u64 ((t1 : Nat) : Int), .int .u64 ((t2 : Nat) : Int), .int .u64 ((t3 : Nat) : Int)], z.w.cell? ⟨Y, 0, none⟩ = some (.int .u64 ((t0 : Nat) : Int)) := fun z => cell_laid z.by_ rfl
      by_cases h0 : t0 = 0
      · have tz : (((t0 : Nat) : Int) == 0) = true := by simp; omega
        have HE : FT = false := by rw [HR1.out, decide_eq_false (by simp [h0])]; rfl
        have HR : Hid (rinsP M head xs (t0, t1, t2, t3) = (zeroM, 0, 2)) := hid (by unfold rinsP; rw [if_pos (by rw [HFT.out]; exact HE)])
        clear h0 HE
        go_upto_region 4 with (fail)
        refine wp_region_mix2 (fun W => ∃ z : RXN X Y #[.slice wa M.W.length wc, .slice la M.L.length lc, .bool M.F] #[.int .u64 ((t0 : Nat) : Int), .int .u64 ((t1 : Nat) : Int), .int .u64 ((t2 : Nat) : Int), .int .u64 ((t3 : Nat) : Int)], W = z.w) 22 (.q 0 (.q 1 (.q 2 (.q 3 (.q 4 (.q 5 (.q 6 (.q 7 (.h 8 (.h 9 (.q 10 (.q 11 (.q 12 (.q 13 (.q 14 (.q 16 (.q 17 (.q 18 (.h 15 (.h 19 (.h 20 (.q 21 .done)))))))))))))))))))))) (by kernel_rfl) (by kernel_rfl) (by rw [HD.out]; exact ⟨⟨D, KXD.out, KYD.out⟩, rfl⟩) ?_
        rw [HD.out]
        repeat (refine wpMix2_q rfl rfl ?_; go_big_quiet_step (fail); refine wpQuiet_nil ?_)
        refine wpMix2_h rfl fun R' hR' hO => ?_
        go_wp2
        refine hR' _ _ ⟨⟨D, KXD.out, KYD.out⟩, rfl⟩ ?_
        clear hR' hO R'
        refine wpMix2_h rfl fun R' hR' hO => ?_
        go_wp2
        refine hR' _ _ ⟨⟨D, KXD.out, KYD.out⟩, rfl⟩ ?_
        clear hR' hO R'
        repeat (refine wpMix2_q rfl rfl ?_; go_big_quiet_step (fail); refine wpQuiet_nil ?_)
        refine wpMix2_h rfl fun R' hR' hO => ?_
        go_wp2
        refine hR' _ _ ⟨⟨D, KXD.out, KYD.out⟩, rfl⟩ ?_
        clear hR' hO R'
        refine wpMix2_h rfl fun R' hR' hO => ?_
        go_wp2
        refine hR' _ _ ⟨⟨D, KXD.out, KYD.out⟩, rfl⟩ ?_
        clear hR' hO R'
        refine wpMix2_h rfl fun R' hR' hO => ?_
        go_wp2
        refine hR' _ _ ⟨⟨D, KXD.out, KYD.out⟩, rfl⟩ ?_
        clear hR' hO R'
        repeat (refine wpMix2_q rfl rfl ?_; go_big_quiet_step (fail); refine wpQuiet_nil ?_)
        refine wpMix2_done ?_
        simp only [List.drop_succ_cons, List.drop_nil]
        clear p0 p1 p2 q0
        obtain ⟨U1, hU1, a1, -, a3, -⟩ := put_mem KZD.out (.slice none 0 0) (.slice none 0 0) (.bool false)
        have HU1 := hid hU1
        have KZ9 := hid a1
        have HB9 := hid (a3 V.heap.size V hVZ HBD.out)
        obtain ⟨z0, zf0, z1, zf1, z2, zf2⟩ := fcl3 KZD.out
        clear hU1 a1 a3
        go_wp2
        rw [← HU1.out]
        refine bodyPost_ret (rInsert_result KZ9.out rfl rfl rfl) rfl ?_
        rw [HR.out]
        exact ⟨none, 0, none, 0, rfl, memL_zero _, HB9.out, .inl rfl⟩
      · have tz : (((t0 : Nat) : Int) == 0) = false := by simp; omega
        have HR2 : Hid (FT = ((L && !B) && (List.range' (k + 1) g1).all fun k => liveN M (posL t0 k) && !decide (posL t0 k ∈ wordsL head xs))) := hid (by rw [HR1.out, decide_eq_true h0, Bool.true_and])
        have H0N := hid h0
        clear h0 HR1
        go_upto_region 4 with (fail)
        refine wp_region_mix2 (fun W => ∃ z : RXN X Y #[.slice wa M.W.length wc, .slice la M.L.length lc, .bool M.F] #[.int .u64 ((t0 : Nat) : Int), .int .u64 ((t1 : Nat) : Int), .int .u64 ((t2 : Nat) : Int), .int .u64 ((t3 : Nat) : Int)], W = z.w) 22 (.q 0 (.q 1 (.q 2 (.q 3 (.q 4 (.q 5 (.q 6 (.q 7 (.h 8 (.h 9 (.q 10 (.q 11 (.q 12 (.q 13 (.q 14 (.q 16 (.q 17 (.q 18 (.h 15 (.h 19 (.h 20 (.q 21 .done)))))))))))))))))))))) (by kernel_rfl) (by kernel_rfl) (by rw [HD.out]; exact ⟨⟨D, KXD.out, KYD.out⟩, rfl⟩) ?_
        rw [HD.out]
        repeat (refine wpMix2_q rfl rfl ?_; go_big_quiet_step (fail); refine wpQuiet_nil ?_)
        refine wpMix2_h rfl fun R' hR' hO => ?_
        go_wp2_with fail
        refine (HAT.out D).mono ?_
        rintro e wq ⟨rfl, hwq⟩
        rw [hwq]
        clear hwq wq
        go_wp2
        refine hR' _ _ ⟨⟨D, KXD.out, KYD.out⟩, rfl⟩ ?_
        clear hR' hO R'
        refine wpMix2_h rfl fun R' hR' hO => ?_
        go_wp2_with fail
        refine (HLI.out P D HBD.out hp46).mono ?_
        rw [HL.out]
        rintro e w3 ⟨rfl, hb3⟩
        have KX3 := hid (keep_laid KXD.out hb3)
        have KY3 := hid (keep_laid KYD.out hb3)
        have KZ3 := hid (keep_laid KZD.out hb3)
        have HB3 := hid (HBD.out.trans (hb3.mono HBD.out.size))
        clear hb3
        go_wp2
        refine hR' _ _ ⟨⟨w3, KX3.out, KY3.out⟩, rfl⟩ ?_
        clear hR' hO R'
        cases L with
        | false =>
          have HE : FT = false := by rw [HR2.out]; rfl
          have HR : Hid (rinsP M head xs (t0, t1, t2, t3) = (zeroM, 0, 2)) := hid (by unfold rinsP; rw [if_pos (by rw [HFT.out]; exact HE)])
          clear HE
          repeat (refine wpMix2_q rfl rfl ?_; go_big_quiet_step (fail); refine wpQuiet_nil ?_)
          refine wpMix2_h rfl fun R' hR' hO => ?_
          go_wp2
          refine hR' _ _ ⟨⟨w3, KX3.out, KY3.out⟩, rfl⟩ ?_
          clear hR' hO R'
          refine wpMix2_h rfl fun R' hR' hO => ?_
          go_wp2
          refine hR' _ _ ⟨⟨w3, KX3.out, KY3.out⟩, rfl⟩ ?_
          clear hR' hO R'
          refine wpMix2_h rfl fun R' hR' hO => ?_
          go_wp2
          refine hR' _ _ ⟨⟨w3, KX3.out, KY3.out⟩, rfl⟩ ?_
          clear hR' hO R'
          repeat (refine wpMix2_q rfl rfl ?_; go_big_quiet_step (fail); refine wpQuiet_nil ?_)
          refine wpMix2_done ?_
          simp only [List.drop_succ_cons, List.drop_nil]
          clear p0 p1 p2 q0
          obtain ⟨U1, hU1, a1, -, a3, -⟩ := put_mem KZ3.out (.slice none 0 0) (.slice none 0 0) (.bool false)
          have HU1 := hid hU1
          have KZ9 := hid a1
          have HB9 := hid (a3 V.heap.size V hVZ HB3.out)
          obtain ⟨z0, zf0, z1, zf1, z2, zf2⟩ := fcl3 KZ3.out
          clear hU1 a1 a3
          go_wp2
          rw [← HU1.out]
          refine bodyPost_ret (rInsert_result KZ9.out rfl rfl rfl) rfl ?_
          rw [HR.out]
          exact ⟨none, 0, none, 0, rfl, memL_zero _, HB9.out, .inl rfl⟩
        | true =>
          repeat (refine wpMix2_q rfl rfl ?_; go_big_quiet_step (fail); refine wpQuiet_nil ?_)
          refine wpMix2_h rfl fun R' hR' hO => ?_
          go_wp2_with fail
          refine (HWO.out w3 HB3.out).mono ?_
          rintro e w4 ⟨v, rfl, hrow, hb4⟩
          obtain ⟨wda, wdc, rfl, hlw⟩ := Leads.of_own hrow
          have hwdl := hlw.len
          have KX4 := hid (keep_laid KX3.out hb4)
          have KY4 := hid (keep_laid KY3.out hb4)
          have KZ4 := hid (keep_laid KZ3.out hb4)
          have HB4 := hid (HB3.out.trans (hb4.mono HB3.out.size))
          have HHA := hid (has_any (wordsL head xs) wda (wordsL head xs).length wdc P w4 hlw rfl)
          rw [HBB.out] at HHA
          obtain ⟨nw, hnw⟩ : ∃ n, (wordsL head xs).length = n := ⟨_, rfl⟩
          rw [hnw] at HHA hwdl ⊢
          clear hb4 hrow hlw hnw
          go_wp2
          refine hR' _ _ ⟨⟨w4, KX4.out, KY4.out⟩, rfl⟩ ?_
          clear hR' hO R'
          refine wpMix2_h rfl fun R' hR' hO => ?_
          go_wp2_with fail
          refine (HAT.out w4).mono ?_
          rintro e wq ⟨rfl, hwq⟩
          rw [hwq]
          clear hwq wq
          go_wp2
          refine hR' _ _ ⟨⟨w4, KX4.out, KY4.out⟩, rfl⟩ ?_
          clear hR' hO R'
          refine wpMix2_h rfl fun R' hR' hO => ?_
          go_wp2_with fail
          refine HHA.out.mono ?_
          rintro e wq ⟨rfl, hwq⟩
          rw [hwq]
          clear hwq wq
          go_wp2
          refine hR' _ _ ⟨⟨w4, KX4.out, KY4.out⟩, rfl⟩ ?_
          clear hR' hO R'
          repeat (refine wpMix2_q rfl rfl ?_; go_big_quiet_step (fail); refine wpQuiet_nil ?_)
          refine wpMix2_done ?_
          simp only [List.drop_succ_cons, List.drop_nil]
          clear p0 p1 p2 q0
          cases B with
          | true =>
            have HE : FT = false := by rw [HR2.out]; rfl
            have HR : Hid (rinsP M head xs (t0, t1, t2, t3) = (zeroM, 0, 2)) := hid (by unfold rinsP; rw [if_pos (by rw [HFT.out]; exact HE)])
            clear HE
            obtain ⟨U1, hU1, a1, -, a3, -⟩ := put_mem KZ4.out (.slice none 0 0) (.slice none 0 0) (.bool false)
            have HU1 := hid hU1
            have KZ9 := hid a1
            have HB9 := hid (a3 V.heap.size V hVZ HB4.out)
            obtain ⟨z0, zf0, z1, zf1, z2, zf2⟩ := fcl3 KZ4.out
            clear hU1 a1 a3
            go_wp2
            rw [← HU1.out]
            refine bodyPost_ret (rInsert_result KZ9.out rfl rfl rfl) rfl ?_
            rw [HR.out]
            exact ⟨none, 0, none, 0, rfl, memL_zero _, HB9.out, .inl rfl⟩
          | false =>
            have HR3 : Hid (FT = if k + 1 = 0 then FT else (decide (t0 ≠ 0) && (List.range' (k + 1) g1).all fun k => liveN M (posL t0 k) && !decide (posL t0 k ∈ wordsL head xs))) := hid (by rw [if_neg (by omega), decide_eq_true H0N.out, Bool.true_and]; exact HR2.out)
            go_wp2
            go_roundg (gk - 1)
            case measure => have := HK.out; omega
            case rel => exact ⟨k + 1, by have := HK.out; omega, by go_num, hid ⟨KX4.out, KY4.out, KZ4.out, HB4.out⟩, hid (.inr H0N.out), hid (by rw [show gk - 1 = g1 by have := HG1.out; omega]; exact HR3.out)⟩
    · have hg0 : gk = 0 := by have := HK.out; omega
      have e4 : k = 4 := by have := HK.out; omega
      have HNZ := hid (show t0 ≠ 0 by rcases hNZ.out with e | e <;> omega)
      have hFT : FT = decide (t0 ≠ 0) := by rw [HR0.out, hg0]; simp
      have hFT' : FT = true ∨ FT = false := by cases FT <;> simp
      have HFT := hid (show fitsP M head xs (t0, t1, t2, t3) = true by
        rw [HFT.out]
        rcases hFT' with e | e
        · exact e
        · exfalso
          exact absurd (hFT.symm.trans e) (by
            have := HNZ.out
            simp [this]))
      obtain ⟨Wa, hWa⟩ : ∃ W, wr = W := ⟨_, rfl⟩
      have KXa := hid hF.out.1
      have KYa := hid hF.out.2.1
      have KZa := hid hF.out.2.2.1
      have HBa := hid hF.out.2.2.2
      rw [hWa] at KXa KYa KZa HBa ⊢
      subst e4
      clear hWa hF hg0 hFT hFT' HR0 hkt
      obtain ⟨x0, x1, x2⟩ := cells3 KXa.out
      obtain ⟨y0, y1, y2, y3⟩ := ncl4 KYa.out
      go_wp2_with fail
      refine (HFI.out Wa HBa.out).mono ?_
      rintro e V_5 ⟨rfl, hb5⟩
      have KX5 := keep_laid KXa.out hb5
      have KY5 := keep_laid KYa.out hb5
      have KZ5 := keep_laid KZa.out hb5
      have HB5 := hid (HBa.out.trans (hb5.mono HBa.out.size))
      obtain ⟨sph, shash, skey, slink, snode, sval, sfound⟩ := so
      dsimp only
      obtain ⟨V_7, hV_7, hb7, hs7, hl7⟩ := laid V_5 #[.int .i64 0, .int .u64 0, .int .u64 0, .int .u64 0, .int .u64 0, .int .u64 0, .bool false] 40
      obtain ⟨S, hS⟩ : ∃ X, V_5.heap.size = X := ⟨_, rfl⟩
      rw [hS] at hl7
      obtain ⟨V_8, hV_8, a1, a2, a3, a4, a5⟩ := putM7 hl7 (.int .i64 sph) (.int .u64 ((shash : Nat) : Int)) (.int .u64 ((skey : Nat) : Int)) (.int .u64 ((slink : Nat) : Int)) (.int .u64 ((snode : Nat) : Int)) (.int .u64 ((sval : Nat) : Int)) (.bool sfound)
      obtain ⟨z0, zf0, z1, zf1, z2, zf2, z3, zf3, z4, zf4, z5, zf5, z6, zf6⟩ := fcl7 hl7
      have hVS : V.heap.size ≤ S := by have := HB5.out.size; omega
      have hZS : Z < S := by have := lt_laid KZ5; omega
      have KS8 := hid a1
      have KX8 := hid (a2 X _ (by omega) (keep_laid KX5 hb7))
      have KZ8 := hid (a2 Z _ (by omega) (keep_laid KZ5 hb7))
      have KY8 := hid (a2 Y _ (by omega) (keep_laid KY5 hb7))
      have HB8 := hid (a3 V.heap.size V hVS (step HB5.out hb7))
      have HM8 : Hid (MemL V_8 wa wc la lc M) := hid ⟨((HM.out.grow HB5.out).grow hb7).w.keepNe (HLW.out.1.apart hVS) a2, ((HM.out.grow HB5.out).grow hb7).l.keepNe (HLW.out.2.apart hVS) a2⟩
      have HV8 := hid hV_8
      clear hV_8 a1 a2 a3 a4 a5 hb7 hs7 hl7 hb5 KX5 KZ5 KY5 x0 x1 x2 y0 y1 y2 y3
      unfold skV
      dsimp only
      go_upto_region 8 with (fail)
      rw [← HV8.out]
      clear z0 z1 z2 z3 z4 z5 z6 zf0 zf1 zf2 zf3 zf4 zf5 zf6
      have s6 := cell_laid (i := 6) KS8.out rfl
      cases sfound with
      | true =>
        have HR : Hid (rinsP M head xs (t0, t1, t2, t3) = (zeroM, 0, 5)) := hid (by unfold rinsP; rw [if_neg (by rw [HFT.out]; decide)]; (try dsimp only); rw [if_pos (by rw [HS.out])])
        obtain ⟨U1, hU1, a1, -, a3, -⟩ := put_mem KZ8.out (.slice none 0 0) (.slice none 0 0) (.bool false)
        have HU1 := hid hU1
        have KZ9 := hid a1
        have HB9 := hid (a3 V.heap.size V hVZ HB8.out)
        obtain ⟨z0, zf0, z1, zf1, z2, zf2⟩ := fcl3 KZ8.out
        clear hU1 a1 a3
        go_wp2
        rw [← HU1.out]
        refine bodyPost_ret (rInsert_result KZ9.out rfl rfl rfl) rfl ?_
        rw [HR.out]
        exact ⟨none, 0, none, 0, rfl, memL_zero _, HB9.out, .inl rfl⟩
      | false =>
        obtain ⟨Mr, hRES⟩ : ∃ r, (editRun 8 M (⟨0, false, slink, t0, t1, t2, t3, snode⟩ : Ede) 0).1 = r := ⟨_, rfl⟩
        have HR : Hid (rinsP M head xs (t0, t1, t2, t3) = (Mr, sn + 5, 0)) := hid (by unfold rinsP; rw [if_neg (by rw [HFT.out]; decide)]; (try dsimp only); rw [HS.out]; rw [if_neg (by simp)]; show ((editRun 8 M (⟨0, false, slink, t0, t1, t2, t3, snode⟩ : Ede) 0).1, sn + 5, 0) = _; rw [hRES])
        have hfo := HFO.out
        have HED : Hid (Calls Try.prog 52 #[.agg #[.slice wa M.W.length wc, .slice la M.L.length lc, .bool M.F], .agg #[.int .i64 0, .bool false, .int .u64 ((slink : Nat) : Int), .int .u64 ((t0 : Nat) : Int), .int .u64 ((t1 : Nat) : Int), .int .u64 ((t2 : Nat) : Int), .int .u64 ((t3 : Nat) : Int), .int .u64 ((snode : Nat) : Int)]] V_8 (GivesK wa la Mr V_8)) := hid (by
          have := rEdit_any M (⟨0, false, slink, t0, t1, t2, t3, snode⟩ : Ede) wa la wc lc 0 V_8 HM8.out HOK.out HWW.out ⟨by show -9223372036854775808 ≤ (0 : Int) ∧ (0 : Int) ≤ 9223372036854775807; decide, hfo.link, HT.out.1, HT.out.2.1, HT.out.2.2.1, HT.out.2.2.2, hfo.node⟩ (by show (0 : Int) ≤ 0; decide) (by show (0 : Int) ≤ 7; decide)
          rw [hRES] at this
          exact this)
        have s3 := cell_laid (i := 3) KS8.out rfl
        have s4 := cell_laid (i := 4) KS8.out rfl
        obtain ⟨x0, x1, x2⟩ := cells3 KX8.out
        obtain ⟨y0, y1, y2, y3⟩ := ncl4 KY8.out
        have hV8s := HB8.out.size
        clear hRES hfo
        go_wp2_with fail
        refine HED.out.mono ?_
        rintro e V_9 ⟨wa', wc', la', lc', rfl, hm, hb9, kw, kl⟩
        have hwl' := hm.w.len
        have hll' := hm.l.len
        have KZ9a := keep_laid KZ8.out hb9
        have HB9a := step HB8.out hb9
        have hZ8 := lt_laid KZ8.out
        have apw : apartA wa' Z := kw.apart HLW.out.1 hVZ hZ8
        have apl : apartA la' Z := kl.apart HLW.out.2 hVZ hZ8
        obtain ⟨U, hU, a1, a2, a3, -⟩ := put_mem KZ9a (.slice wa' Mr.W.length wc') (.slice la' Mr.L.length lc') (.bool Mr.F)
        have HU := hid hU
        have KZU := hid a1
        have HMU : Hid (MemL U wa' wc' la' lc' Mr) := hid ⟨hm.w.keepNe apw a2, hm.l.keepNe apl a2⟩
        have HBU := hid (a3 V.heap.size V hVZ HB9a)
        have KW := hid (kw.mono hV8s)
        have KL := hid (kl.mono hV8s)
        obtain ⟨z0, zf0, z1, zf1, z2, zf2⟩ := fcl3 KZ9a
        clear hU a1 a2 a3 hm hb9 kw kl KZ9a HB9a apw apl s3 s4 s6 x0 x1 x2 y0 y1 y2 y3
        unfold memV
        go_wp2
        rw [← HU.out]
        refine bodyPost_ret (rInsert_result KZU.out rfl rfl rfl) rfl ?_
        rw [HR.out]
        exact ⟨wa', wc', la', lc', by go_num, HMU.out, HBU.out, .inr ⟨KW.out, KL.out⟩⟩
end Go.Proofs.Ytdkkjcflcegeoaa
