/- Lists (printed by gen_ls16.py): Insert, Remove. -/
import Derived.Test.YtdkkjcflcegeoaaLs15
namespace Go.Proofs.Ytdkkjcflcegeoaa
open Go.RowKit
open Go.Proofs
set_option linter.unusedVariables false
attribute [local go_sem] Oper.semAt_some

/-- Who edits, on its way. -/
structure Edl (B R E Z : Nat) (V : World) (M : Mem) (s : Ede) (n g : Nat) (res : Mem × Ede × Nat) (W : World) : Prop where
  run : RunC B R M n W
  be : W.heap[E]? = some (.cells (ed8 s) 53 (0, 0))
  bz : W.heap[Z]? = some (.cells #[.slice none 0 0, .slice none 0 0, .bool false] 25 (0, 0))
  below : Below V.heap.size V W
  ok : okM M = true
  wok : ∀ x ∈ M.W, x < 18446744073709551616
  sok : s.Ok
  p0 : 0 ≤ s.ph
  p7 : s.ph ≤ 7
  res : editRun g M s n = res
  fuel : 6 ≤ g + s.ph
  cnt : g + n ≤ 5000
theorem Edl.grow {B R E Z : Nat} {V : World} {M : Mem} {s : Ede} {n g : Nat} {res : Mem × Ede × Nat} {W W' : World} (h : Edl B R E Z V M s n g res W) (hb : Below W.heap.size W W') : Edl B R E Z V M s n g res W' :=
  ⟨h.run.grow hb, keep_laid h.be hb, keep_laid h.bz hb, h.below.trans (hb.mono h.below.size), h.ok, h.wok, h.sok, h.p0, h.p7, h.res, h.fuel, h.cnt⟩
theorem editRun_step {f : Nat} {M M' : Mem} {s s' : Ede} {b : Bool} {n : Nat} (h : ¬ 6 ≤ s.ph) (e : editE M s = (M', s', b)) : editRun (f + 1) M s n = editRun f M' s' (n + 1) := by
  conv => lhs; unfold editRun
  rw [if_neg h, e]
/-- What Insert gives. -/
def insP (M : Mem) (head : Nat) (t : Nd) : Mem × Nat × Nat := if (nodesP M head).2 ≠ 0 then (zeroM, 0, (nodesP M head).2) else
  if fitsP M head (nodesP M head).1 t = false then (zeroM, 0, 2) else
  if (findS t.2.2.2 t.2.1 head (nodesP M head).1).1.found = true then (zeroM, 0, 5) else
  ((editRun 8 M (putK (findS t.2.2.2 t.2.1 head (nodesP M head).1).1.link t (findS t.2.2.2 t.2.1 head (nodesP M head).1).1.node) (findS t.2.2.2 t.2.1 head (nodesP M head).1).2).1,
   (editRun 8 M (putK (findS t.2.2.2 t.2.1 head (nodesP M head).1).1.link t (findS t.2.2.2 t.2.1 head (nodesP M head).1).1.node) (findS t.2.2.2 t.2.1 head (nodesP M head).1).2).2.2, 0)
/-- What Remove gives. -/
def remP (M : Mem) (head hash key : Nat) : Mem × Nat × Nat := if (nodesP M head).2 ≠ 0 then (zeroM, 0, (nodesP M head).2) else
  if (findS hash key head (nodesP M head).1).1.found = false then (zeroM, 0, 4) else
  ((editRun 8 M (cutK (findS hash key head (nodesP M head).1).1.link (findS hash key head (nodesP M head).1).1.node) (findS hash key head (nodesP M head).1).2).1, (findS hash key head (nodesP M head).1).1.node, 0)
def GivesI (R : Mem × Nat × Nat) (w : World) (e : Ending) (W : World) : Prop := ∃ wa wc la lc, e = .returned (.tuple #[memV wa wc la lc R.1, .int .i64 ((R.2.1 : Nat) : Int), .int .i64 ((R.2.2 : Nat) : Int)]) ∧ MemO w.heap.size wa wc la lc R.1 W ∧ Below w.heap.size w W
def GivesU (R : Mem × Nat × Nat) (w : World) (e : Ending) (W : World) : Prop := ∃ wa wc la lc, e = .returned (.tuple #[memV wa wc la lc R.1, .int .u64 ((R.2.1 : Nat) : Int), .int .i64 ((R.2.2 : Nat) : Int)]) ∧ MemO w.heap.size wa wc la lc R.1 W ∧ Below w.heap.size w W
/-- A world in which a variable lies so. -/
structure RRn (R S : Nat) (cs cs' : Array Value) where
  w : World
  br : w.heap[R]? = some (.cells cs 98 (0, 0))
  bs : w.heap[S]? = some (.cells cs' 40 (0, 0))
theorem findS_ok {hash key : Nat} (hha : hash < 18446744073709551616) (hke : key < 18446744073709551616) : ∀ (link : Nat) (xs : List Nd), link < 18446744073709551616 → (∀ x ∈ xs, x.1 + 2 < 18446744073709551616 ∧ x.2.2.1 < 18446744073709551616) → (findS hash key link xs).1.Ok
  | link, [], hl, hx => ⟨by show -9223372036854775808 ≤ (4 : Int) ∧ (4 : Int) ≤ _; decide, hha, hke, hl, by show 0 < _; decide, by show 0 < _; decide⟩
  | link, x :: r, hl, hx => by
    have hx0 := hx x (List.mem_cons_self ..)
    have hr := fun y hy => hx y (List.mem_cons_of_mem _ hy)
    unfold findS
    split
    · exact findS_ok hha hke _ r (by omega) hr
    · split
      · exact ⟨by show -9223372036854775808 ≤ (4 : Int) ∧ (4 : Int) ≤ _; decide, hha, hke, hl, by show x.1 < _; omega, by show 0 < _; decide⟩
      · split
        · exact findS_ok hha hke _ r (by omega) hr
        · split
          · exact ⟨by show -9223372036854775808 ≤ (4 : Int) ∧ (4 : Int) ≤ _; decide, hha, hke, hl, by show x.1 < _; omega, by show 0 < _; decide⟩
          · exact ⟨by show -9223372036854775808 ≤ (4 : Int) ∧ (4 : Int) ≤ _; decide, hha, hke, hl, by show x.1 < _; omega, hx0.2⟩
theorem chain_facts {M : Mem} (hok : okM M = true) (hW : ∀ x ∈ M.W, x < 18446744073709551616) : ∀ (p : Nat) (xs : List Nd), ChainP M p xs → ∀ x ∈ xs, x.1 < 4096 ∧ x.Ok
  | p, [], h, x, hx => by cases hx
  | p, y :: r, h, x, hx => by
    obtain ⟨h1, h2, h3, h4⟩ := h
    rcases List.mem_cons.1 hx with rfl | hx
    · have := live_small hok (h3 0 (by decide))
      rw [h1]
      exact ⟨this.1, by show p < _; omega, wAt_lt hW _ _, wAt_lt hW _ _, wAt_lt hW _ _⟩
    · exact chain_facts hok hW _ r h4 x hx
theorem nodesP_nodes {M : Mem} {head : Nat} (hW : ∀ x ∈ M.W, x < 18446744073709551616) (h : (nodesP M head).2 = 0) : ∀ x ∈ (nodesP M head).1, x.1 < 4096 ∧ x.Ok := by
  obtain ⟨h1, h2⟩ := nodesP_ok h
  obtain ⟨h3, -⟩ := nodesR_some h2
  exact chain_facts h1 hW _ _ (nodesW_chain h3).2
theorem Insert_result {W : World} {b6 : Nat} {v6_0 v6_1 v6_2 u7 u8 : Value} {tmps : Array Value} (h6 : W.heap[b6]? = some (.cells #[v6_0, v6_1, v6_2] 25 (0, 0))) (q6 : tmps[6]?.getD undef = .pointer (some ⟨b6, 0, none⟩)) (q7 : tmps[7]?.getD undef = u7) (q8 : tmps[8]?.getD undef = u8) :
    (results Try.f17 tmps).run Try.prog W = .ok (.tuple #[.agg #[v6_0, v6_1, v6_2], u7, u8]) W := by
  have e6_0 := cell_laid (i := 0) (v := v6_0) h6 rfl
  have e6_1 := cell_laid (i := 1) (v := v6_1) h6 rfl
  have e6_2 := cell_laid (i := 2) (v := v6_2) h6 rfl
  simp [results, Try.results17, go_sem, e6_0, e6_1, e6_2, q6, q7, q8]
set_option maxRecDepth 100000 in
set_option maxHeartbeats 8000000 in
theorem Insert_any (M : Mem) (wa la : Option Addr) (wc lc head : Nat) (t : Nd) (V : World) (h : MemL V wa wc la lc M) (hW : ∀ x ∈ M.W, x < 18446744073709551616) (hh : head < 18446744073709551616) (ht : t.Ok) :
    Calls Try.prog 17 #[memV wa wc la lc M, .int .u64 ((head : Nat) : Int), ndV t] V (GivesI (insP M head t) V) := by
  obtain ⟨t0, t1, t2, t3⟩ := t
  obtain ⟨ht0, ht1, ht2, ht3⟩ := ht
  dsimp only at ht0 ht1 ht2 ht3
  have hha := ht3
  have hke := ht1
  obtain ⟨V1, hV1, hbV1, hsV1, hlV1⟩ := laid V #[.slice wa M.W.length wc, .slice la M.L.length lc, .bool M.F] 25
  obtain ⟨V2, hV2, hbV2, hsV2, hlV2⟩ := laid V1 #[.int .u64 ((t0 : Nat) : Int), .int .u64 ((t1 : Nat) : Int), .int .u64 ((t2 : Nat) : Int), .int .u64 ((t3 : Nat) : Int)] 38
  obtain ⟨V3, hV3, hbV3, hsV3, hlV3⟩ := laid V2 #[.slice none 0 0, .slice none 0 0, .bool false] 25
  obtain ⟨X, hX⟩ : ∃ X, V.heap.size = X := ⟨_, rfl⟩
  rw [hX] at hlV1
  obtain ⟨Y, hY⟩ : ∃ X, V1.heap.size = X := ⟨_, rfl⟩
  rw [hY] at hlV2
  obtain ⟨Z, hZ⟩ : ∃ X, V2.heap.size = X := ⟨_, rfl⟩
  rw [hZ] at hlV3
  have KX := hid (keep_laid (keep_laid hlV1 hbV2) hbV3)
  have KY := hid (keep_laid hlV2 hbV3)
  have KZ := hid hlV3
  have HB := hid (step (step hbV1 hbV2) hbV3)
  have hVX : V.heap.size ≤ X := by omega
  have hVY : V.heap.size ≤ Y := by omega
  have nXY : X < Y := by omega
  have hVZ : V.heap.size ≤ Z := by omega
  have nXZ : X < Z := by omega
  have nYZ : Y < Z := by omega
  clear hbV1 hsV1 hlV1 hbV2 hsV2 hlV2 hbV3 hsV3 hlV3
  have HM := hid (h.grow HB.out)
  have HNO := hid (Nodes_any M wa la wc lc head V3 HM.out hh hW)
  have hwl := h.w.len
  have hll := h.l.len
  have HOW := hid (fun (ok : okM M = true) (W : World) (hb : Below V3.heap.size V3 W) => lsown_any M wa la wc lc W (HM.out.grow hb) ok)
  have HFI := hid (fun (xs : List Nd) (a : Option Addr) (n cap : Nat) (W : World) (ok : okM M = true) (hb : Below V3.heap.size V3 W) (hl : Leads W a n cap (ndcells xs)) (hn : xs.length = n) (hn5 : n ≤ 5000) (hx : ∀ x ∈ xs, x.1 < 18446744073709551616) => fits_any M wa la wc lc head xs (t0, t1, t2, t3) a n cap W (HM.out.grow hb) ok hh hl hn hn5 hx ht0)
  have HPU := hid (fun (link next : Nat) (W : World) => Put_any link next (t0, t1, t2, t3) W)
  unfold memV ndV at HFI
  unfold ndV edV putK at HPU
  unfold memV at HNO HOW ⊢
  obtain ⟨⟨xs, code⟩, hN⟩ : ∃ r, nodesP M head = r := ⟨_, rfl⟩
  have HXS := hid (nodesP_nodes (M := M) (head := head) hW)
  rw [hN] at HNO HXS
  have HN := hid hN
  have HWW := hid hW
  have HBN := hid (show head < 18446744073709551616 ∧ t3 < 18446744073709551616 ∧ t1 < 18446744073709551616 from ⟨hh, hha, hke⟩)
  unfold ndV
  obtain ⟨x0, x1, x2⟩ := cells3 KX.out
  clear h hW hN hha hke
  go_enter Try.func17, Try.ntmps17
  go_wp2_with fail
  refine HNO.out.mono ?_
  rintro e V_3 ⟨v, rfl, hrow, hb3⟩
  obtain ⟨va, vc, rfl, hlv⟩ := Leads.of_own hrow
  have hvl := hlv.len
  have KX3 := hid (keep_laid KX.out hb3)
  have KY3 := hid (keep_laid KY.out hb3)
  have KZ3 := hid (keep_laid KZ.out hb3)
  have HB3 := hid (step HB.out hb3)
  have HB23 := hid hb3
  have HLV := hid hlv
  dsimp only
  clear hb3 hrow hlv x0 x1 x2 hX hZ hY
  by_cases hc : code = 0
  · subst hc
    obtain ⟨hok, hns⟩ := nodesP_ok (M := M) (head := head) (by rw [HN.out])
    rw [HN.out] at hns
    dsimp only at hns
    have HXS := hid (HXS.out rfl)
    have hxl := nodesW_len hok (nodesR_some hns).1
    obtain ⟨hr1, -⟩ := find_run hok hns t3 t1
    have HFO := hid (findS_ok HBN.out.2.1 HBN.out.2.2 head xs HBN.out.1 (fun x hx => by have := HXS.out x hx; exact ⟨by omega, this.2.2.2.1⟩))
    obtain ⟨⟨so, sn⟩, hS⟩ : ∃ r, findS t3 t1 head xs = r := ⟨_, rfl⟩
    have hp4 : 4 ≤ so.ph := by have := findS_ph t3 t1 head xs; rw [hS] at this; rw [this]; decide
    rw [hS] at hr1 HFO
    have HS := hid hS
    have HOK := hid hok
    have HRU := hid hr1
    have HP4 := hid hp4
    obtain ⟨q, hq⟩ : ∃ q, xs.length = q := ⟨_, rfl⟩
    have HQ := hid hq
    have hq5 : q ≤ 5000 := by omega
    rw [hq] at HLV ⊢
    clear hok hns hr1 hp4 hS hq hxl
    obtain ⟨x0, x1, x2⟩ := cells3 KX3.out
    obtain ⟨y0, y1, y2, y3⟩ := ncl4 KY3.out
    have HFIC := hid (HFI.out xs va q vc V_3 HOK.out HB23.out HLV.out HQ.out hq5 (fun x hx => by have := HXS.out x hx; omega))
    obtain ⟨FT, hFT⟩ : ∃ b, fitsP M head xs (t0, t1, t2, t3) = b := ⟨_, rfl⟩
    rw [hFT] at HFIC
    have HFT := hid hFT
    clear hFT
    go_wp2_with fail
    refine HFIC.out.mono ?_
    rintro e V_4 ⟨rfl, hb4⟩
    have KX4 := hid (keep_laid KX3.out hb4)
    have KY4 := hid (keep_laid KY3.out hb4)
    have KZ4 := hid (keep_laid KZ3.out hb4)
    have HB4 := hid (step HB3.out hb4)
    have HB24 := hid (step HB23.out hb4)
    clear hb4 x0 x1 x2 y0 y1 y2 y3
    cases FT with
    | false =>
      have HR : Hid (insP M head (t0, t1, t2, t3) = (zeroM, 0, 2)) := hid (by unfold insP; rw [HN.out]; rw [if_neg (by simp), if_pos HFT.out])
      obtain ⟨U1, hU1, a1, -, a3, -⟩ := put_mem KZ4.out (.slice none 0 0) (.slice none 0 0) (.bool false)
      have HU1 := hid hU1
      have KZ9 := hid a1
      have HB9 := hid (a3 V.heap.size V hVZ HB4.out)
      obtain ⟨z0, zf0, z1, zf1, z2, zf2⟩ := fcl3 KZ4.out
      clear hU1 a1 a3
      go_wp2
      rw [← HU1.out]
      refine bodyPost_ret (Insert_result KZ9.out rfl rfl rfl) rfl ?_
      rw [HR.out]
      exact ⟨none, 0, none, 0, rfl, ⟨World.ownsRow_nil _ _ _ _, World.ownsRow_nil _ _ _ _⟩, HB9.out⟩
    | true =>
      obtain ⟨x0, x1, x2⟩ := cells3 KX4.out
      have y1 := cell_laid (i := 1) KY4.out rfl
      have y3 := cell_laid (i := 3) KY4.out rfl
      go_wp2_with fail
      refine (HOW.out HOK.out V_4 HB24.out).mono ?_
      rintro e V_5 ⟨R, rfl, hRV, hrc, hb5⟩
      have KZ5 := hid (keep_laid KZ4.out hb5)
      have KY5 := hid (keep_laid KY4.out hb5)
      have HB5 := hid (step HB4.out hb5)
      have hV45 := hb5.size
      have hZ4 := lt_laid KZ4.out
      have hY4 := lt_laid KY4.out
      have hV4 := HB4.out.size
      have HFO5 := hid (found_any V_4.heap.size R M M so sn head t3 t1 V_5 hrc hV45 HOK.out HWW.out HBN.out.1 HBN.out.2.1 HBN.out.2.2 HRU.out HP4.out)
      unfold skV at HFO5
      have y1 := cell_laid (i := 1) KY5.out rfl
      have y3 := cell_laid (i := 3) KY5.out rfl
      clear hb5 hrc x0 x1 x2
      go_wp2_with fail
      refine HFO5.out.mono ?_
      rintro e V_6 ⟨rfl, hrc, htc, hn4⟩
      have KZ6 := hid (htc.keep KZ5.out (by omega))
      have KY6 := hid (htc.keep KY5.out (by omega))
      have HB6 := hid (HB5.out.trans (htc.below (B := V.heap.size) (by rintro k rfl; omega) HB5.out.size))
      have HR6 := hid hrc
      obtain ⟨sph, shash, skey, slink, snode, sval, sfound⟩ := so
      dsimp only
      obtain ⟨V_7, hV_7, hb7, hs7, hl7⟩ := laid V_6 #[.int .i64 0, .int .u64 0, .int .u64 0, .int .u64 0, .int .u64 0, .int .u64 0, .bool false] 40
      obtain ⟨S, hS⟩ : ∃ X, V_6.heap.size = X := ⟨_, rfl⟩
      rw [hS] at hl7
      obtain ⟨V_8, hV_8, a1, a2, a3, a4, a5⟩ := putM7 hl7 (.int .i64 sph) (.int .u64 ((shash : Nat) : Int)) (.int .u64 ((skey : Nat) : Int)) (.int .u64 ((slink : Nat) : Int)) (.int .u64 ((snode : Nat) : Int)) (.int .u64 ((sval : Nat) : Int)) (.bool sfound)
      obtain ⟨z0, zf0, z1, zf1, z2, zf2, z3, zf3, z4, zf4, z5, zf5, z6, zf6⟩ := fcl7 hl7
      have hRS : R < S := by obtain ⟨_, _, _, _, k, _⟩ := hrc; have := lt_laid k; omega
      have hVS : V.heap.size ≤ S := by omega
      have KS8 := hid a1
      have KZ8 := hid (a2 Z _ (by omega) (keep_laid KZ6.out hb7))
      have KY8 := hid (a2 Y _ (by omega) (keep_laid KY6.out hb7))
      have HR8 := hid ((HR6.out.grow hb7).tch a5 hl7 (by decide) (by decide) (by decide))
      have HB8 := hid (a3 V.heap.size V hVS (step HB6.out hb7))
      have HV8 := hid hV_8
      clear hV_8 a1 a2 a3 a4 a5 hb7 hs7 hl7 htc hrc y1 y3
      go_upto_region 8 with (fail)
      rw [← HV8.out]
      clear z0 z1 z2 z3 z4 z5 z6 zf0 zf1 zf2 zf3 zf4 zf5 zf6
      have s6 := cell_laid (i := 6) KS8.out rfl
      cases sfound with
      | true =>
        have HR : Hid (insP M head (t0, t1, t2, t3) = (zeroM, 0, 5)) := hid (by unfold insP; rw [HN.out]; rw [if_neg (by simp), if_neg (by rw [HFT.out]; decide), if_pos (by rw [HS.out])])
        obtain ⟨U1, hU1, a1, -, a3, -⟩ := put_mem KZ8.out (.slice none 0 0) (.slice none 0 0) (.bool false)
        have HU1 := hid hU1
        have KZ9 := hid a1
        have HB9 := hid (a3 V.heap.size V hVZ HB8.out)
        obtain ⟨z0, zf0, z1, zf1, z2, zf2⟩ := fcl3 KZ8.out
        clear hU1 a1 a3
        go_wp2
        rw [← HU1.out]
        refine bodyPost_ret (Insert_result KZ9.out rfl rfl rfl) rfl ?_
        rw [HR.out]
        exact ⟨none, 0, none, 0, rfl, ⟨World.ownsRow_nil _ _ _ _, World.ownsRow_nil _ _ _ _⟩, HB9.out⟩
      | false =>
        obtain ⟨⟨Mr, sr, nr⟩, hRES⟩ : ∃ r, editRun 8 M (⟨0, false, slink, t0, t1, t2, t3, snode⟩ : Ede) sn = r := ⟨_, rfl⟩
        have HR : Hid (insP M head (t0, t1, t2, t3) = (Mr, nr, 0)) := hid (by unfold insP; rw [HN.out]; rw [if_neg (by simp), if_neg (by rw [HFT.out]; decide)]; dsimp only; rw [HS.out]; rw [if_neg (by simp)]; show ((editRun 8 M (⟨0, false, slink, t0, t1, t2, t3, snode⟩ : Ede) sn).1, (editRun 8 M (⟨0, false, slink, t0, t1, t2, t3, snode⟩ : Ede) sn).2.2, 0) = _; rw [hRES])
        have hfo := HFO.out
        have HEO : Hid ((⟨0, false, slink, t0, t1, t2, t3, snode⟩ : Ede).Ok) := hid ⟨by show -9223372036854775808 ≤ (0 : Int) ∧ (0 : Int) ≤ 9223372036854775807; decide, hfo.link, ht0, ht1, ht2, ht3, hfo.node⟩
        have HRES := hid hRES
        have s3 := cell_laid (i := 3) KS8.out rfl
        have s4 := cell_laid (i := 4) KS8.out rfl
        obtain ⟨y0, y1, y2, y3⟩ := ncl4 KY8.out
        clear hRES hfo
        go_wp2_with fail
        refine (HPU.out slink snode V_8).mono ?_
        rintro e V_9 ⟨rfl, hb9⟩
        obtain ⟨V_10, hV_10, hb10, hs10, hl10⟩ := laid V_9 #[.int .i64 0, .bool false, .int .u64 0, .int .u64 0, .int .u64 0, .int .u64 0, .int .u64 0, .int .u64 0] 53
        obtain ⟨E, hE⟩ : ∃ X, V_9.heap.size = X := ⟨_, rfl⟩
        rw [hE] at hl10
        obtain ⟨V_11, hV_11, a1, a2, a3, a4, a5⟩ := putM8 hl10 (.int .i64 0) (.bool false) (.int .u64 ((slink : Nat) : Int)) (.int .u64 ((t0 : Nat) : Int)) (.int .u64 ((t1 : Nat) : Int)) (.int .u64 ((t2 : Nat) : Int)) (.int .u64 ((t3 : Nat) : Int)) (.int .u64 ((snode : Nat) : Int))
        obtain ⟨z0, zf0, z1, zf1, z2, zf2, z3, zf3, z4, zf4, z5, zf5, z6, zf6, z7, zf7⟩ := fcl8 hl10
        have hZE : Z < E := by have := lt_laid KZ8.out; have := hb9.size; omega
        have hSE : S < E := by have := lt_laid KS8.out; have := hb9.size; omega
        have hVE : V.heap.size ≤ E := by omega
        have KS11 := hid (a2 S _ (by omega) (keep_laid (keep_laid KS8.out hb9) hb10))
        have HE11 : Hid (Edl V_4.heap.size R E Z V M (⟨0, false, slink, t0, t1, t2, t3, snode⟩ : Ede) sn 8 (Mr, sr, nr) V_11) := hid ⟨((HR8.out.grow hb9).grow hb10).tch a5 hl10 (by decide) (by decide) (by decide), a1, a2 Z _ (by omega) (keep_laid (keep_laid KZ8.out hb9) hb10), a3 V.heap.size V hVE (step (step HB8.out hb9) hb10), HOK.out, HWW.out, HEO.out, by show (0 : Int) ≤ 0; decide, by show (0 : Int) ≤ 7; decide, HRES.out, by show (6 : Int) ≤ 8 + 0; decide, by omega⟩
        have HV11 := hid hV_11
        have hW4 : V_4.heap.size ≤ V_11.heap.size := by have := lt_laid HE11.out.be; omega
        clear hV_11 a1 a2 a3 a4 a5 hb9 hb10 hs10 hl10 s3 s4 s6 HR8 y0 y1 y2 y3
        go_upto_region 11 with (fail)
        rw [← HV11.out]
        clear z0 z1 z2 z3 z4 z5 z6 z7 zf0 zf1 zf2 zf3 zf4 zf5 zf6 zf7
        go_wp2
        go_loopg [52] 8 (fun g tc wr => ∃ (M2 : Mem) (s2 : Ede) (n : Nat), Hid (Edl V_4.heap.size R E Z V M2 s2 n g (Mr, sr, nr) wr ∧ wr.heap[S]? = some (.cells #[.int .i64 sph, .int .u64 ((shash : Nat) : Int), .int .u64 ((skey : Nat) : Int), .int .u64 ((slink : Nat) : Int), .int .u64 ((snode : Nat) : Int), .int .u64 ((sval : Nat) : Int), .bool false] 40 (0, 0)) ∧ V_4.heap.size ≤ wr.heap.size))
        case atStart => exact ⟨M, _, sn, hid ⟨HE11.out, KS11.out, hW4⟩⟩
        case round =>
          clear HE11 KS11 hW4
          obtain ⟨M2, s2, n, hF⟩ := hrel
          have HSE := hid (edit_any V_4.heap.size R E M2 n s2 wr hF.out.1.run hF.out.1.be hF.out.2.2 hF.out.1.ok hF.out.1.sok hF.out.1.p0 hF.out.1.p7 (by have := hF.out.1.cnt; omega))
          obtain ⟨k1, k2, k3, k4, k5, k6, k7, k8⟩ := editE_ok hF.out.1.ok hF.out.1.wok hF.out.1.sok hF.out.1.p0 hF.out.1.p7
          obtain ⟨⟨Mn, sn', bn⟩, hX⟩ : ∃ X, editE M2 s2 = X := ⟨_, rfl⟩
          rw [hX] at HSE k1 k2 k3 k4 k7 k8
          have HX := hid hX
          clear hX k5 k6
          go_wp2_with fail
          refine HSE.out.mono ?_
          rintro e w2 ⟨rfl, hr2, hs2, ht2⟩
          have HR2 := hid hr2
          have HE2 := hid hs2
          have hzs := lt_laid hF.out.1.bz
          have HZ2 := hid (ht2.keep hF.out.1.bz (by rintro (e | e) <;> omega))
          have HS2 := hid (ht2.keep hF.out.2.1 (by rintro (e | e) <;> omega))
          have HB2 := hid (hF.out.1.below.trans (ht2.below (B := V.heap.size) (by rintro k (e | e) <;> omega) hF.out.1.below.size))
          have hW2 := Nat.le_trans hF.out.2.2 ht2.size
          clear hr2 hs2 ht2 HSE hzs
          by_cases hp : 6 ≤ s2.ph
          · have e1 := k8 hp
            simp only [Prod.mk.injEq] at e1
            obtain ⟨rfl, rfl, rfl⟩ := e1
            have e2 := (editRun_end hp).symm.trans hF.out.1.res
            simp only [Prod.mk.injEq] at e2
            obtain ⟨rfl, rfl, rfl⟩ := e2
            obtain ⟨wa', wc', la', lc', kR, kO⟩ := HR2.out
            dsimp only at kR
            have KR2 : Hid (w2.heap[R]? = some (.cells #[.slice wa' Mn.W.length wc', .slice la' Mn.L.length lc', .bool Mn.F, .int .i64 ((n : Nat) : Int)] 98 (0, 0))) := hid kR
            have HO2 := hid (kO.base (base' := V.heap.size) hV4)
            have hwl' := kO.memL.w.len
            have hll' := kO.memL.l.len
            clear kR kO hp hF k1 k2 k3 k4 k7 k8
            go_upto_region 12 with (fail)
            obtain ⟨D, hD⟩ : ∃ DX, w2.drew = DX := ⟨_, rfl⟩
            have hbD : Below w2.heap.size w2 D := by rw [← hD]; exact (Below.refl _ _).drew
            have HD := hid hD
            have KRD := hid (keep_laid KR2.out hbD)
            have KZD := hid (keep_laid HZ2.out hbD)
            have KSD := hid (keep_laid HS2.out hbD)
            have HOD := hid (HO2.out.grow hbD)
            have HBD := hid (step HB2.out hbD)
            clear hD hbD
            obtain ⟨U, hU, a1, a2, a3, a4⟩ := put_mem KZD.out (.slice wa' Mn.W.length wc') (.slice la' Mn.L.length lc') (.bool Mn.F)
            have HU := hid hU
            have KZU := hid a1
            have KRU := hid (a2 R _ (by omega) KRD.out)
            have KSU := hid (a2 S _ (by omega) KSD.out)
            have HBU := hid (a3 V.heap.size V hVZ HBD.out)
            have HOU := hid (a4 _ _ _ _ _ _ HOD.out)
            clear hU a1 a2 a3 a4
            haveI : Nonempty (RRn R S #[.slice wa' Mn.W.length wc', .slice la' Mn.L.length lc', .bool Mn.F, .int .i64 ((n : Nat) : Int)] #[.int .i64 sph, .int .u64 ((shash : Nat) : Int), .int .u64 ((skey : Nat) : Int), .int .u64 ((slink : Nat) : Int), .int .u64 ((snode : Nat) : Int), .int .u64 ((sval : Nat) : Int), .bool false]) := ⟨⟨D, KRD.out, KSD.out⟩⟩
            have r0 : ∀ z : RRn R S #[.slice wa' Mn.W.length wc', .slice la' Mn.L.length lc', .bool Mn.F, .int .i64 ((n : Nat) : Int)] #[.int .i64 sph, .int .u64 ((shash : Nat) : Int), .int .u64 ((skey : Nat) : Int), .int .u64 ((slink : Nat) : Int), .int .u64 ((snode : Nat) : Int), .int .u64 ((sval : Nat) : Int), .bool false], z.w.cell? ⟨R, 0, none⟩ = some (.slice wa' Mn.W.length wc') := fun z => cell_laid z.br rfl
            have r1 : ∀ z : RRn R S #[.slice wa' Mn.W.length wc', .slice la' Mn.L.length lc', .bool Mn.F, .int .i64 ((n : Nat) : Int)] #[.int .i64 sph, .int .u64 ((shash : Nat) : Int), .int .u64 ((skey : Nat) : Int), .int .u64 ((slink : Nat) : Int), .int .u64 ((snode : Nat) : Int), .int .u64 ((sval : Nat) : Int), .bool false], z.w.cell? ⟨R, 1, none⟩ = some (.slice la' Mn.L.length lc') := fun z => cell_laid z.br rfl
            have r2 : ∀ z : RRn R S #[.slice wa' Mn.W.length wc', .slice la' Mn.L.length lc', .bool Mn.F, .int .i64 ((n : Nat) : Int)] #[.int .i64 sph, .int .u64 ((shash : Nat) : Int), .int .u64 ((skey : Nat) : Int), .int .u64 ((slink : Nat) : Int), .int .u64 ((snode : Nat) : Int), .int .u64 ((sval : Nat) : Int), .bool false], z.w.cell? ⟨R, 2, none⟩ = some (.bool Mn.F) := fun z => cell_laid z.br rfl
            have r3 : ∀ z : RRn R S #[.slice wa' Mn.W.length wc', .slice la' Mn.L.length lc', .bool Mn.F, .int .i64 ((n : Nat) : Int)] #[.int .i64 sph, .int .u64 ((shash : Nat) : Int), .int .u64 ((skey : Nat) : Int), .int .u64 ((slink : Nat) : Int), .int .u64 ((snode : Nat) : Int), .int .u64 ((sval : Nat) : Int), .bool false], z.w.cell? ⟨R, 3, none⟩ = some (.int .i64 ((n : Nat) : Int)) := fun z => cell_laid z.br rfl
            have s4 : ∀ z : RRn R S #[.slice wa' Mn.W.length wc', .slice la' Mn.L.length lc', .bool Mn.F, .int .i64 ((n : Nat) : Int)] #[.int .i64 sph, .int .u64 ((shash : Nat) : Int), .int .u64 ((skey : Nat) : Int), .int .u64 ((slink : Nat) : Int), .int .u64 ((snode : Nat) : Int), .int .u64 ((sval : Nat) : Int), .bool false], z.w.cell? ⟨S, 4, none⟩ = some (.int .u64 ((snode : Nat) : Int)) := fun z => cell_laid z.bs rfl
            refine wp_region_mix2 (fun W => ∃ z : RRn R S #[.slice wa' Mn.W.length wc', .slice la' Mn.L.length lc', .bool Mn.F, .int .i64 ((n : Nat) : Int)] #[.int .i64 sph, .int .u64 ((shash : Nat) : Int), .int .u64 ((skey : Nat) : Int), .int .u64 ((slink : Nat) : Int), .int .u64 ((snode : Nat) : Int), .int .u64 ((sval : Nat) : Int), .bool false], W = z.w) 11 (.q 0 (.q 1 (.q 2 (.q 3 (.q 4 (.q 5 (.q 6 (.q 7 (.h 8 (.q 9 (.q 10 .done))))))))))) (by kernel_rfl) (by kernel_rfl) (by rw [HD.out]; exact ⟨⟨D, KRD.out, KSD.out⟩, rfl⟩) ?_
            rw [HD.out]
            repeat (refine wpMix2_q rfl rfl ?_; go_big_quiet_step (fail); refine wpQuiet_nil ?_)
            obtain ⟨z0, zf0, z1, zf1, z2, zf2⟩ := fcl3 KZD.out
            refine wpMix2_h rfl fun R' hR' hO => ?_
            go_wp2
            rw [← HU.out]
            refine hR' _ _ ⟨⟨U, KRU.out, KSU.out⟩, rfl⟩ ?_
            clear hR' hO R' z0 z1 z2 zf0 zf1 zf2
            repeat (refine wpMix2_q rfl rfl ?_; go_big_quiet_step (fail); refine wpQuiet_nil ?_)
            refine wpMix2_done ?_
            simp only [List.drop_succ_cons, List.drop_nil]
            go_wp2
            refine bodyPost_ret (Insert_result KZU.out rfl rfl rfl) rfl ?_
            rw [HR.out]
            exact ⟨wa', wc', la', lc', rfl, HOU.out, HBU.out⟩
          · have hb := k7 (by omega)
            have k4 := k4 (by omega)
            subst hb
            obtain ⟨g1, hg1⟩ : ∃ g1, gk = g1 + 1 := ⟨gk - 1, by have := hF.out.1.fuel; omega⟩
            have HF2 : Hid (Edl V_4.heap.size R E Z V Mn sn' (n + 1) (gk - 1) (Mr, sr, nr) w2) := hid ⟨HR2.out, HE2.out, HZ2.out, HB2.out, k1, k2, k3, by have := hF.out.1.p0; omega, k4.2, by
              have := hF.out.1.res
              rw [hg1, editRun_step hp HX.out] at this
              rw [hg1]; exact this, by have := hF.out.1.fuel; omega, by have := hF.out.1.cnt; omega⟩
            have HG := hid hg1
            clear hp hF hg1 k1 k2 k3 k4 k7 k8
            go_wp2
            go_roundg (gk - 1)
            case measure => have := HG.out; omega
            case rel => exact ⟨Mn, sn', n + 1, hid ⟨HF2.out, HS2.out, hW2⟩⟩
  · have hcne : ((((code : Nat) : Int)) != 0) = true := by simp; omega
    have HR : Hid (insP M head (t0, t1, t2, t3) = (zeroM, 0, code)) := hid (by unfold insP; rw [HN.out]; rw [if_pos hc])
    clear hc
    obtain ⟨U1, hU1, a1, -, a3, -⟩ := put_mem KZ3.out (.slice none 0 0) (.slice none 0 0) (.bool false)
    have HU1 := hid hU1
    have KZ9 := hid a1
    have HB9 := hid (a3 V.heap.size V hVZ HB3.out)
    obtain ⟨z0, zf0, z1, zf1, z2, zf2⟩ := fcl3 KZ3.out
    clear hU1 a1 a3
    go_wp2
    rw [← HU1.out]
    refine bodyPost_ret (Insert_result KZ9.out rfl rfl rfl) rfl ?_
    rw [HR.out]
    exact ⟨none, 0, none, 0, rfl, ⟨World.ownsRow_nil _ _ _ _, World.ownsRow_nil _ _ _ _⟩, HB9.out⟩
theorem Remove_result {W : World} {b8 : Nat} {v8_0 v8_1 v8_2 u9 u10 : Value} {tmps : Array Value} (h8 : W.heap[b8]? = some (.cells #[v8_0, v8_1, v8_2] 25 (0, 0))) (q8 : tmps[8]?.getD undef = .pointer (some ⟨b8, 0, none⟩)) (q9 : tmps[9]?.getD undef = u9) (q10 : tmps[10]?.getD undef = u10) :
    (results Try.f18 tmps).run Try.prog W = .ok (.tuple #[.agg #[v8_0, v8_1, v8_2], u9, u10]) W := by
  have e8_0 := cell_laid (i := 0) (v := v8_0) h8 rfl
  have e8_1 := cell_laid (i := 1) (v := v8_1) h8 rfl
  have e8_2 := cell_laid (i := 2) (v := v8_2) h8 rfl
  simp [results, Try.results18, go_sem, e8_0, e8_1, e8_2, q8, q9, q10]
set_option maxRecDepth 100000 in
set_option maxHeartbeats 8000000 in
theorem Remove_any (M : Mem) (wa la : Option Addr) (wc lc head hash key : Nat) (V : World) (h : MemL V wa wc la lc M) (hW : ∀ x ∈ M.W, x < 18446744073709551616) (hh : head < 18446744073709551616) (hha : hash < 18446744073709551616) (hke : key < 18446744073709551616) :
    Calls Try.prog 18 #[memV wa wc la lc M, .int .u64 ((head : Nat) : Int), .int .u64 ((hash : Nat) : Int), .int .u64 ((key : Nat) : Int)] V (GivesU (remP M head hash key) V) := by
  obtain ⟨V1, hV1, hbV1, hsV1, hlV1⟩ := laid V #[.slice wa M.W.length wc, .slice la M.L.length lc, .bool M.F] 25
  obtain ⟨V2, hV2, hbV2, hsV2, hlV2⟩ := laid V1 #[.slice none 0 0, .slice none 0 0, .bool false] 25
  obtain ⟨X, hX⟩ : ∃ X, V.heap.size = X := ⟨_, rfl⟩
  rw [hX] at hlV1
  obtain ⟨Z, hZ⟩ : ∃ X, V1.heap.size = X := ⟨_, rfl⟩
  rw [hZ] at hlV2
  have KX := hid (keep_laid hlV1 hbV2)
  have KZ := hid hlV2
  have HB := hid (step hbV1 hbV2)
  have hVX : V.heap.size ≤ X := by omega
  have hVZ : V.heap.size ≤ Z := by omega
  have nXZ : X < Z := by omega
  clear hbV1 hsV1 hlV1 hbV2 hsV2 hlV2
  have HM := hid (h.grow HB.out)
  have HNO := hid (Nodes_any M wa la wc lc head V2 HM.out hh hW)
  have hwl := h.w.len
  have hll := h.l.len
  have HOW := hid (fun (ok : okM M = true) (W : World) (hb : Below V2.heap.size V2 W) => lsown_any M wa la wc lc W (HM.out.grow hb) ok)
  have HCU := hid (fun (link node : Nat) (W : World) => Cut_any link node W)
  unfold edV cutK at HCU
  unfold memV at HNO HOW ⊢
  obtain ⟨⟨xs, code⟩, hN⟩ : ∃ r, nodesP M head = r := ⟨_, rfl⟩
  have HXS := hid (nodesP_nodes (M := M) (head := head) hW)
  rw [hN] at HNO HXS
  have HN := hid hN
  have HWW := hid hW
  have HBN := hid (show head < 18446744073709551616 ∧ hash < 18446744073709551616 ∧ key < 18446744073709551616 from ⟨hh, hha, hke⟩)
  obtain ⟨x0, x1, x2⟩ := cells3 KX.out
  clear h hW hN hha hke
  go_enter Try.func18, Try.ntmps18
  go_wp2_with fail
  refine HNO.out.mono ?_
  rintro e V_3 ⟨v, rfl, hrow, hb3⟩
  obtain ⟨va, vc, rfl, hlv⟩ := Leads.of_own hrow
  have hvl := hlv.len
  have KX3 := hid (keep_laid KX.out hb3)
  have KZ3 := hid (keep_laid KZ.out hb3)
  have HB3 := hid (step HB.out hb3)
  have HB23 := hid hb3
  have HLV := hid hlv
  dsimp only
  clear hb3 hrow hlv x0 x1 x2 hX hZ
  by_cases hc : code = 0
  · subst hc
    obtain ⟨hok, hns⟩ := nodesP_ok (M := M) (head := head) (by rw [HN.out])
    rw [HN.out] at hns
    dsimp only at hns
    have HXS := hid (HXS.out rfl)
    have hxl := nodesW_len hok (nodesR_some hns).1
    obtain ⟨hr1, -⟩ := find_run hok hns hash key
    have HFO := hid (findS_ok HBN.out.2.1 HBN.out.2.2 head xs HBN.out.1 (fun x hx => by have := HXS.out x hx; exact ⟨by omega, this.2.2.2.1⟩))
    obtain ⟨⟨so, sn⟩, hS⟩ : ∃ r, findS hash key head xs = r := ⟨_, rfl⟩
    have hp4 : 4 ≤ so.ph := by have := findS_ph hash key head xs; rw [hS] at this; rw [this]; decide
    rw [hS] at hr1 HFO
    have HS := hid hS
    have HOK := hid hok
    have HRU := hid hr1
    have HP4 := hid hp4
    obtain ⟨q, hq⟩ : ∃ q, xs.length = q := ⟨_, rfl⟩
    have HQ := hid hq
    have hq5 : q ≤ 5000 := by omega
    rw [hq] at HLV ⊢
    clear hok hns hr1 hp4 hS hq hxl
    obtain ⟨x0, x1, x2⟩ := cells3 KX3.out
    go_wp2_with fail
    refine (HOW.out HOK.out V_3 HB23.out).mono ?_
    rintro e V_5 ⟨R, rfl, hRV, hrc, hb5⟩
    have KZ5 := hid (keep_laid KZ3.out hb5)
    have HB5 := hid (step HB3.out hb5)
    have hV45 := hb5.size
    have hZ4 := lt_laid KZ3.out
    have hV4 := HB3.out.size
    have HFO5 := hid (found_any V_3.heap.size R M M so sn head hash key V_5 hrc hV45 HOK.out HWW.out HBN.out.1 HBN.out.2.1 HBN.out.2.2 HRU.out HP4.out)
    unfold skV at HFO5
    clear hb5 hrc x0 x1 x2
    go_wp2_with fail
    refine HFO5.out.mono ?_
    rintro e V_6 ⟨rfl, hrc, htc, hn4⟩
    have KZ6 := hid (htc.keep KZ5.out (by omega))
    have HB6 := hid (HB5.out.trans (htc.below (B := V.heap.size) (by rintro k rfl; omega) HB5.out.size))
    have HR6 := hid hrc
    obtain ⟨sph, shash, skey, slink, snode, sval, sfound⟩ := so
    dsimp only
    obtain ⟨V_7, hV_7, hb7, hs7, hl7⟩ := laid V_6 #[.int .i64 0, .int .u64 0, .int .u64 0, .int .u64 0, .int .u64 0, .int .u64 0, .bool false] 40
    obtain ⟨S, hS⟩ : ∃ X, V_6.heap.size = X := ⟨_, rfl⟩
    rw [hS] at hl7
    obtain ⟨V_8, hV_8, a1, a2, a3, a4, a5⟩ := putM7 hl7 (.int .i64 sph) (.int .u64 ((shash : Nat) : Int)) (.int .u64 ((skey : Nat) : Int)) (.int .u64 ((slink : Nat) : Int)) (.int .u64 ((snode : Nat) : Int)) (.int .u64 ((sval : Nat) : Int)) (.bool sfound)
    obtain ⟨z0, zf0, z1, zf1, z2, zf2, z3, zf3, z4, zf4, z5, zf5, z6, zf6⟩ := fcl7 hl7
    have hRS : R < S := by obtain ⟨_, _, _, _, k, _⟩ := hrc; have := lt_laid k; omega
    have hVS : V.heap.size ≤ S := by omega
    have KS8 := hid a1
    have KZ8 := hid (a2 Z _ (by omega) (keep_laid KZ6.out hb7))
    have HR8 := hid ((HR6.out.grow hb7).tch a5 hl7 (by decide) (by decide) (by decide))
    have HB8 := hid (a3 V.heap.size V hVS (step HB6.out hb7))
    have HV8 := hid hV_8
    clear hV_8 a1 a2 a3 a4 a5 hb7 hs7 hl7 htc hrc
    go_upto_region 6 with (fail)
    rw [← HV8.out]
    clear z0 z1 z2 z3 z4 z5 z6 zf0 zf1 zf2 zf3 zf4 zf5 zf6
    have s6 := cell_laid (i := 6) KS8.out rfl
    cases sfound with
    | false =>
      have HR : Hid (remP M head hash key = (zeroM, 0, 4)) := hid (by unfold remP; rw [HN.out]; rw [if_neg (by simp), if_pos (by rw [HS.out])])
      obtain ⟨U1, hU1, a1, -, a3, -⟩ := put_mem KZ8.out (.slice none 0 0) (.slice none 0 0) (.bool false)
      have HU1 := hid hU1
      have KZ9 := hid a1
      have HB9 := hid (a3 V.heap.size V hVZ HB8.out)
      obtain ⟨z0, zf0, z1, zf1, z2, zf2⟩ := fcl3 KZ8.out
      clear hU1 a1 a3
      go_wp2
      rw [← HU1.out]
      refine bodyPost_ret (Remove_result KZ9.out rfl rfl rfl) rfl ?_
      rw [HR.out]
      exact ⟨none, 0, none, 0, rfl, ⟨World.ownsRow_nil _ _ _ _, World.ownsRow_nil _ _ _ _⟩, HB9.out⟩
    | true =>
      obtain ⟨⟨Mr, sr, nr⟩, hRES⟩ : ∃ r, editRun 8 M (⟨4, true, slink, snode, 0, 0, 0, 0⟩ : Ede) sn = r := ⟨_, rfl⟩
      have HR : Hid (remP M head hash key = (Mr, snode, 0)) := hid (by unfold remP; rw [HN.out]; rw [if_neg (by simp)]; dsimp only; rw [HS.out]; rw [if_neg (by simp)]; show ((editRun 8 M (⟨4, true, slink, snode, 0, 0, 0, 0⟩ : Ede) sn).1, snode, 0) = _; rw [hRES])
      have hfo := HFO.out
      have HEO : Hid ((⟨4, true, slink, snode, 0, 0, 0, 0⟩ : Ede).Ok) := hid ⟨by show -9223372036854775808 ≤ (4 : Int) ∧ (4 : Int) ≤ 9223372036854775807; decide, hfo.link, hfo.node, by show 0 < _; decide, by show 0 < _; decide, by show 0 < _; decide, by show 0 < _; decide⟩
      have HRES := hid hRES
      have s3 := cell_laid (i := 3) KS8.out rfl
      have s4 := cell_laid (i := 4) KS8.out rfl
      clear hRES hfo
      go_wp2_with fail
      refine (HCU.out slink snode V_8).mono ?_
      rintro e V_9 ⟨rfl, hb9⟩
      obtain ⟨V_10, hV_10, hb10, hs10, hl10⟩ := laid V_9 #[.int .i64 0, .bool false, .int .u64 0, .int .u64 0, .int .u64 0, .int .u64 0, .int .u64 0, .int .u64 0] 53
      obtain ⟨E, hE⟩ : ∃ X, V_9.heap.size = X := ⟨_, rfl⟩
      rw [hE] at hl10
      obtain ⟨V_11, hV_11, a1, a2, a3, a4, a5⟩ := putM8 hl10 (.int .i64 4) (.bool true) (.int .u64 ((slink : Nat) : Int)) (.int .u64 ((snode : Nat) : Int)) (.int .u64 0) (.int .u64 0) (.int .u64 0) (.int .u64 0)
      obtain ⟨z0, zf0, z1, zf1, z2, zf2, z3, zf3, z4, zf4, z5, zf5, z6, zf6, z7, zf7⟩ := fcl8 hl10
      have hZE : Z < E := by have := lt_laid KZ8.out; have := hb9.size; omega
      have hSE : S < E := by have := lt_laid KS8.out; have := hb9.size; omega
      have hVE : V.heap.size ≤ E := by omega
      have KS11 := hid (a2 S _ (by omega) (keep_laid (keep_laid KS8.out hb9) hb10))
      have HE11 : Hid (Edl V_3.heap.size R E Z V M (⟨4, true, slink, snode, 0, 0, 0, 0⟩ : Ede) sn 8 (Mr, sr, nr) V_11) := hid ⟨((HR8.out.grow hb9).grow hb10).tch a5 hl10 (by decide) (by decide) (by decide), a1, a2 Z _ (by omega) (keep_laid (keep_laid KZ8.out hb9) hb10), a3 V.heap.size V hVE (step (step HB8.out hb9) hb10), HOK.out, HWW.out, HEO.out, by show (0 : Int) ≤ 4; decide, by show (4 : Int) ≤ 7; decide, HRES.out, by show (6 : Int) ≤ 8 + 4; decide, by omega⟩
      have HV11 := hid hV_11
      have hW4 : V_3.heap.size ≤ V_11.heap.size := by have := lt_laid HE11.out.be; omega
      clear hV_11 a1 a2 a3 a4 a5 hb9 hb10 hs10 hl10 s3 s4 s6 HR8
      go_upto_region 9 with (fail)
      rw [← HV11.out]
      clear z0 z1 z2 z3 z4 z5 z6 z7 zf0 zf1 zf2 zf3 zf4 zf5 zf6 zf7
      go_wp2
      go_loopg [43] 8 (fun g tc wr => ∃ (M2 : Mem) (s2 : Ede) (n : Nat), Hid (Edl V_3.heap.size R E Z V M2 s2 n g (Mr, sr, nr) wr ∧ wr.heap[S]? = some (.cells #[.int .i64 sph, .int .u64 ((shash : Nat) : Int), .int .u64 ((skey : Nat) : Int), .int .u64 ((slink : Nat) : Int), .int .u64 ((snode : Nat) : Int), .int .u64 ((sval : Nat) : Int), .bool true] 40 (0, 0)) ∧ V_3.heap.size ≤ wr.heap.size))
      case atStart => exact ⟨M, _, sn, hid ⟨HE11.out, KS11.out, hW4⟩⟩
      case round =>
        clear HE11 KS11 hW4
        obtain ⟨M2, s2, n, hF⟩ := hrel
        have HSE := hid (edit_any V_3.heap.size R E M2 n s2 wr hF.out.1.run hF.out.1.be hF.out.2.2 hF.out.1.ok hF.out.1.sok hF.out.1.p0 hF.out.1.p7 (by have := hF.out.1.cnt; omega))
        obtain ⟨k1, k2, k3, k4, k5, k6, k7, k8⟩ := editE_ok hF.out.1.ok hF.out.1.wok hF.out.1.sok hF.out.1.p0 hF.out.1.p7
        obtain ⟨⟨Mn, sn', bn⟩, hX⟩ : ∃ X, editE M2 s2 = X := ⟨_, rfl⟩
        rw [hX] at HSE k1 k2 k3 k4 k7 k8
        have HX := hid hX
        clear hX k5 k6
        go_wp2_with fail
        refine HSE.out.mono ?_
        rintro e w2 ⟨rfl, hr2, hs2, ht2⟩
        have HR2 := hid hr2
        have HE2 := hid hs2
        have hzs := lt_laid hF.out.1.bz
        have HZ2 := hid (ht2.keep hF.out.1.bz (by rintro (e | e) <;> omega))
        have HS2 := hid (ht2.keep hF.out.2.1 (by rintro (e | e) <;> omega))
        have HB2 := hid (hF.out.1.below.trans (ht2.below (B := V.heap.size) (by rintro k (e | e) <;> omega) hF.out.1.below.size))
        have hW2 := Nat.le_trans hF.out.2.2 ht2.size
        clear hr2 hs2 ht2 HSE hzs
        by_cases hp : 6 ≤ s2.ph
        · have e1 := k8 hp
          simp only [Prod.mk.injEq] at e1
          obtain ⟨rfl, rfl, rfl⟩ := e1
          have e2 := (editRun_end hp).symm.trans hF.out.1.res
          simp only [Prod.mk.injEq] at e2
          obtain ⟨rfl, rfl, rfl⟩ := e2
          obtain ⟨wa', wc', la', lc', kR, kO⟩ := HR2.out
          dsimp only at kR
          have KR2 : Hid (w2.heap[R]? = some (.cells #[.slice wa' Mn.W.length wc', .slice la' Mn.L.length lc', .bool Mn.F, .int .i64 ((n : Nat) : Int)] 98 (0, 0))) := hid kR
          have HO2 := hid (kO.base (base' := V.heap.size) hV4)
          have hwl' := kO.memL.w.len
          have hll' := kO.memL.l.len
          clear kR kO hp hF k1 k2 k3 k4 k7 k8
          go_upto_region 10 with (fail)
          obtain ⟨D, hD⟩ : ∃ DX, w2.drew = DX := ⟨_, rfl⟩
          have hbD : Below w2.heap.size w2 D := by rw [← hD]; exact (Below.refl _ _).drew
          have HD := hid hD
          have KRD := hid (keep_laid KR2.out hbD)
          have KZD := hid (keep_laid HZ2.out hbD)
          have KSD := hid (keep_laid HS2.out hbD)
          have HOD := hid (HO2.out.grow hbD)
          have HBD := hid (step HB2.out hbD)
          clear hD hbD
          obtain ⟨U, hU, a1, a2, a3, a4⟩ := put_mem KZD.out (.slice wa' Mn.W.length wc') (.slice la' Mn.L.length lc') (.bool Mn.F)
          have HU := hid hU
          have KZU := hid a1
          have KRU := hid (a2 R _ (by omega) KRD.out)
          have KSU := hid (a2 S _ (by omega) KSD.out)
          have HBU := hid (a3 V.heap.size V hVZ HBD.out)
          have HOU := hid (a4 _ _ _ _ _ _ HOD.out)
          clear hU a1 a2 a3 a4
          haveI : Nonempty (RRn R S #[.slice wa' Mn.W.length wc', .slice la' Mn.L.length lc', .bool Mn.F, .int .i64 ((n : Nat) : Int)] #[.int .i64 sph, .int .u64 ((shash : Nat) : Int), .int .u64 ((skey : Nat) : Int), .int .u64 ((slink : Nat) : Int), .int .u64 ((snode : Nat) : Int), .int .u64 ((sval : Nat) : Int), .bool true]) := ⟨⟨D, KRD.out, KSD.out⟩⟩
          have r0 : ∀ z : RRn R S #[.slice wa' Mn.W.length wc', .slice la' Mn.L.length lc', .bool Mn.F, .int .i64 ((n : Nat) : Int)] #[.int .i64 sph, .int .u64 ((shash : Nat) : Int), .int .u64 ((skey : Nat) : Int), .int .u64 ((slink : Nat) : Int), .int .u64 ((snode : Nat) : Int), .int .u64 ((sval : Nat) : Int), .bool true], z.w.cell? ⟨R, 0, none⟩ = some (.slice wa' Mn.W.length wc') := fun z => cell_laid z.br rfl
          have r1 : ∀ z : RRn R S #[.slice wa' Mn.W.length wc', .slice la' Mn.L.length lc', .bool Mn.F, .int .i64 ((n : Nat) : Int)] #[.int .i64 sph, .int .u64 ((shash : Nat) : Int), .int .u64 ((skey : Nat) : Int), .int .u64 ((slink : Nat) : Int), .int .u64 ((snode : Nat) : Int), .int .u64 ((sval : Nat) : Int), .bool true], z.w.cell? ⟨R, 1, none⟩ = some (.slice la' Mn.L.length lc') := fun z => cell_laid z.br rfl
          have r2 : ∀ z : RRn R S #[.slice wa' Mn.W.length wc', .slice la' Mn.L.length lc', .bool Mn.F, .int .i64 ((n : Nat) : Int)] #[.int .i64 sph, .int .u64 ((shash : Nat) : Int), .int .u64 ((skey : Nat) : Int), .int .u64 ((slink : Nat) : Int), .int .u64 ((snode : Nat) : Int), .int .u64 ((sval : Nat) : Int), .bool true], z.w.cell? ⟨R, 2, none⟩ = some (.bool Mn.F) := fun z => cell_laid z.br rfl
          have r3 : ∀ z : RRn R S #[.slice wa' Mn.W.length wc', .slice la' Mn.L.length lc', .bool Mn.F, .int .i64 ((n : Nat) : Int)] #[.int .i64 sph, .int .u64 ((shash : Nat) : Int), .int .u64 ((skey : Nat) : Int), .int .u64 ((slink : Nat) : Int), .int .u64 ((snode : Nat) : Int), .int .u64 ((sval : Nat) : Int), .bool true], z.w.cell? ⟨R, 3, none⟩ = some (.int .i64 ((n : Nat) : Int)) := fun z => cell_laid z.br rfl
          have s4 : ∀ z : RRn R S #[.slice wa' Mn.W.length wc', .slice la' Mn.L.length lc', .bool Mn.F, .int .i64 ((n : Nat) : Int)] #[.int .i64 sph, .int .u64 ((shash : Nat) : Int), .int .u64 ((skey : Nat) : Int), .int .u64 ((slink : Nat) : Int), .int .u64 ((snode : Nat) : Int), .int .u64 ((sval : Nat) : Int), .bool true], z.w.cell? ⟨S, 4, none⟩ = some (.int .u64 ((snode : Nat) : Int)) := fun z => cell_laid z.bs rfl
          refine wp_region_mix2 (fun W => ∃ z : RRn R S #[.slice wa' Mn.W.length wc', .slice la' Mn.L.length lc', .bool Mn.F, .int .i64 ((n : Nat) : Int)] #[.int .i64 sph, .int .u64 ((shash : Nat) : Int), .int .u64 ((skey : Nat) : Int), .int .u64 ((slink : Nat) : Int), .int .u64 ((snode : Nat) : Int), .int .u64 ((sval : Nat) : Int), .bool true], W = z.w) 9 (.q 0 (.q 1 (.q 2 (.q 3 (.q 4 (.q 5 (.h 6 (.q 7 (.q 8 .done))))))))) (by kernel_rfl) (by kernel_rfl) (by rw [HD.out]; exact ⟨⟨D, KRD.out, KSD.out⟩, rfl⟩) ?_
          rw [HD.out]
          repeat (refine wpMix2_q rfl rfl ?_; go_big_quiet_step (fail); refine wpQuiet_nil ?_)
          obtain ⟨z0, zf0, z1, zf1, z2, zf2⟩ := fcl3 KZD.out
          refine wpMix2_h rfl fun R' hR' hO => ?_
          go_wp2
          rw [← HU.out]
          refine hR' _ _ ⟨⟨U, KRU.out, KSU.out⟩, rfl⟩ ?_
          clear hR' hO R' z0 z1 z2 zf0 zf1 zf2
          repeat (refine wpMix2_q rfl rfl ?_; go_big_quiet_step (fail); refine wpQuiet_nil ?_)
          refine wpMix2_done ?_
          simp only [List.drop_succ_cons, List.drop_nil]
          go_wp2
          refine bodyPost_ret (Remove_result KZU.out rfl rfl rfl) rfl ?_
          rw [HR.out]
          exact ⟨wa', wc', la', lc', rfl, HOU.out, HBU.out⟩
        · have hb := k7 (by omega)
          have k4 := k4 (by omega)
          subst hb
          obtain ⟨g1, hg1⟩ : ∃ g1, gk = g1 + 1 := ⟨gk - 1, by have := hF.out.1.fuel; omega⟩
          have HF2 : Hid (Edl V_3.heap.size R E Z V Mn sn' (n + 1) (gk - 1) (Mr, sr, nr) w2) := hid ⟨HR2.out, HE2.out, HZ2.out, HB2.out, k1, k2, k3, by have := hF.out.1.p0; omega, k4.2, by
            have := hF.out.1.res
            rw [hg1, editRun_step hp HX.out] at this
            rw [hg1]; exact this, by have := hF.out.1.fuel; omega, by have := hF.out.1.cnt; omega⟩
          have HG := hid hg1
          clear hp hF hg1 k1 k2 k3 k4 k7 k8
          go_wp2
          go_roundg (gk - 1)
          case measure => have := HG.out; omega
          case rel => exact ⟨Mn, sn', n + 1, hid ⟨HF2.out, HS2.out, hW2⟩⟩
  · have hcne : ((((code : Nat) : Int)) != 0) = true := by simp; omega
    have HR : Hid (remP M head hash key = (zeroM, 0, code)) := hid (by unfold remP; rw [HN.out]; rw [if_pos hc])
    clear hc
    obtain ⟨U1, hU1, a1, -, a3, -⟩ := put_mem KZ3.out (.slice none 0 0) (.slice none 0 0) (.bool false)
    have HU1 := hid hU1
    have KZ9 := hid a1
    have HB9 := hid (a3 V.heap.size V hVZ HB3.out)
    obtain ⟨z0, zf0, z1, zf1, z2, zf2⟩ := fcl3 KZ3.out
    clear hU1 a1 a3
    go_wp2
    rw [← HU1.out]
    refine bodyPost_ret (Remove_result KZ9.out rfl rfl rfl) rfl ?_
    rw [HR.out]
    exact ⟨none, 0, none, 0, rfl, ⟨World.ownsRow_nil _ _ _ _, World.ownsRow_nil _ _ _ _⟩, HB9.out⟩
end Go.Proofs.Ytdkkjcflcegeoaa
