/- Lists linked both ways: DoubleSteps, the walk (printed by gen_dblsteps.py). -/
import Derived.Test.YtoihjmdpbbcbjaaDblWakes
namespace Go.Proofs.Ytoihjmdpbbcbjaa
open Go.RowKit
open Go.Proofs
set_option linter.unusedVariables false
attribute [local go_sem] Oper.semAt_some

theorem take48_id {M : Mem} (h1 : M.W.length ≤ 48) (h2 : M.L.length ≤ 48) : take48 M = M := by
  unfold take48
  rw [List.take_of_length_le h1, List.take_of_length_le h2]
theorem take48_len (M : Mem) : (take48 M).W.length ≤ 48 ∧ (take48 M).L.length ≤ 48 := by unfold take48; simp; omega
theorem take48_wok {M : Mem} (h : Wok M) : Wok (take48 M) := fun x hx => h x (List.mem_of_mem_take hx)
theorem sameM_self (M : Mem) : sameM M M = true := by unfold sameM; simp
theorem zeroE_ok : zeroE.Ok := ⟨by decide, by decide, by decide, by decide, by decide, by decide, by decide⟩
theorem MemO.spoilt {V W : World} {base B : Nat} {wa la : Option Addr} {wc lc : Nat} {M : Mem} {v1 v2 : Value} (h : MemO base wa wc la lc M V) (hs : spK B v1 v2 V W)
    (h1 : ∀ k, (∃ c e, V.heap[k]? = some (.cells c e (0, 0)) ∧ base ≤ k ∧ k < V.heap.size) → ((∃ b, wa = some b ∧ b.block = k) ∨ ∃ b, la = some b ∧ b.block = k) → v1.ownBlock ≠ some k ∧ v2.ownBlock ≠ some k) : MemO base wa wc la lc M W := by
  refine ⟨own_keep h.w fun k o hk ho => ?_, own_keep h.l fun k o hk ho => ?_⟩
  · obtain ⟨c, hc⟩ := own_type h.w k hk
    obtain ⟨b, rfl⟩ : ∃ b, wa = some b := by cases wa with
      | none => cases hk
      | some b => exact ⟨b, rfl⟩
    have hb : b.block = k := by simpa [Value.ownBlock] using hk
    obtain ⟨q1, q2⟩ := h1 k ⟨c, _, hc, (h.w.lt k hk).1, (h.w.lt k hk).2⟩ (.inl ⟨b, rfl, hb⟩)
    exact hs.2 k o ho q1 q2
  · obtain ⟨c, hc⟩ := own_type h.l k hk
    obtain ⟨b, rfl⟩ : ∃ b, la = some b := by cases la with
      | none => cases hk
      | some b => exact ⟨b, rfl⟩
    have hb : b.block = k := by simpa [Value.ownBlock] using hk
    obtain ⟨q1, q2⟩ := h1 k ⟨c, _, hc, (h.l.lt k hk).1, (h.l.lt k hk).2⟩ (.inr ⟨b, rfl, hb⟩)
    exact hs.2 k o ho q1 q2
/-- The rows of a memory that was made later. -/
theorem MemO.later {V W : World} {base B : Nat} {wa la wb lb : Option Addr} {wc lc wd ld : Nat} {M N' : Mem} (h : MemO base wa wc la lc M V) (hn : MemO B wb wd lb ld N' V) (hs : spK B (.slice wb N'.W.length wd) (.slice lb N'.L.length ld) V W) (hlt : (∀ k, (.slice wa M.W.length wc : Value).ownBlock = some k ∨ (.slice la M.L.length lc : Value).ownBlock = some k → k < B) ∨ (∀ k, (.slice wb N'.W.length wd : Value).ownBlock = some k ∨ (.slice lb N'.L.length ld : Value).ownBlock = some k → k < base)) : MemO base wa wc la lc M W := by
  have key : ∀ k, ((.slice wa M.W.length wc : Value).ownBlock = some k ∨ (.slice la M.L.length lc : Value).ownBlock = some k) → base ≤ k → (.slice wb N'.W.length wd : Value).ownBlock ≠ some k ∧ (.slice lb N'.L.length ld : Value).ownBlock ≠ some k := by
    intro k hk hbk
    constructor
    · intro e
      rcases hlt with h1 | h1
      · have := h1 k hk; have := (hn.w.lt k e).1; omega
      · have := h1 k (.inl e); omega
    · intro e
      rcases hlt with h1 | h1
      · have := h1 k hk; have := (hn.l.lt k e).1; omega
      · have := h1 k (.inr e); omega
  refine ⟨own_keep h.w fun k o hk ho => ?_, own_keep h.l fun k o hk ho => ?_⟩
  · obtain ⟨q1, q2⟩ := key k (.inl hk) (h.w.lt k hk).1
    exact hs.2 k o ho q1 q2
  · obtain ⟨q1, q2⟩ := key k (.inr hk) (h.l.lt k hk).1
    exact hs.2 k o ho q1 q2
/-- A variable stays as it is while a memory's rows are written. -/
theorem spK.box {V W : World} {B Z : Nat} {wb lb : Option Addr} {wd ld : Nat} {N' : Mem} {cs : Array Value} {e : TypeId} (hs : spK B (.slice wb N'.W.length wd) (.slice lb N'.L.length ld) V W) (hn : MemO B wb wd lb ld N' V) (hz : V.heap[Z]? = some (.cells cs e (0, 0))) (h1 : 26 ≠ e) (h2 : 4 ≠ e) : W.heap[Z]? = some (.cells cs e (0, 0)) :=
  hs.2 Z _ hz (own_ne hn.w hz h1) (own_ne hn.l hz h2)

theorem dstep_facts {M : Mem} {s : Ed} (hW : Wok M) (hs : s.Ok) (hl : M.W.length ≤ 48 ∧ M.L.length ≤ 48) : (dstepP M s).2.1.Ok ∧ Wok (dstepP M s).1 ∧ ((dstepP M s).1.W.length ≤ 48 ∧ (dstepP M s).1.L.length ≤ 48) ∧ ((dstepP M s).2.2 = 0 → okM (dstepP M s).1 = true ∧ 0 ≤ (dstepP M s).2.1.ph ∧ (dstepP M s).2.1.ph ≤ 10) ∧ ((dstepP M s).2.2 ≠ 0 → ¬(okM M = true ∧ 0 ≤ s.ph ∧ s.ph ≤ 10)) := by
  unfold dstepP
  cases hok : okM M with
  | false =>
    rw [if_pos rfl]
    exact ⟨zeroE_ok, by unfold Wok; intro x hx; simp [zeroM] at hx, ⟨by decide, by decide⟩, (fun h => by cases h), (fun _ h => by cases h.1)⟩
  | true =>
    rw [if_neg (by decide)]
    split
    · exact ⟨zeroE_ok, by unfold Wok; intro x hx; simp [zeroM] at hx, ⟨by decide, by decide⟩, (fun h => by cases h), (fun _ h => by omega)⟩
    · rename_i hr
      obtain ⟨q1, q2, q3, q4, q5⟩ := stepE_ok hok hW hs (by omega)
      refine ⟨q3, q2, ?_, fun _ => ⟨q1, q5, ?_⟩, fun h => absurd rfl h⟩
      · unfold stepE
        split
        · exact hl
        · unfold accR
          dsimp only
          rw [stepM_len, stepM_L]
          exact hl
      · by_cases h9 : s.ph < 9
        · exact (q4 h9).2
        · unfold stepE
          rw [if_pos (by omega)]
          dsimp only
          omega
/-- Between two rounds. -/
structure Stp (V : World) (Xm Y Mb : Nat) (wa : Option Addr) (wc : Nat) (la : Option Addr) (lc : Nat) (M : Mem) (wak : Option Addr) (wck : Nat) (lak : Option Addr) (lck : Nat) (Mk : Mem) (sk : Ed) (W : World) : Prop where
  bx : W.heap[Xm]? = some (.cells #[.slice wa M.W.length wc, .slice la M.L.length lc, .bool M.F] 25 (0, 0))
  by_ : W.heap[Y]? = some (.cells (ed8 sk) 42 (0, 0))
  bm : W.heap[Mb]? = some (.cells #[.slice wak Mk.W.length wck, .slice lak Mk.L.length lck, .bool Mk.F] 25 (0, 0))
  mem : MemO V.heap.size wak wck lak lck Mk W
  below : Below V.heap.size V W
  inv : Mk = take48 M ∨ (okM Mk = true ∧ 0 ≤ sk.ph ∧ sk.ph ≤ 10)
  wok : Wok Mk
  sok : sk.Ok
  len : Mk.W.length ≤ 48 ∧ Mk.L.length ≤ 48
theorem Stp.grow {V W W' : World} {Xm Y Mb : Nat} {wa la wak lak : Option Addr} {wc lc wck lck : Nat} {M Mk : Mem} {sk : Ed} (h : Stp V Xm Y Mb wa wc la lc M wak wck lak lck Mk sk W) (hb : Below W.heap.size W W') : Stp V Xm Y Mb wa wc la lc M wak wck lak lck Mk sk W' :=
  ⟨keep_laid h.bx hb, keep_laid h.by_ hb, keep_laid h.bm hb, h.mem.grow hb, h.below.trans (hb.mono h.below.size), h.inv, h.wok, h.sok, h.len⟩
/-- Other variables are written. -/
theorem Stp.keep {V W W' : World} {Xm Y Mb : Nat} {wa la wak lak : Option Addr} {wc lc wck lck : Nat} {M Mk : Mem} {sk : Ed} (h : Stp V Xm Y Mb wa wc la lc M wak wck lak lck Mk sk W) (N : Nat) (hk : ∀ (k : Nat) (o : Obj), k < N → W.heap[k]? = some o → W'.heap[k]? = some o) (hx : Xm < N) (hy : Y < N) (hm : Mb < N) (hmem : ∀ k, (.slice wak Mk.W.length wck : Value).ownBlock = some k ∨ (.slice lak Mk.L.length lck : Value).ownBlock = some k → k < N) (hb : Below V.heap.size V W') : Stp V Xm Y Mb wa wc la lc M wak wck lak lck Mk sk W' :=
  ⟨hk _ _ hx h.bx, hk _ _ hy h.by_, hk _ _ hm h.bm, ⟨own_keep h.mem.w fun k o e ho => hk k o (hmem k (.inl e)) ho, own_keep h.mem.l fun k o e ho => hk k o (hmem k (.inr e)) ho⟩, hb, h.inv, h.wok, h.sok, h.len⟩
/-- A memory's rows that were made later are written. -/
theorem Stp.spoilt {V W W' : World} {Xm Y Mb B : Nat} {wa la wak lak wb lb : Option Addr} {wc lc wck lck wd ld : Nat} {M Mk N' : Mem} {sk : Ed} (h : Stp V Xm Y Mb wa wc la lc M wak wck lak lck Mk sk W) (hn : MemO B wb wd lb ld N' W) (hs : spK B (.slice wb N'.W.length wd) (.slice lb N'.L.length ld) W W') (hB : V.heap.size ≤ B) (hm : ∀ k, (.slice wak Mk.W.length wck : Value).ownBlock = some k ∨ (.slice lak Mk.L.length lck : Value).ownBlock = some k → k < B) : Stp V Xm Y Mb wa wc la lc M wak wck lak lck Mk sk W' :=
  ⟨hs.box hn h.bx (by decide) (by decide), hs.box hn h.by_ (by decide) (by decide), hs.box hn h.bm (by decide) (by decide), h.mem.later hn hs (.inl hm), h.below.trans (hs.1.mono hB), h.inv, h.wok, h.sok, h.len⟩
theorem MemO.below {base : Nat} {wa la : Option Addr} {wc lc : Nat} {M : Mem} {V : World} (h : MemO base wa wc la lc M V) : ∀ k, (.slice wa M.W.length wc : Value).ownBlock = some k ∨ (.slice la M.L.length lc : Value).ownBlock = some k → k < V.heap.size := by
  rintro k (e | e)
  · exact (h.w.lt k e).2
  · exact (h.l.lt k e).2

set_option maxRecDepth 100000 in
set_option maxHeartbeats 16000000 in
theorem steps_walk (M : Mem) (s : Ed) (wa la : Option Addr) (wc0M lc : Nat) (V : World) (h : MemL V wa wc0M la lc M) (hW : Wok M) (hs : s.Ok) :
    Calls Try.prog 5 #[memV wa wc0M la lc M, edV s] V (Ret (.bool true) V) := by
  obtain ⟨V1, hV1, hb1, hs1, hl1⟩ := laid V #[.slice wa M.W.length wc0M, .slice la M.L.length lc, .bool M.F] 25
  obtain ⟨V2, hV2, hb2, hs2, hl2⟩ := laid V1 (ed8 s) 42
  obtain ⟨Xm, hXm⟩ : ∃ X, V.heap.size = X := ⟨_, rfl⟩
  obtain ⟨Y, hY⟩ : ∃ X, V1.heap.size = X := ⟨_, rfl⟩
  rw [hXm] at hl1
  rw [hY] at hl2
  have HB2 := hid (step hb1 hb2)
  have HX2 := hid (keep_laid hl1 hb2)
  have HY2 := hid hl2
  have hVX : V.heap.size ≤ Xm := by omega
  have hXY : Xm < Y := by omega
  have HM := hid h
  have HWK := hid hW
  have HSK := hid hs
  have hwl := h.w.len
  have hll := h.l.len
  have HOWN : Hid (∀ W : World, Below V.heap.size V W → Calls Try.prog 8 #[.agg #[.slice wa M.W.length wc0M, .slice la M.L.length lc, .bool M.F]] W (GivesM (take48 M) W)) := hid (fun W hb => lawown_any M wa la wc0M lc W (h.grow hb))
  obtain ⟨ph, cuts, head, pl, key, val, prev, next⟩ := s
  unfold memV edV
  unfold ed8 at hV2
  dsimp only at hV2 ⊢
  clear h hW hs hb1 hb2 hs1 hs2 hl1 hl2
  go_enter Try.func5, Try.ntmps5
  go_wp2_with fail
  refine (wakes_any V2).mono ?_
  rintro e V3 ⟨rfl, hb3⟩
  obtain ⟨x0, x1, x2⟩ := cells3 (keep_laid HX2.out hb3)
  have HB3 := hid (step HB2.out hb3)
  have HX3 := hid (keep_laid HX2.out hb3)
  have HY3 := hid (keep_laid HY2.out hb3)
  clear hb3
  go_wp2_with fail
  refine (HOWN.out V3 HB3.out).mono ?_
  rintro e V4 ⟨wa0, wc0, la0, lc0, rfl, hO, hb4⟩
  obtain ⟨V5, hV5, hb5, hs5, hl5⟩ := laid V4 #[.slice none 0 0, .slice none 0 0, .bool false] 25
  obtain ⟨Mb, hMb⟩ : ∃ X, V4.heap.size = X := ⟨_, rfl⟩
  rw [hMb] at hl5
  obtain ⟨V6, hV6, hl6, hk6, hb6, hm6⟩ := put_mem hl5 (.slice wa0 (take48 M).W.length wc0) (.slice la0 (take48 M).L.length lc0) (.bool (take48 M).F)
  have hYM : Y < Mb := by have := lt_laid (keep_laid HY3.out hb4); omega
  have HS6 : Hid (Stp V Xm Y Mb wa wc0M la lc M wa0 wc0 la0 lc0 (take48 M) ⟨ph, cuts, head, pl, key, val, prev, next⟩ V6) := hid ⟨hk6 _ _ (by omega) (keep_laid HX3.out (step hb4 hb5)), hk6 _ _ (by omega) (keep_laid HY3.out (step hb4 hb5)), hl6, (hm6 _ _ _ _ _ _ ((hO.base HB3.out.size).grow hb5)), hb6 _ _ (by omega) (step (step HB3.out hb4) hb5), .inl rfl, take48_wok HWK.out, HSK.out, take48_len M⟩
  have HV6 := hid hV6
  have z0 := cell_laid (i := 0) hl5 rfl
  have zf0 := free_laid (i := 0) hl5
  have z1 := cell_laid (i := 1) hl5 rfl
  have zf1 := free_laid (i := 1) hl5
  have z2 := cell_laid (i := 2) hl5 rfl
  have zf2 := free_laid (i := 2) hl5
  rw [show memV wa0 wc0 la0 lc0 (take48 M) = .agg #[.slice wa0 (take48 M).W.length wc0, .slice la0 (take48 M).L.length lc0, .bool (take48 M).F] from rfl]
  clear hb4 hb5 hs5 hl5 hV6 hl6 hk6 hb6 hm6 hO x0 x1 x2
  go_upto_region 4 with (fail)
  rw [← HV6.out]
  clear z0 zf0 z1 zf1 z2 zf2
  go_wp2
  go_loopg [17] 10 (fun g t17 wr => ∃ (k : Nat) (wak : Option Addr) (wck : Nat) (lak : Option Addr) (lck : Nat) (Mk : Mem) (sk : Ed), g + k = 10 ∧ t17 = .int .i64 ((k : Nat) : Int) ∧ Hid (Stp V Xm Y Mb wa wc0M la lc M wak wck lak lck Mk sk wr))
  case atStart => exact ⟨0, _, _, _, _, _, _, rfl, rfl, HS6⟩
  case round =>
    obtain ⟨k, wak, wck, lak, lck, Mk, sk, hk, rfl, hS⟩ := hrel
    have HK := hid hk
    clear hk
    by_cases hlt : k < 10
    · obtain ⟨⟨Mn, sn, code⟩, hD⟩ : ∃ R, dstepP Mk sk = R := ⟨_, rfl⟩
      have HST := hid (dStep_any Mk sk wak lak wck lck wr hS.out.mem.memL hS.out.wok hS.out.sok)
      rw [hD] at HST
      have HDD := hid hD
      have hwlk := hS.out.mem.memL.w.len
      have hllk := hS.out.mem.memL.l.len
      unfold GivesS memV edV at HST
      obtain ⟨m0, m1, m2⟩ := cells3 hS.out.bm
      have y0 := cell_laid (i := 0) hS.out.by_ rfl
      have y1 := cell_laid (i := 1) hS.out.by_ rfl
      have y2 := cell_laid (i := 2) hS.out.by_ rfl
      have y3 := cell_laid (i := 3) hS.out.by_ rfl
      have y4 := cell_laid (i := 4) hS.out.by_ rfl
      have y5 := cell_laid (i := 5) hS.out.by_ rfl
      have y6 := cell_laid (i := 6) hS.out.by_ rfl
      have y7 := cell_laid (i := 7) hS.out.by_ rfl
      clear hD
      go_wp2_with fail
      refine HST.out.mono ?_
      rintro e w1 ⟨wan, wcn, lan, lcn, rfl, hO1, hb1⟩
      dsimp only at hO1 ⊢
      obtain ⟨w2, hw2, hb2, hs2, hl2⟩ := laid w1 #[.slice none 0 0, .slice none 0 0, .bool false] 25
      obtain ⟨w3, hw3, hb3, hs3, hl3⟩ := laid w2 #[.int .i64 0, .bool false, .int .u64 0, .int .u64 0, .int .u64 0, .int .u64 0, .int .u64 0, .int .u64 0] 42
      obtain ⟨B6, hB6⟩ : ∃ X, w1.heap.size = X := ⟨_, rfl⟩
      obtain ⟨B7, hB7⟩ : ∃ X, w2.heap.size = X := ⟨_, rfl⟩
      rw [hB6] at hl2
      rw [hB7] at hl3
      have h67 : B6 < B7 := by omega
      have hw6 : wr.heap.size ≤ B6 := by have := hb1.size; omega
      obtain ⟨w4a, w4, hw4a, hw4, a1, a2, a3, a4, k6, k7, a5, a6⟩ := put_me (keep_laid hl2 hb3) hl3 (by omega) (.slice wan Mn.W.length wcn) (.slice lan Mn.L.length lcn) (.bool Mn.F) (.int .i64 sn.ph) (.bool sn.cuts) (.int .u64 ((sn.head : Nat) : Int)) (.int .u64 ((sn.pl : Nat) : Int)) (.int .u64 ((sn.key : Nat) : Int)) (.int .u64 ((sn.val : Nat) : Int)) (.int .u64 ((sn.prev : Nat) : Int)) (.int .u64 ((sn.next : Nat) : Int))
      have HS4 : Hid (Stp V Xm Y Mb wa wc0M la lc M wak wck lak lck Mk sk w4) := hid ((hS.out.grow (step (step hb1 hb2) hb3)).keep B6 (fun k o hk ho => k7 k o (by omega) (by omega) ho) (by have := lt_laid hS.out.bx; omega) (by have := lt_laid hS.out.by_; omega) (by have := lt_laid hS.out.bm; omega) (fun k hk => by have := hS.out.mem.below k hk; omega) (a5 _ _ (by have := hS.out.below.size; omega) (by have := hS.out.below.size; omega) (hS.out.below.trans ((step (step hb1 hb2) hb3).mono hS.out.below.size))))
      have HN4 := hid (a6 _ _ _ _ _ _ (hO1.grow (step hb2 hb3)))
      have H64 := hid a3
      have H74 := hid a4
      have HW4a := hid hw4a
      have HW4 := hid hw4
      have z0 := cell_laid (i := 0) (keep_laid hl2 hb3) rfl
      have zf0 := free_laid (i := 0) (keep_laid hl2 hb3)
      have z1 := cell_laid (i := 1) (keep_laid hl2 hb3) rfl
      have zf1 := free_laid (i := 1) (keep_laid hl2 hb3)
      have z2 := cell_laid (i := 2) (keep_laid hl2 hb3) rfl
      have zf2 := free_laid (i := 2) (keep_laid hl2 hb3)
      have g0 := cell_laid (i := 0) hl3 rfl
      have gf0 := free_laid (i := 0) hl3
      have g1 := cell_laid (i := 1) hl3 rfl
      have gf1 := free_laid (i := 1) hl3
      have g2 := cell_laid (i := 2) hl3 rfl
      have gf2 := free_laid (i := 2) hl3
      have g3 := cell_laid (i := 3) hl3 rfl
      have gf3 := free_laid (i := 3) hl3
      have g4 := cell_laid (i := 4) hl3 rfl
      have gf4 := free_laid (i := 4) hl3
      have g5 := cell_laid (i := 5) hl3 rfl
      have gf5 := free_laid (i := 5) hl3
      have g6 := cell_laid (i := 6) hl3 rfl
      have gf6 := free_laid (i := 6) hl3
      have g7 := cell_laid (i := 7) hl3 rfl
      have gf7 := free_laid (i := 7) hl3
      have n67 : B6 ≠ B7 := by omega
      have n76 : B7 ≠ B6 := by omega
      clear m0 m1 m2 y0 y1 y2 y3 y4 y5 y6 y7 hO1 hb1 hb2 hb3 hs2 hs3 hl2 hl3 hw4a hw4 a1 a2 a3 a4 k6 k7 a5 a6
      go_upto_region 7 with (fail)
      rw [← HW4a.out, ← HW4.out]
      obtain ⟨w5, hw5, hb5, hs5, hl5⟩ := laid w4 #[.slice none 0 0, .slice none 0 0, .bool false] 25
      obtain ⟨w6, hw6', hb6, hs6, hl6⟩ := laid w5 #[.int .i64 0, .bool false, .int .u64 0, .int .u64 0, .int .u64 0, .int .u64 0, .int .u64 0, .int .u64 0] 42
      obtain ⟨B9, hB9⟩ : ∃ X, w4.heap.size = X := ⟨_, rfl⟩
      obtain ⟨B10, hB10⟩ : ∃ X, w5.heap.size = X := ⟨_, rfl⟩
      rw [hB9] at hl5
      rw [hB10] at hl6
      have h79 : B7 < B9 := by have := lt_laid H74.out; omega
      have h910 : B9 < B10 := by omega
      have HS6' := hid (HS4.out.grow (step hb5 hb6))
      have HN6 := hid (HN4.out.grow (step hb5 hb6))
      have H66 := hid (keep_laid H64.out (step hb5 hb6))
      have H76 := hid (keep_laid H74.out (step hb5 hb6))
      have H96 := hid (keep_laid hl5 hb6)
      have H106 := hid hl6
      obtain ⟨m0, m1, m2⟩ := cells3 HS4.out.bm
      obtain ⟨m0', m1', m2'⟩ := cells3 HS6'.out.bm
      have HRI := hid (RefRight_any Mk wak lak wck lck w6 HS6'.out.mem.memL)
      unfold memV at HRI
      clear hb5 hb6 hs5 hs6 hl5 hl6 z0 zf0 z1 zf1 z2 zf2 g0 gf0 g1 gf1 g2 gf2 g3 gf3 g4 gf4 g5 gf5 g6 gf6 g7 gf7
      go_wp2_with fail
      refine HRI.out.mono ?_
      rintro e w7 ⟨rfl, hb7⟩
      have HS7 := hid (HS6'.out.grow hb7)
      have HN7 := hid (HN6.out.grow hb7)
      have H67 := hid (keep_laid H66.out hb7)
      have H77 := hid (keep_laid H76.out hb7)
      have H97 := hid (keep_laid H96.out hb7)
      have H107 := hid (keep_laid H106.out hb7)
      clear hb7 m0 m1 m2 m0' m1' m2'
      go_upto_if 27 with (fail)
      go_cut [11] (fun t11 W => t11 = .int .i64 ((code : Nat) : Int) ∧ Hid (∃ waw wcw law lcw, Stp V Xm Y Mb wa wc0M la lc M wak wck lak lck Mk sk W ∧ MemO wr.heap.size wan wcn lan lcn Mn W ∧ W.heap[B6]? = some (.cells #[.slice wan Mn.W.length wcn, .slice lan Mn.L.length lcn, .bool Mn.F] 25 (0, 0)) ∧ W.heap[B7]? = some (.cells (ed8 sn) 42 (0, 0)) ∧ W.heap[B9]? = some (.cells #[.slice waw Mn.W.length wcw, .slice law Mn.L.length lcw, .bool Mn.F] 25 (0, 0)) ∧ MemL W waw wcw law lcw Mn ∧ W.heap[B10]? = some (.cells (ed8 sn) 42 (0, 0))))
      case first =>
        cases hok : okM Mk with
        | false =>
          obtain ⟨rfl, rfl, rfl⟩ : Mn = zeroM ∧ sn = zeroE ∧ code = 120 := by
            have := HDD.out
            unfold dstepP at this
            rw [hok, if_pos rfl] at this
            simp only [Prod.mk.injEq] at this
            exact ⟨this.1.symm, this.2.1.symm, this.2.2.symm⟩
          clear hok
          go_wp2
          go_meet
          exact ⟨rfl, hid ⟨none, 0, none, 0, HS7.out, HN7.out, H67.out, H77.out, H97.out, ⟨⟨Nat.le_refl _, Nat.zero_le _, .inl ⟨rfl, rfl⟩⟩, ⟨Nat.le_refl _, Nat.zero_le _, .inl ⟨rfl, rfl⟩⟩⟩, H107.out⟩⟩
        | true =>
          have y0 := cell_laid (i := 0) HS7.out.by_ rfl
          by_cases h0 : sk.ph < 0
          · have t0 : decide ((0 : Int) ≤ sk.ph) = false := decide_eq_false (by omega)
            obtain ⟨rfl, rfl, rfl⟩ : Mn = zeroM ∧ sn = zeroE ∧ code = 261 := by
              have := HDD.out
              unfold dstepP at this
              rw [hok, if_neg (by decide), if_pos (.inl h0)] at this
              simp only [Prod.mk.injEq] at this
              exact ⟨this.1.symm, this.2.1.symm, this.2.2.symm⟩
            clear hok h0
            go_wp2
            go_meet
            exact ⟨rfl, hid ⟨none, 0, none, 0, HS7.out, HN7.out, H67.out, H77.out, H97.out, ⟨⟨Nat.le_refl _, Nat.zero_le _, .inl ⟨rfl, rfl⟩⟩, ⟨Nat.le_refl _, Nat.zero_le _, .inl ⟨rfl, rfl⟩⟩⟩, H107.out⟩⟩
          · have t0 : decide ((0 : Int) ≤ sk.ph) = true := decide_eq_true (by omega)
            by_cases h10 : 10 < sk.ph
            · have t1 : decide (sk.ph ≤ 10) = false := decide_eq_false (by omega)
              obtain ⟨rfl, rfl, rfl⟩ : Mn = zeroM ∧ sn = zeroE ∧ code = 261 := by
                have := HDD.out
                unfold dstepP at this
                rw [hok, if_neg (by decide), if_pos (.inr h10)] at this
                simp only [Prod.mk.injEq] at this
                exact ⟨this.1.symm, this.2.1.symm, this.2.2.symm⟩
              clear hok h0 h10
              go_wp2
              go_meet
              exact ⟨rfl, hid ⟨none, 0, none, 0, HS7.out, HN7.out, H67.out, H77.out, H97.out, ⟨⟨Nat.le_refl _, Nat.zero_le _, .inl ⟨rfl, rfl⟩⟩, ⟨Nat.le_refl _, Nat.zero_le _, .inl ⟨rfl, rfl⟩⟩⟩, H107.out⟩⟩
            · have t1 : decide (sk.ph ≤ 10) = true := decide_eq_true (by omega)
              obtain ⟨hse, rfl⟩ : stepE Mk sk = (Mn, sn) ∧ code = 0 := by
                have := HDD.out
                unfold dstepP at this
                rw [hok, if_neg (by decide), if_neg (by omega)] at this
                simp only [Prod.mk.injEq] at this
                exact ⟨Prod.ext this.1 this.2.1, this.2.2.symm⟩
              have HSE := hid hse
              have HOK := hid hok
              have hph : 0 ≤ sk.ph := by omega
              clear hse hok h0 h10
              go_upto_region 13 with (fail)
              obtain ⟨D, hD⟩ : ∃ DX, w7.drew = DX := ⟨_, rfl⟩
              have hbD : Below w7.heap.size w7 D := by rw [← hD]; exact (Below.refl _ _).drew
              have HD := hid hD
              have HSD := hid (HS7.out.grow hbD)
              have HND := hid (HN7.out.grow hbD)
              have H6D := hid (keep_laid H67.out hbD)
              have H7D := hid (keep_laid H77.out hbD)
              have H9D := hid (keep_laid H97.out hbD)
              have H10D := hid (keep_laid H107.out hbD)
              have HOW : Hid (Calls Try.prog 8 #[.agg #[.slice wak Mk.W.length wck, .slice lak Mk.L.length lck, .bool Mk.F]] D (GivesM Mk D)) := hid (by have := lawown_any Mk wak lak wck lck D HSD.out.mem.memL; rw [take48_id HSD.out.len.1 HSD.out.len.2] at this; exact this)
              have h10D := lt_laid H10D.out
              clear hD hbD
              haveI : Nonempty (RXY Mb Y #[.slice wak Mk.W.length wck, .slice lak Mk.L.length lck, .bool Mk.F] (ed8 sk)) := ⟨⟨D, HSD.out.bm, HSD.out.by_⟩⟩
              have r0 : ∀ z : RXY Mb Y #[.slice wak Mk.W.length wck, .slice lak Mk.L.length lck, .bool Mk.F] (ed8 sk), z.w.cell? ⟨Mb, 0, none⟩ = some (.slice wak Mk.W.length wck) := fun z => cell_laid z.bx rfl
              have r1 : ∀ z : RXY Mb Y #[.slice wak Mk.W.length wck, .slice lak Mk.L.length lck, .bool Mk.F] (ed8 sk), z.w.cell? ⟨Mb, 1, none⟩ = some (.slice lak Mk.L.length lck) := fun z => cell_laid z.bx rfl
              have r2 : ∀ z : RXY Mb Y #[.slice wak Mk.W.length wck, .slice lak Mk.L.length lck, .bool Mk.F] (ed8 sk), z.w.cell? ⟨Mb, 2, none⟩ = some (.bool Mk.F) := fun z => cell_laid z.bx rfl
              have p0 : ∀ z : RXY Mb Y #[.slice wak Mk.W.length wck, .slice lak Mk.L.length lck, .bool Mk.F] (ed8 sk), z.w.cell? ⟨Y, 0, none⟩ = some (.int .i64 sk.ph) := fun z => cell_laid z.by_ rfl
              have p1 : ∀ z : RXY Mb Y #[.slice wak Mk.W.length wck, .slice lak Mk.L.length lck, .bool Mk.F] (ed8 sk), z.w.cell? ⟨Y, 1, none⟩ = some (.bool sk.cuts) := fun z => cell_laid z.by_ rfl
              have p2 : ∀ z : RXY Mb Y #[.slice wak Mk.W.length wck, .slice lak Mk.L.length lck, .bool Mk.F] (ed8 sk), z.w.cell? ⟨Y, 2, none⟩ = some (.int .u64 ((sk.head : Nat) : Int)) := fun z => cell_laid z.by_ rfl
              have p3 : ∀ z : RXY Mb Y #[.slice wak Mk.W.length wck, .slice lak Mk.L.length lck, .bool Mk.F] (ed8 sk), z.w.cell? ⟨Y, 3, none⟩ = some (.int .u64 ((sk.pl : Nat) : Int)) := fun z => cell_laid z.by_ rfl
              have p4 : ∀ z : RXY Mb Y #[.slice wak Mk.W.length wck, .slice lak Mk.L.length lck, .bool Mk.F] (ed8 sk), z.w.cell? ⟨Y, 4, none⟩ = some (.int .u64 ((sk.key : Nat) : Int)) := fun z => cell_laid z.by_ rfl
              have p5 : ∀ z : RXY Mb Y #[.slice wak Mk.W.length wck, .slice lak Mk.L.length lck, .bool Mk.F] (ed8 sk), z.w.cell? ⟨Y, 5, none⟩ = some (.int .u64 ((sk.val : Nat) : Int)) := fun z => cell_laid z.by_ rfl
              have p6 : ∀ z : RXY Mb Y #[.slice wak Mk.W.length wck, .slice lak Mk.L.length lck, .bool Mk.F] (ed8 sk), z.w.cell? ⟨Y, 6, none⟩ = some (.int .u64 ((sk.prev : Nat) : Int)) := fun z => cell_laid z.by_ rfl
              have p7 : ∀ z : RXY Mb Y #[.slice wak Mk.W.length wck, .slice lak Mk.L.length lck, .bool Mk.F] (ed8 sk), z.w.cell? ⟨Y, 7, none⟩ = some (.int .u64 ((sk.next : Nat) : Int)) := fun z => cell_laid z.by_ rfl
              refine wp_region_mix2 (fun W => ∃ z : RXY Mb Y #[.slice wak Mk.W.length wck, .slice lak Mk.L.length lck, .bool Mk.F] (ed8 sk), W = z.w) 9 (.q 0 (.q 2 (.h 1 (.h 3 (.q 4 (.q 5 (.q 6 (.h 7 (.h 8 .done))))))))) (by kernel_rfl) (by kernel_rfl) (by rw [HD.out]; exact ⟨⟨D, HSD.out.bm, HSD.out.by_⟩, rfl⟩) ?_
              rw [HD.out]
              repeat (refine wpMix2_q rfl rfl ?_; go_big_quiet_step (fail); refine wpQuiet_nil ?_)
              refine wpMix2_h rfl fun R' hR' hO => ?_
              go_wp2_with fail
              refine HOW.out.mono ?_
              rintro e v1 ⟨wao, wco, lao, lco, rfl, hoo, hbo⟩
              have HSV := hid (HSD.out.grow hbo)
              have HBO := hid hbo
              have HOO := hid hoo
              have HRS := hid (rStep_any Mk sk wao lao wco lco v1 hoo.memL HOK.out HSD.out.sok hph)
              rw [HSE.out] at HRS
              unfold GivesRS memV edV at HRS
              clear hoo hbo
              unfold memV
              go_wp2
              refine hR' _ _ ⟨⟨v1, HSV.out.bm, HSV.out.by_⟩, rfl⟩ ?_
              clear hR' hO R'
              refine wpMix2_h rfl fun R' hR' hO => ?_
              go_wp2_with fail
              refine HRS.out.mono ?_
              rintro e v2 ⟨waw, wcw, law, lcw, rfl, hmw, hbw, hkw, hkl⟩
              dsimp only at hmw ⊢
              have HSV2 := hid (HSV.out.grow hbw)
              have HBW := hid (step HBO.out hbw)
              have HGE : Hid ((∀ b off, waw = some ⟨b, off, none⟩ → D.heap.size ≤ b) ∧ (∀ b off, law = some ⟨b, off, none⟩ → D.heap.size ≤ b)) := hid (by
                constructor
                · rintro b off rfl
                  rcases hkw with e | e
                  · subst e; exact (HOO.out.w.lt b rfl).1
                  · exact Nat.le_trans HBO.out.size (e b off rfl)
                · rintro b off rfl
                  rcases hkl with e | e
                  · subst e; exact (HOO.out.l.lt b rfl).1
                  · exact Nat.le_trans HBO.out.size (e b off rfl))
              have HMW := hid hmw
              clear hmw hbw hkw hkl
              go_wp2
              refine hR' _ _ ⟨⟨v2, HSV2.out.bm, HSV2.out.by_⟩, rfl⟩ ?_
              clear hR' hO R'
              repeat (refine wpMix2_q rfl rfl ?_; go_big_quiet_step (fail); refine wpQuiet_nil ?_)
              obtain ⟨v3, v4, hv3, hv4, a1, a2, a3, a4, k6, k7, a5, a6⟩ := put_me (keep_laid H9D.out HBW.out) (keep_laid H10D.out HBW.out) (by omega) (.slice waw Mn.W.length wcw) (.slice law Mn.L.length lcw) (.bool Mn.F) (.int .i64 sn.ph) (.bool sn.cuts) (.int .u64 ((sn.head : Nat) : Int)) (.int .u64 ((sn.pl : Nat) : Int)) (.int .u64 ((sn.key : Nat) : Int)) (.int .u64 ((sn.val : Nat) : Int)) (.int .u64 ((sn.prev : Nat) : Int)) (.int .u64 ((sn.next : Nat) : Int))
              have z0 := cell_laid (i := 0) (keep_laid H9D.out HBW.out) rfl
              have zf0 := free_laid (i := 0) (keep_laid H9D.out HBW.out)
              have z1 := cell_laid (i := 1) (keep_laid H9D.out HBW.out) rfl
              have zf1 := free_laid (i := 1) (keep_laid H9D.out HBW.out)
              have z2 := cell_laid (i := 2) (keep_laid H9D.out HBW.out) rfl
              have zf2 := free_laid (i := 2) (keep_laid H9D.out HBW.out)
              have g0 := cell_laid (i := 0) a2 rfl
              have gf0 := free_laid (i := 0) a2
              have g1 := cell_laid (i := 1) a2 rfl
              have gf1 := free_laid (i := 1) a2
              have g2 := cell_laid (i := 2) a2 rfl
              have gf2 := free_laid (i := 2) a2
              have g3 := cell_laid (i := 3) a2 rfl
              have gf3 := free_laid (i := 3) a2
              have g4 := cell_laid (i := 4) a2 rfl
              have gf4 := free_laid (i := 4) a2
              have g5 := cell_laid (i := 5) a2 rfl
              have gf5 := free_laid (i := 5) a2
              have g6 := cell_laid (i := 6) a2 rfl
              have gf6 := free_laid (i := 6) a2
              have g7 := cell_laid (i := 7) a2 rfl
              have gf7 := free_laid (i := 7) a2
              have hord : Xm < B9 ∧ Y < B9 ∧ Mb < B9 := by have := lt_laid HS4.out.bx; have := lt_laid HS4.out.by_; have := lt_laid HS4.out.bm; omega
              have HS3 : Hid (v3.heap[Mb]? = some (.cells #[.slice wak Mk.W.length wck, .slice lak Mk.L.length lck, .bool Mk.F] 25 (0, 0)) ∧ v3.heap[Y]? = some (.cells (ed8 sk) 42 (0, 0))) := hid ⟨k6 _ _ (by omega) HSV2.out.bm, k6 _ _ (by omega) HSV2.out.by_⟩
              have HBV4 := a5 V.heap.size V (by have := hS.out.below.size; omega) (by have := hS.out.below.size; omega) HSV2.out.below
              have HS44 := hid (HSV2.out.keep B9 (fun k o hk ho => k7 k o (by omega) (by omega) ho) hord.1 hord.2.1 hord.2.2 (fun k hk => by have := HS4.out.mem.below k hk; omega) HBV4)
              have HNV4 := hid (a6 _ _ _ _ _ _ (HND.out.grow HBW.out))
              have H6V := hid (k7 B6 _ (by omega) (by omega) (keep_laid H6D.out HBW.out))
              have H7V := hid (k7 B7 _ (by omega) (by omega) (keep_laid H7D.out HBW.out))
              have HMV : Hid (MemL v4 waw wcw law lcw Mn) := hid (by
                have z1 : apartA waw B9 ∧ apartA law B9 ∧ apartA waw B10 ∧ apartA law B10 := ⟨fun b o e => by have := HGE.out.1 b o e; omega, fun b o e => by have := HGE.out.2 b o e; omega, fun b o e => by have := HGE.out.1 b o e; omega, fun b o e => by have := HGE.out.2 b o e; omega⟩
                rw [hv4, hv3]
                exact ⟨((((((((((HMW.out.w.setNe z1.1).setNe z1.1).setNe z1.1).setNe z1.2.2.1).setNe z1.2.2.1).setNe z1.2.2.1).setNe z1.2.2.1).setNe z1.2.2.1).setNe z1.2.2.1).setNe z1.2.2.1).setNe z1.2.2.1, ((((((((((HMW.out.l.setNe z1.2.1).setNe z1.2.1).setNe z1.2.1).setNe z1.2.2.2).setNe z1.2.2.2).setNe z1.2.2.2).setNe z1.2.2.2).setNe z1.2.2.2).setNe z1.2.2.2).setNe z1.2.2.2).setNe z1.2.2.2⟩)
              have HV3 := hid hv3
              have HV4 := hid hv4
              have A3 := hid a3
              have A4 := hid a4
              clear hv3 hv4 a1 a2 a3 a4 k6 k7 a5 a6 HBV4
              refine wpMix2_h rfl fun R' hR' hO => ?_
              go_wp2
              rw [← HV3.out]
              refine hR' _ _ ⟨⟨v3, HS3.out.1, HS3.out.2⟩, rfl⟩ ?_
              clear hR' hO R'
              refine wpMix2_h rfl fun R' hR' hO => ?_
              go_wp2
              rw [← HV4.out]
              refine hR' _ _ ⟨⟨v4, HS44.out.bm, HS44.out.by_⟩, rfl⟩ ?_
              clear hR' hO R'
              refine wpMix2_done ?_
              simp only [List.drop_succ_cons, List.drop_nil]
              go_wp2
              go_meet
              exact ⟨rfl, hid ⟨_, _, _, _, HS44.out, HNV4.out, H6V.out, H7V.out, A3.out, HMV.out, A4.out⟩⟩
      case rest =>
        obtain ⟨rfl, waw, wcw, law, lcw, hS8, hN8, h68, h78, h98, hMw, h108⟩ := hcut
        obtain ⟨w8, hw8⟩ : ∃ W, W = wc := ⟨_, rfl⟩
        subst hw8
        have HF : Hid (sn.Ok ∧ Wok Mn ∧ (Mn.W.length ≤ 48 ∧ Mn.L.length ≤ 48) ∧ (code = 0 → okM Mn = true ∧ 0 ≤ sn.ph ∧ sn.ph ≤ 10) ∧ (code ≠ 0 → ¬(okM Mk = true ∧ 0 ≤ sk.ph ∧ sk.ph ≤ 10))) := hid (by have := dstep_facts hS.out.wok hS.out.sok hS.out.len; rw [HDD.out] at this; exact this)
        have HS8 := hid hS8
        have HN8 := hid hN8
        have H68 := hid h68
        have H78 := hid h78
        have H98 := hid h98
        have H108 := hid h108
        have tq : (((code : Nat) : Int) != ((code : Nat) : Int)) = false := by simp
        have heq : ∀ w : World, (Op.equalIn 10000 42 (.agg #[.int .i64 sn.ph, .bool sn.cuts, .int .u64 ((sn.head : Nat) : Int), .int .u64 ((sn.pl : Nat) : Int), .int .u64 ((sn.key : Nat) : Int), .int .u64 ((sn.val : Nat) : Int), .int .u64 ((sn.prev : Nat) : Int), .int .u64 ((sn.next : Nat) : Int)]) (.agg #[.int .i64 sn.ph, .bool sn.cuts, .int .u64 ((sn.head : Nat) : Int), .int .u64 ((sn.pl : Nat) : Int), .int .u64 ((sn.key : Nat) : Int), .int .u64 ((sn.val : Nat) : Int), .int .u64 ((sn.prev : Nat) : Int), .int .u64 ((sn.next : Nat) : Int)])).run Try.prog w = .ok true w := fun w => by rw [ed_eq sn sn HF.out.1 HF.out.1 w]; simp
        have hsm := RefSame_any Mn Mn wan lan waw law wcn lcn wcw lcw w8 hN8.memL hMw
        rw [sameM_self] at hsm
        have HSM := hid hsm
        unfold memV at HSM
        obtain ⟨n0, n1, n2⟩ := cells3 h68
        obtain ⟨v0, v1, v2⟩ := cells3 h98
        have y0 := cell_laid (i := 0) h78 rfl
        have y1 := cell_laid (i := 1) h78 rfl
        have y2 := cell_laid (i := 2) h78 rfl
        have y3 := cell_laid (i := 3) h78 rfl
        have y4 := cell_laid (i := 4) h78 rfl
        have y5 := cell_laid (i := 5) h78 rfl
        have y6 := cell_laid (i := 6) h78 rfl
        have y7 := cell_laid (i := 7) h78 rfl
        have g0 := cell_laid (i := 0) h108 rfl
        have g1 := cell_laid (i := 1) h108 rfl
        have g2 := cell_laid (i := 2) h108 rfl
        have g3 := cell_laid (i := 3) h108 rfl
        have g4 := cell_laid (i := 4) h108 rfl
        have g5 := cell_laid (i := 5) h108 rfl
        have g6 := cell_laid (i := 6) h108 rfl
        have g7 := cell_laid (i := 7) h108 rfl
        clear hS8 hN8 h68 h78 h98 hMw h108 hsm
        go_wp2_with fail
        refine HSM.out.mono ?_
        rintro e w9 ⟨rfl, hb9⟩
        have HS9 := hid (HS8.out.grow hb9)
        have HN9 := hid (HN8.out.grow hb9)
        have H69 := hid (keep_laid H68.out hb9)
        have H79 := hid (keep_laid H78.out hb9)
        have h9s := hb9.size
        clear hb9 n0 n1 n2 v0 v1 v2 y0 y1 y2 y3 y4 y5 y6 y7 g0 g1 g2 g3 g4 g5 g6 g7 heq
        obtain ⟨n0, n1, n2⟩ := cells3 H69.out
        have HO9 : Hid (Calls Try.prog 8 #[.agg #[.slice wan Mn.W.length wcn, .slice lan Mn.L.length lcn, .bool Mn.F]] w9 (GivesM Mn w9)) := hid (by have := lawown_any Mn wan lan wcn lcn w9 HN9.out.memL; rw [take48_id HF.out.2.2.1.1 HF.out.2.2.1.2] at this; exact this)
        go_wp2_with fail
        refine HO9.out.mono ?_
        rintro e w10 ⟨wao, wco, lao, lco, rfl, hoo, hbo⟩
        obtain ⟨w11, hw11, hb11, hs11, hl11⟩ := laid w10 #[.slice none 0 0, .slice none 0 0, .bool false] 25
        obtain ⟨B12, hB12⟩ : ∃ X, w10.heap.size = X := ⟨_, rfl⟩
        rw [hB12] at hl11
        obtain ⟨w12, hw12, hl12, hk12, hb12, hm12⟩ := put_mem hl11 (.slice wao Mn.W.length wco) (.slice lao Mn.L.length lco) (.bool Mn.F)
        have h912 : w9.heap.size ≤ B12 := by have := hbo.size; omega
        have HN12 := hid (hm12 _ _ _ _ _ _ (HN9.out.grow (step hbo hb11)))
        have HO12 := hid (hm12 _ _ _ _ _ _ (hoo.grow hb11))
        have H612 := hid (hk12 _ _ (by have := lt_laid H69.out; omega) (keep_laid H69.out (step hbo hb11)))
        have H712 := hid (hk12 _ _ (by have := lt_laid H79.out; omega) (keep_laid H79.out (step hbo hb11)))
        have HL12 := hid hl12
        have HB12V := hb12 V.heap.size V (by have := HS9.out.below.size; omega) (HS9.out.below.trans ((step hbo hb11).mono HS9.out.below.size))
        have HS12 := hid ((HS9.out.grow (step hbo hb11)).keep B12 (fun k o hk ho => hk12 k o (by omega) ho) (by have := lt_laid HS9.out.bx; omega) (by have := lt_laid HS9.out.by_; omega) (by have := lt_laid HS9.out.bm; omega) (fun k hk => by have := HS9.out.mem.below k hk; omega) HB12V)
        have hwr12 : wr.heap.size ≤ w12.heap.size := by have q1 := lt_laid hl12; have q2 := h9s; have q3 := lt_laid H68.out; omega
        have HSP := hid (spoil_any Mn wr.heap.size wan lan wcn lcn w12 HN12.out hwr12)
        unfold memV at HSP
        have HW12 := hid hw12
        have z0 := cell_laid (i := 0) hl11 rfl
        have zf0 := free_laid (i := 0) hl11
        have z1 := cell_laid (i := 1) hl11 rfl
        have zf1 := free_laid (i := 1) hl11
        have z2 := cell_laid (i := 2) hl11 rfl
        have zf2 := free_laid (i := 2) hl11
        unfold memV
        clear hoo hbo hb11 hs11 hl11 hl12 hk12 hb12 hm12 hw12 HB12V n0 n1 n2
        go_upto_region 18 with (fail)
        rw [← HW12.out]
        clear z0 zf0 z1 zf1 z2 zf2
        obtain ⟨n0, n1, n2⟩ := cells3 H612.out
        go_wp2_with fail
        refine HSP.out.mono ?_
        rintro e w13 ⟨⟨vv, rfl⟩, hsp⟩
        have H713 := hid (hsp.box HN12.out H712.out (by decide) (by decide))
        have HL13 := hid (hsp.box HN12.out HL12.out (by decide) (by decide))
        have HS13 := hid (HS12.out.spoilt HN12.out hsp hS.out.below.size hS.out.mem.below)
        have HO13 := hid (HO12.out.later HN12.out hsp (.inr HN9.out.below))
        clear hsp n0 n1 n2
        by_cases hc : code = 0
        · have tc : (((code : Nat) : Int) != 0) = false := by simp; omega
          have HIN := hid (HF.out.2.2.2.1 hc)
          clear hc
          go_upto_region 21 with (fail)
          obtain ⟨D, hD⟩ : ∃ DX, w13.drew = DX := ⟨_, rfl⟩
          have hbD : Below w13.heap.size w13 D := by rw [← hD]; exact (Below.refl _ _).drew
          have HD := hid hD
          have HSD := hid (HS13.out.grow hbD)
          have H7D := hid (keep_laid H713.out hbD)
          have HLD := hid (keep_laid HL13.out hbD)
          have HOD := hid (HO13.out.grow hbD)
          clear hD hbD
          have hYMb : Y ≠ Mb := by omega
          have hMbY : Mb ≠ Y := by omega
          have h12M : B12 ≠ Mb ∧ B12 ≠ Y ∧ B7 ≠ Mb ∧ B7 ≠ Y := by have q1 := lt_laid HS4.out.bm; have q2 := lt_laid HS4.out.by_; have q3 := lt_laid hS.out.bm; have q4 := lt_laid hS.out.by_; have q5 := lt_laid HS9.out.bm; have q6 := lt_laid HS9.out.by_; omega
          obtain ⟨v3, v4, hv3, hv4, a1, a2, a3, a4, k6, k7, a5, a6⟩ := put_me HSD.out.bm HSD.out.by_ hYMb (.slice wao Mn.W.length wco) (.slice lao Mn.L.length lco) (.bool Mn.F) (.int .i64 sn.ph) (.bool sn.cuts) (.int .u64 ((sn.head : Nat) : Int)) (.int .u64 ((sn.pl : Nat) : Int)) (.int .u64 ((sn.key : Nat) : Int)) (.int .u64 ((sn.val : Nat) : Int)) (.int .u64 ((sn.prev : Nat) : Int)) (.int .u64 ((sn.next : Nat) : Int))
          have HX3 : Hid (v3.heap[B12]? = some (.cells #[.slice wao Mn.W.length wco, .slice lao Mn.L.length lco, .bool Mn.F] 25 (0, 0)) ∧ v3.heap[B7]? = some (.cells (ed8 sn) 42 (0, 0))) := hid ⟨k6 _ _ h12M.1 HLD.out, k6 _ _ h12M.2.2.1 H7D.out⟩
          have HX4 : Hid (v4.heap[B12]? = some (.cells #[.slice wao Mn.W.length wco, .slice lao Mn.L.length lco, .bool Mn.F] 25 (0, 0)) ∧ v4.heap[B7]? = some (.cells (ed8 sn) 42 (0, 0))) := hid ⟨k7 _ _ h12M.1 h12M.2.1 HLD.out, k7 _ _ h12M.2.2.1 h12M.2.2.2 H7D.out⟩
          have HSN : Hid (Stp V Xm Y Mb wa wc0M la lc M wao wco lao lco Mn sn v4) := hid ⟨k7 _ _ (by omega) (by omega) HSD.out.bx, a4, a3, (a6 _ _ _ _ _ _ HOD.out).base (HS9.out.below.size), a5 _ _ (by omega) (by omega) HSD.out.below, .inr HIN.out, HF.out.2.1, HF.out.1, HF.out.2.2.1⟩
          have z0 := cell_laid (i := 0) HSD.out.bm rfl
          have zf0 := free_laid (i := 0) HSD.out.bm
          have z1 := cell_laid (i := 1) HSD.out.bm rfl
          have zf1 := free_laid (i := 1) HSD.out.bm
          have z2 := cell_laid (i := 2) HSD.out.bm rfl
          have zf2 := free_laid (i := 2) HSD.out.bm
          have g0 := cell_laid (i := 0) a2 rfl
          have gf0 := free_laid (i := 0) a2
          have g1 := cell_laid (i := 1) a2 rfl
          have gf1 := free_laid (i := 1) a2
          have g2 := cell_laid (i := 2) a2 rfl
          have gf2 := free_laid (i := 2) a2
          have g3 := cell_laid (i := 3) a2 rfl
          have gf3 := free_laid (i := 3) a2
          have g4 := cell_laid (i := 4) a2 rfl
          have gf4 := free_laid (i := 4) a2
          have g5 := cell_laid (i := 5) a2 rfl
          have gf5 := free_laid (i := 5) a2
          have g6 := cell_laid (i := 6) a2 rfl
          have gf6 := free_laid (i := 6) a2
          have g7 := cell_laid (i := 7) a2 rfl
          have gf7 := free_laid (i := 7) a2
          have HV3 := hid hv3
          have HV4 := hid hv4
          clear hv3 hv4 a1 a2 a3 a4 k6 k7 a5 a6
          haveI : Nonempty (RXY B12 B7 #[.slice wao Mn.W.length wco, .slice lao Mn.L.length lco, .bool Mn.F] (ed8 sn)) := ⟨⟨D, HLD.out, H7D.out⟩⟩
          have r0 : ∀ z : RXY B12 B7 #[.slice wao Mn.W.length wco, .slice lao Mn.L.length lco, .bool Mn.F] (ed8 sn), z.w.cell? ⟨B12, 0, none⟩ = some (.slice wao Mn.W.length wco) := fun z => cell_laid z.bx rfl
          have r1 : ∀ z : RXY B12 B7 #[.slice wao Mn.W.length wco, .slice lao Mn.L.length lco, .bool Mn.F] (ed8 sn), z.w.cell? ⟨B12, 1, none⟩ = some (.slice lao Mn.L.length lco) := fun z => cell_laid z.bx rfl
          have r2 : ∀ z : RXY B12 B7 #[.slice wao Mn.W.length wco, .slice lao Mn.L.length lco, .bool Mn.F] (ed8 sn), z.w.cell? ⟨B12, 2, none⟩ = some (.bool Mn.F) := fun z => cell_laid z.bx rfl
          have p0 : ∀ z : RXY B12 B7 #[.slice wao Mn.W.length wco, .slice lao Mn.L.length lco, .bool Mn.F] (ed8 sn), z.w.cell? ⟨B7, 0, none⟩ = some (.int .i64 sn.ph) := fun z => cell_laid z.by_ rfl
          have p1 : ∀ z : RXY B12 B7 #[.slice wao Mn.W.length wco, .slice lao Mn.L.length lco, .bool Mn.F] (ed8 sn), z.w.cell? ⟨B7, 1, none⟩ = some (.bool sn.cuts) := fun z => cell_laid z.by_ rfl
          have p2 : ∀ z : RXY B12 B7 #[.slice wao Mn.W.length wco, .slice lao Mn.L.length lco, .bool Mn.F] (ed8 sn), z.w.cell? ⟨B7, 2, none⟩ = some (.int .u64 ((sn.head : Nat) : Int)) := fun z => cell_laid z.by_ rfl
          have p3 : ∀ z : RXY B12 B7 #[.slice wao Mn.W.length wco, .slice lao Mn.L.length lco, .bool Mn.F] (ed8 sn), z.w.cell? ⟨B7, 3, none⟩ = some (.int .u64 ((sn.pl : Nat) : Int)) := fun z => cell_laid z.by_ rfl
          have p4 : ∀ z : RXY B12 B7 #[.slice wao Mn.W.length wco, .slice lao Mn.L.length lco, .bool Mn.F] (ed8 sn), z.w.cell? ⟨B7, 4, none⟩ = some (.int .u64 ((sn.key : Nat) : Int)) := fun z => cell_laid z.by_ rfl
          have p5 : ∀ z : RXY B12 B7 #[.slice wao Mn.W.length wco, .slice lao Mn.L.length lco, .bool Mn.F] (ed8 sn), z.w.cell? ⟨B7, 5, none⟩ = some (.int .u64 ((sn.val : Nat) : Int)) := fun z => cell_laid z.by_ rfl
          have p6 : ∀ z : RXY B12 B7 #[.slice wao Mn.W.length wco, .slice lao Mn.L.length lco, .bool Mn.F] (ed8 sn), z.w.cell? ⟨B7, 6, none⟩ = some (.int .u64 ((sn.prev : Nat) : Int)) := fun z => cell_laid z.by_ rfl
          have p7 : ∀ z : RXY B12 B7 #[.slice wao Mn.W.length wco, .slice lao Mn.L.length lco, .bool Mn.F] (ed8 sn), z.w.cell? ⟨B7, 7, none⟩ = some (.int .u64 ((sn.next : Nat) : Int)) := fun z => cell_laid z.by_ rfl
          refine wp_region_mix2 (fun W => ∃ z : RXY B12 B7 #[.slice wao Mn.W.length wco, .slice lao Mn.L.length lco, .bool Mn.F] (ed8 sn), W = z.w) 4 (.q 0 (.q 1 (.h 2 (.h 3 .done)))) (by kernel_rfl) (by kernel_rfl) (by rw [HD.out]; exact ⟨⟨D, HLD.out, H7D.out⟩, rfl⟩) ?_
          rw [HD.out]
          repeat (refine wpMix2_q rfl rfl ?_; go_big_quiet_step (fail); refine wpQuiet_nil ?_)
          refine wpMix2_h rfl fun R' hR' hO => ?_
          go_wp2
          rw [← HV3.out]
          refine hR' _ _ ⟨⟨v3, HX3.out.1, HX3.out.2⟩, rfl⟩ ?_
          clear hR' hO R'
          refine wpMix2_h rfl fun R' hR' hO => ?_
          go_wp2
          rw [← HV4.out]
          refine hR' _ _ ⟨⟨v4, HX4.out.1, HX4.out.2⟩, rfl⟩ ?_
          clear hR' hO R'
          refine wpMix2_done ?_
          simp only [List.drop_succ_cons, List.drop_nil]
          go_wp2
          go_roundg (gk - 1)
          case measure => have := HK.out; omega
          case rel => exact ⟨k + 1, _, _, _, _, _, _, by have := HK.out; omega, by go_num, HSN⟩
        · have tc : (((code : Nat) : Int) != 0) = true := by simp; omega
          have HME : Hid (Mk = take48 M) := hid (hS.out.inv.resolve_right (HF.out.2.2.2.2 hc))
          clear hc
          go_upto_region 20 with (fail)
          obtain ⟨D, hD⟩ : ∃ DX, w13.drew = DX := ⟨_, rfl⟩
          have hbD : Below w13.heap.size w13 D := by rw [← hD]; exact (Below.refl _ _).drew
          have HD := hid hD
          have HSD := hid (HS13.out.grow hbD)
          clear hD hbD
          have r0 : ∀ z : Ext D, z.v.cell? ⟨Mb, 0, none⟩ = some (.slice wak Mk.W.length wck) := fun z => cell_laid (keep_laid HSD.out.bm z.b) rfl
          have r1 : ∀ z : Ext D, z.v.cell? ⟨Mb, 1, none⟩ = some (.slice lak Mk.L.length lck) := fun z => cell_laid (keep_laid HSD.out.bm z.b) rfl
          have r2 : ∀ z : Ext D, z.v.cell? ⟨Mb, 2, none⟩ = some (.bool Mk.F) := fun z => cell_laid (keep_laid HSD.out.bm z.b) rfl
          have p0 : ∀ z : Ext D, z.v.cell? ⟨Xm, 0, none⟩ = some (.slice wa M.W.length wc0M) := fun z => cell_laid (keep_laid HSD.out.bx z.b) rfl
          have p1 : ∀ z : Ext D, z.v.cell? ⟨Xm, 1, none⟩ = some (.slice la M.L.length lc) := fun z => cell_laid (keep_laid HSD.out.bx z.b) rfl
          have p2 : ∀ z : Ext D, z.v.cell? ⟨Xm, 2, none⟩ = some (.bool M.F) := fun z => cell_laid (keep_laid HSD.out.bx z.b) rfl
          refine wp_region_mix2 (fun W => ∃ z : Ext D, W = z.v) 5 (.q 0 (.q 1 (.h 2 (.h 3 (.q 4 .done))))) (by kernel_rfl) (by kernel_rfl) (by rw [HD.out]; exact ⟨⟨D, Below.refl _ _⟩, rfl⟩) ?_
          rw [HD.out]
          repeat (refine wpMix2_q rfl rfl ?_; go_big_quiet_step (fail); refine wpQuiet_nil ?_)
          refine wpMix2_h rfl fun R' hR' hO => ?_
          go_wp2_with fail
          refine (HOWN.out D HSD.out.below).mono ?_
          rintro e v1 ⟨wao, wco, lao, lco, rfl, hoo, hbo⟩
          rw [← HME.out] at hoo ⊢
          have hsm := RefSame_any Mk Mk wak lak wao lao wck lck wco lco v1 (HSD.out.mem.grow hbo).memL hoo.memL
          rw [sameM_self] at hsm
          have HSM := hid hsm
          unfold memV at HSM
          have HBO := hid hbo
          clear hoo hbo hsm
          unfold memV
          go_wp2
          refine hR' _ _ ⟨⟨v1, HBO.out⟩, rfl⟩ ?_
          clear hR' hO R'
          refine wpMix2_h rfl fun R' hR' hO => ?_
          go_wp2_with fail
          refine HSM.out.mono ?_
          rintro e v2 ⟨rfl, hb2⟩
          have HB2 := hid (step HBO.out hb2)
          clear hb2
          go_wp2
          refine hR' _ _ ⟨⟨v2, HB2.out⟩, rfl⟩ ?_
          clear hR' hO R'
          repeat (refine wpMix2_q rfl rfl ?_; go_big_quiet_step (fail); refine wpQuiet_nil ?_)
          refine wpMix2_done ?_
          simp only [List.drop_succ_cons, List.drop_nil]
          go_wp2
          go_ret
          exact ⟨rfl, HSD.out.below.trans (HB2.out.mono HSD.out.below.size)⟩
    · skip
      go_wp2
      go_ret
      exact ⟨rfl, hS.out.below⟩
end Go.Proofs.Ytoihjmdpbbcbjaa
