/- Lists linked both ways: run, in, Put, Cut. -/
import Derived.Test.YtoihjmdpbbcbjaaDblPlain1
namespace Go.Proofs.Ytoihjmdpbbcbjaa
open Go.RowKit
open Go.Proofs
set_option linter.unusedVariables false
attribute [local go_sem] Oper.semAt_some

theorem wp_scope_jumps3 {P : Program} {Q : Exit → Act → World → Prop} {a : Act} {w : World} {c rest : Code} (l : Nat) (J : Act → World → Prop) (μ : Act → World → Nat) (hf : findLabel c l = some (.seq .skip rest))
    (pass : ∀ a w, J a w → rest.wp P (Exit.jump l (fun a' w' => J a' w' ∧ μ a' w' < μ a w) Q) a w)
    (first : (∀ a w, J a w → rest.wp P (Exit.jump l J Q) a w) → c.wp P (Exit.jump l J Q) a w) : (Code.scope c).wp P Q a w := by
  refine wp_scope_jumps l J μ hf (first fun a w hJ => Code.wp_mono ?_ (pass a w hJ)) (fun a w hJ => wp_seq (wp_skip (pass a w hJ)))
  intro e a' w' h
  cases e <;> simp only [Exit.jump] at h ⊢ <;> first | exact h | exact ⟨h.1, h.2.1⟩

theorem run_result {W : World} {b : Nat} {v0 v1 v2 u : Value} {tmps : Array Value} (h : W.heap[b]? = some (.cells #[v0, v1, v2] 25 (0, 0))) (hp : tmps[4]?.getD undef = .pointer (some ⟨b, 0, none⟩)) (h5 : tmps[5]?.getD undef = u) :
    (results Try.f37 tmps).run Try.prog W = .ok (.tuple #[.agg #[v0, v1, v2], u]) W := by
  have h0 := cell_laid (i := 0) (v := v0) h rfl
  have h1 := cell_laid (i := 1) (v := v1) h rfl
  have h2 := cell_laid (i := 2) (v := v2) h rfl
  simp [results, Try.results37, go_sem, hp, h5, h0, h1, h2]
/-- A call gives a memory, and a number. -/
def GivesN (M : Mem) (n : Nat) (fr : Bool) (w : World) (e : Ending) (W : World) : Prop := ∃ wa wc la lc, e = .returned (.tuple #[memV wa wc la lc M, .int .i64 ((n : Nat) : Int)]) ∧ MemL W wa wc la lc M ∧ (fr = true → MemO w.heap.size wa wc la lc M W) ∧ Below w.heap.size w W
/-- Who changes, on its way through run. -/
structure Rn (B E Z fr0 : Nat) (M : Mem) (s : Ed) (n f : Nat) (fr : Bool) (res : Mem × Nat) (w V : World) : Prop where
  ed : ∃ lost, EdL B fr E s lost M V
  ok : okM M = true
  wok : Wok M
  sok : s.Ok
  p0 : 0 ≤ s.ph
  p10 : s.ph ≤ 10
  z : ∃ v0 v1 v2, V.heap[Z]? = some (.cells #[v0, v1, v2] 25 (0, 0))
  res : runE f M s n = res
  fuel : 10 ≤ f + s.ph
  below : Below B w V
  fr : fr0 ≤ n → fr = true

theorem below_grown {B E : Nat} {w A C : World} (h : Below B w A) (hg : A.grownBy C (some E)) (hE : B ≤ E) (hB : B ≤ A.heap.size) : Below B w C :=
  h.trans ⟨hg.os, hg.tape, hg.output, hg.size, fun k hk => hg.block k (by omega) (fun e => by cases e; omega)⟩
set_option maxRecDepth 100000 in
set_option maxHeartbeats 4000000 in
theorem run_any (M : Mem) (s : Ed) (wa la : Option Addr) (wc lc : Nat) (V : World) (h : MemL V wa wc la lc M) (hok : okM M = true) (hW : Wok M) (hs : s.Ok) (hp : 0 ≤ s.ph) (hp10 : s.ph ≤ 10) :
    Calls Try.prog 37 #[memV wa wc la lc M, edV s] V (GivesN (runE 12 M s 0).1 (runE 12 M s 0).2 (decide (s.ph < 9)) V) := by
  obtain ⟨V1, hV1, hb1, hs1, hl1⟩ := laid V #[.slice wa M.W.length wc, .slice la M.L.length lc, .bool M.F] 25
  obtain ⟨V2, hV2, hb2, hs2, hl2⟩ := laid V1 #[.int .i64 s.ph, .bool s.cuts, .int .u64 ((s.head : Nat) : Int), .int .u64 ((s.pl : Nat) : Int), .int .u64 ((s.key : Nat) : Int), .int .u64 ((s.val : Nat) : Int), .int .u64 ((s.prev : Nat) : Int), .int .u64 ((s.next : Nat) : Int)] 42
  obtain ⟨V3, hV3, hb3, hs3, hl3⟩ := laid V2 #[.slice none 0 0, .slice none 0 0, .bool false] 25
  obtain ⟨V4, hV4, hb4, hs4, hl4⟩ := laid V3 (edCells s false wa M.W.length wc la M.L.length lc M.F) 89
  obtain ⟨X, hX⟩ : ∃ X, V.heap.size = X := ⟨_, rfl⟩
  obtain ⟨Y, hY⟩ : ∃ X, V1.heap.size = X := ⟨_, rfl⟩
  obtain ⟨Z, hZ⟩ : ∃ X, V2.heap.size = X := ⟨_, rfl⟩
  obtain ⟨E, hE⟩ : ∃ X, V3.heap.size = X := ⟨_, rfl⟩
  rw [hX] at hl1
  rw [hY] at hl2
  rw [hZ] at hl3
  rw [hE] at hl4
  obtain ⟨x0, x1, x2⟩ := cells3 (keep_laid (keep_laid hl1 hb2) hb3)
  have y0 := cell_laid (i := 0) (keep_laid hl2 hb3) rfl
  have y1 := cell_laid (i := 1) (keep_laid hl2 hb3) rfl
  have y2 := cell_laid (i := 2) (keep_laid hl2 hb3) rfl
  have y3 := cell_laid (i := 3) (keep_laid hl2 hb3) rfl
  have y4 := cell_laid (i := 4) (keep_laid hl2 hb3) rfl
  have y5 := cell_laid (i := 5) (keep_laid hl2 hb3) rfl
  have y6 := cell_laid (i := 6) (keep_laid hl2 hb3) rfl
  have y7 := cell_laid (i := 7) (keep_laid hl2 hb3) rfl
  have hEV : V.heap.size < E := by omega
  have hZV : V.heap.size < Z := by omega
  have hZE : Z < E := by omega
  have hap : apartA wa E ∧ apartA la E := by
    constructor
    · rintro b off rfl rfl
      obtain ⟨_, _, ⟨q, _⟩ | ⟨b', o', q, q2, _⟩⟩ := h.w
      · have := (okM_spec hok).1; omega
      · cases q; omega
    · rintro b off rfl rfl
      obtain ⟨_, _, ⟨q, _⟩ | ⟨b', o', q, q2, _⟩⟩ := h.l
      · have := okM_spec hok; omega
      · cases q; omega
  have hlow : lowA wa V.heap.size ∧ lowA la V.heap.size := by
    constructor
    · rintro b off rfl
      obtain ⟨_, _, ⟨q, _⟩ | ⟨b', o', q, q2, _⟩⟩ := h.w
      · have := (okM_spec hok).1; omega
      · cases q; exact q2
    · rintro b off rfl
      obtain ⟨_, _, ⟨q, _⟩ | ⟨b', o', q, q2, _⟩⟩ := h.l
      · have := okM_spec hok; omega
      · cases q; exact q2
  obtain ⟨RES, hRES⟩ : ∃ R, runE 12 M s 0 = R := ⟨_, rfl⟩
  have HB4 := step (step (step hb1 hb2) hb3) hb4
  have hR4 : Rn V.heap.size E Z 1 M s 0 12 false RES V V4 := ⟨⟨false, wa, wc, la, lc, hl4, h.grow HB4, hap.1, hap.2, (fun e => by cases e), fun _ => hlow⟩, hok, hW, hs, hp, hp10, ⟨_, _, _, keep_laid hl3 hb4⟩, hRES, by omega, HB4, fun h => by omega⟩
  have HR4 := hid hR4
  have HDP : Hid (s.ph < 9 → 1 ≤ RES.2) := hid (fun h9 => by rw [← hRES]; exact runE_pos 11 h9)
  unfold memV edV
  rw [hRES]
  have hwl := h.w.len
  have hll := h.l.len
  obtain ⟨n, hn⟩ : ∃ n, M.W.length = n := ⟨_, rfl⟩
  obtain ⟨m, hm⟩ : ∃ n, M.L.length = n := ⟨_, rfl⟩
  obtain ⟨F, hF⟩ : ∃ n, M.F = n := ⟨_, rfl⟩
  rw [hn] at hV1 x0 hwl hV4 ⊢
  rw [hm] at hV1 x1 hll hV4 ⊢
  rw [hF] at hV1 x2 hV4 ⊢
  obtain ⟨ph, cuts, head, pl, key, val, prev, next⟩ := s
  dsimp only at hV2 y0 y1 y2 y3 y4 y5 y6 y7 ⊢
  obtain ⟨FR, hFR⟩ : ∃ F, decide (ph < 9) = F := ⟨_, rfl⟩
  have HFR := hid hFR
  rw [hFR]
  unfold edCells at hV4
  clear h hok hW hs hp hp10 hb1 hb2 hb3 hb4 hs1 hs2 hs3 hs4 hl1 hl2 hl3 hl4 hap hlow hR4 hn hm hF hRES hFR HB4
  go_enter Try.func37, Try.ntmps37
  go_wp2
  refine wp_scope_jumps3 0 (fun a' W => ∃ (k f : Nat) (M2 : Mem) (s2 : Ed) (fr : Bool) (u8 u9 u10 u11 u12 u13 u14 u15 u16 u17 u18 u19 u20 u21 u22 u23 u24 u25 u26 : Value), a' = { tmps := #[.agg #[.slice wa n wc, .slice la m lc, .bool F], .agg #[.int .i64 ph, .bool cuts, .int .u64 ((head : Nat) : Int), .int .u64 ((pl : Nat) : Int), .int .u64 ((key : Nat) : Int), .int .u64 ((val : Nat) : Int), .int .u64 ((prev : Nat) : Int), .int .u64 ((next : Nat) : Int)], .pointer (some ⟨X, 0, none⟩), .pointer (some ⟨Y, 0, none⟩), .pointer (some ⟨Z, 0, none⟩), .int .i64 0, .pointer (some ⟨E, 0, none⟩), .int .i64 ((k : Nat) : Int), u8, u9, u10, u11, u12, u13, u14, u15, u16, u17, u18, u19, u20, u21, u22, u23, u24, u25, u26], defers := [] } ∧ k ≤ 100 ∧ k + f = 12 ∧ Hid (Rn V.heap.size E Z 1 M2 s2 k f fr RES V W)) (fun a' _ => 12 - (match a'.tmps.getD 7 undef with | .int _ k => k.toNat | _ => 0)) rfl ?pass ?first
  case first =>
    intro hgo
    go_wp2
    go_step3
    rename_i KK hKK
    show KK _ _
    refine hKK _ _ (hgo _ _ ?_)
    exact ⟨0, 12, _, _, _, _, _, _, _, _, _, _, _, _, _, _, _, _, _, _, _, _, _, _, rfl, by decide, rfl, HR4⟩
  case pass =>
    rintro a' W ⟨k, f, M2, s2, fr, u8, u9, u10, u11, u12, u13, u14, u15, u16, u17, u18, u19, u20, u21, u22, u23, u24, u25, u26, rfl, hk, hkf, hR⟩
    obtain ⟨lost, hE⟩ := hR.out.ed
    obtain ⟨z, hz⟩ := hE.cls
    have c0 := z.c0
    rw [← hz] at c0
    clear hz z
    by_cases h9 : s2.ph < 9
    · have t0 : decide (s2.ph < 9) = true := decide_eq_true h9
      have HST := hid (estep_any E s2 lost M2 W hE (hR.out.below.size) hR.out.ok hR.out.sok hR.out.p0)
      obtain ⟨f1, hf1⟩ : ∃ f1, f = f1 + 1 := ⟨f - 1, by have := hR.out.fuel; omega⟩
      have HN : Hid (∀ W2 lost', W.grownBy W2 (some E) → EdL V.heap.size (fr || decide (s2.ph < 9)) E (stepE M2 s2).2 lost' (stepE M2 s2).1 W2 → Rn V.heap.size E Z 1 (stepE M2 s2).1 (stepE M2 s2).2 (k + 1) f1 true RES V W2) := hid (by
        intro W2 lost' hg he
        obtain ⟨q1, q2, q3, q4, q5⟩ := stepE_ok hR.out.ok hR.out.wok hR.out.sok hR.out.p0
        have q4 := q4 h9
        obtain ⟨v0, v1, v2, hz⟩ := hR.out.z
        refine ⟨⟨lost', by rw [decide_eq_true h9, Bool.or_true] at he; exact he⟩, q1, q2, q3, q5, q4.2, ⟨v0, v1, v2, keep_grown hz hg (fun e => by cases e; omega)⟩, ?_, ?_, below_grown hR.out.below hg (by omega) hR.out.below.size, fun _ => rfl⟩
        · have := hR.out.res
          rw [hf1] at this
          unfold runE at this
          rw [if_pos h9] at this
          exact this
        · have := hR.out.fuel
          omega)
      have HF1 := hid hf1
      have hkf' : f ≥ 1 := by omega
      clear hE hf1 h9
      go_wp2_with fail
      refine HST.out.mono ?_
      rintro e W2 ⟨rfl, hg, lost', hE2⟩
      have HR2 := hid (HN.out W2 lost' hg hE2)
      clear hg hE2
      go_wp2
      go_step3
      refine ⟨rfl, ⟨k + 1, f1, _, _, _, _, _, _, _, _, _, _, _, _, _, _, _, _, _, _, _, _, _, _, rfl, by omega, by have := HF1.out; omega, HR2⟩, ?_⟩
      show 12 - (((k : Nat) : Int) + 1).toNat < 12 - ((k : Nat) : Int).toNat
      have := HF1.out
      have hk12 : k < 12 := by omega
      omega
    · have t0 : decide (s2.ph < 9) = false := decide_eq_false h9
      have HRES : Hid (RES = (M2, k)) := hid (by rw [← hR.out.res]; exact runE_end f k h9)
      obtain ⟨wa2, wc2, la2, lc2, hC⟩ := hE
      have HC := hid hC
      have HFR2 : Hid (FR = true → fr = true) := hid (fun e => by
        refine hR.out.fr ?_
        rw [← HFR.out] at e
        have := HDP.out (of_decide_eq_true e)
        rw [HRES.out] at this
        exact this)
      obtain ⟨v0, v1, v2, hz⟩ := hR.out.z
      have e8 := cell_laid (i := 8) hC.blk rfl
      have e9 := cell_laid (i := 9) hC.blk rfl
      have e10 := cell_laid (i := 10) hC.blk rfl
      obtain ⟨z0, z1, z2⟩ := cells3 hz
      have zf0 := free_laid (i := 0) hz
      have zf1 := free_laid (i := 1) hz
      have zf2 := free_laid (i := 2) hz
      have hl1 := hC.mem.w.len
      have hl2 := hC.mem.l.len
      obtain ⟨V9, hV9, hz9, hk9, hb9, hm9⟩ := put_mem hz (.slice wa2 M2.W.length wc2) (.slice la2 M2.L.length lc2) (.bool M2.F)
      have HFIN : Hid (MemL V9 wa2 wc2 la2 lc2 M2 ∧ (fr = true → MemO V.heap.size wa2 wc2 la2 lc2 M2 V9) ∧ Below V.heap.size V V9) := hid (by
        have hb := hb9 V.heap.size V (by omega) hR.out.below
        refine ⟨?_, fun e => hm9 _ _ _ _ _ _ (hC.ow e), hb⟩
        have hE0 := hC
        by_cases hfr : fr = true
        · exact (hm9 _ _ _ _ _ _ (hC.ow hfr)).memL
        · obtain ⟨q1, q2⟩ := hC.lo (by simpa using hfr)
          have hk : ∀ {a : Option Addr} {n c : Nat} {cs : List Value}, Leads W a n c cs → lowA a V.heap.size → Leads V9 a n c cs := by
            rintro a n c cs ⟨p1, p2, ⟨p3, p4⟩ | ⟨b, off, p3, p4, p5⟩⟩ hlo
            · exact ⟨p1, p2, .inl ⟨p3, p4⟩⟩
            · have := hlo b off p3
              obtain ⟨o, ho⟩ : ∃ o, W.heap[b]? = some o := ⟨_, Array.getElem?_eq_getElem p4⟩
              have h9 := hk9 b o (by omega) ho
              refine ⟨p1, p2, .inr ⟨b, off, p3, lt_laid h9, fun i v hv => ?_⟩⟩
              have := p5 i v hv
              unfold World.cell? at this ⊢
              rw [h9, ← ho]
              exact this
          exact ⟨hk hC.mem.w q1, hk hC.mem.l q2⟩)
      have HV9 := hid hV9
      have HZ9 := hid hz9
      clear hC hz hV9 hz9 hk9 hb9 hm9
      go_wp2
      rw [← HV9.out]
      refine bodyPost_ret (run_result HZ9.out rfl rfl) rfl ?_
      rw [HRES.out]
      exact ⟨_, _, _, _, rfl, HFIN.out.1, fun e => HFIN.out.2.1 (HFR2.out e), HFIN.out.2.2⟩
end Go.Proofs.Ytoihjmdpbbcbjaa
