/- Lists linked both ways: the document's Run, Remove, Insert; equalities; plain answers; moves; arguments that come in. -/
import Derived.Test.YtoihjmdpbbcbjaaDblRef6
import Derived.Deep.DeepCutAuto
import Derived.Deep.CutBlock
import Derived.Laws.StructEq
import Derived.DeepKeys
import Derived.Test.YtoihjmdpbbcbjaaRows
import Derived.Test.YtoihjmdpbbcbjaaLawDefs
import Derived.ProofKit
import Derived.OpenShut
import Derived.ShutString
import Derived.ChangeOld
import Derived.Deep.Slices
import Derived.Deep.SlicePairs
import Derived.Lib.SmallJoins
import Derived.DataElems
namespace Go.Proofs.Ytoihjmdpbbcbjaa
open Go.RowKit
open Go.Proofs
set_option linter.unusedVariables false
attribute [local go_sem] Oper.semAt_some

/-- The variables of the document's run. -/
structure Sy (V : World) (X Y Z : Nat) (wa : Option Addr) (wc : Nat) (la : Option Addr) (lc : Nat) (M : Mem) (s : Ed) (W : World) : Prop where
  bx : W.heap[X]? = some (.cells #[.slice wa M.W.length wc, .slice la M.L.length lc, .bool M.F] 25 (0, 0))
  by_ : W.heap[Y]? = some (.cells (ed8 s) 42 (0, 0))
  bz : W.heap[Z]? = some (.cells #[.slice none 0 0, .slice none 0 0, .bool false] 25 (0, 0))
  mem : MemL W wa wc la lc M
  aw : apB wa X Z
  al : apB la X Z
  below : Below V.heap.size V W
  ord : V.heap.size ≤ X ∧ X < Y ∧ Y < Z
section
variable {V W W' : World} {X Y Z : Nat} {wa la wa' la' : Option Addr} {wc lc wc' lc' : Nat} {M M' : Mem} {s : Ed}
theorem Sy.grow (h : Sy V X Y Z wa wc la lc M s W) (hb : Below W.heap.size W W') : Sy V X Y Z wa wc la lc M s W' :=
  ⟨keep_laid h.bx hb, keep_laid h.by_ hb, keep_laid h.bz hb, h.mem.grow hb, h.aw, h.al, h.below.trans (hb.mono h.below.size), h.ord⟩
theorem Sy.putX (h : Sy V X Y Z wa wc la lc M s W) (hm : MemL W wa' wc' la' lc' M') (hw : apB wa' X Z) (hl : apB la' X Z) :
    ∃ W', W' = ((W.setCell ⟨X, 0, none⟩ (.slice wa' M'.W.length wc')).setCell ⟨X, 1, none⟩ (.slice la' M'.L.length lc')).setCell ⟨X, 2, none⟩ (.bool M'.F) ∧ Sy V X Y Z wa' wc' la' lc' M' s W' := by
  obtain ⟨W', hW', h1, h2, h3, -⟩ := put_mem h.bx (.slice wa' M'.W.length wc') (.slice la' M'.L.length lc') (.bool M'.F)
  obtain ⟨o1, o2, o3⟩ := h.ord
  refine ⟨W', hW', ⟨h1, h2 _ _ (by omega) h.by_, h2 _ _ (by omega) h.bz, ?_, hw, hl, h3 _ _ o1 h.below, h.ord⟩⟩
  rw [hW']
  exact ⟨((hm.w.setNe (hw.apart (Nat.le_refl _) (by omega))).setNe (hw.apart (Nat.le_refl _) (by omega))).setNe (hw.apart (Nat.le_refl _) (by omega)), ((hm.l.setNe (hl.apart (Nat.le_refl _) (by omega))).setNe (hl.apart (Nat.le_refl _) (by omega))).setNe (hl.apart (Nat.le_refl _) (by omega))⟩
theorem Sy.putY (s2 : Ed) (h : Sy V X Y Z wa wc la lc M s W) :
    ∃ W', W' = (((((((W.setCell ⟨Y, 0, none⟩ (.int .i64 s2.ph)).setCell ⟨Y, 1, none⟩ (.bool s2.cuts)).setCell ⟨Y, 2, none⟩ (.int .u64 ((s2.head : Nat) : Int))).setCell ⟨Y, 3, none⟩ (.int .u64 ((s2.pl : Nat) : Int))).setCell ⟨Y, 4, none⟩ (.int .u64 ((s2.key : Nat) : Int))).setCell ⟨Y, 5, none⟩ (.int .u64 ((s2.val : Nat) : Int))).setCell ⟨Y, 6, none⟩ (.int .u64 ((s2.prev : Nat) : Int))).setCell ⟨Y, 7, none⟩ (.int .u64 ((s2.next : Nat) : Int)) ∧ Sy V X Y Z wa wc la lc M s2 W' := by
  obtain ⟨W', hW', h1, h2, h3⟩ := put8 h.by_ (.int .i64 s2.ph) (.bool s2.cuts) (.int .u64 ((s2.head : Nat) : Int)) (.int .u64 ((s2.pl : Nat) : Int)) (.int .u64 ((s2.key : Nat) : Int)) (.int .u64 ((s2.val : Nat) : Int)) (.int .u64 ((s2.prev : Nat) : Int)) (.int .u64 ((s2.next : Nat) : Int))
  obtain ⟨o1, o2, o3⟩ := h.ord
  have z1 := h.aw.apart (E := Y) (by omega) (by omega)
  have z2 := h.al.apart (E := Y) (by omega) (by omega)
  refine ⟨W', hW', ⟨h2 _ _ (by omega) h.bx, h1, h2 _ _ (by omega) h.bz, ?_, h.aw, h.al, h3 _ _ (by omega) h.below, h.ord⟩⟩
  rw [hW']
  exact ⟨(((((((h.mem.w.setNe z1).setNe z1).setNe z1).setNe z1).setNe z1).setNe z1).setNe z1).setNe z1, (((((((h.mem.l.setNe z2).setNe z2).setNe z2).setNe z2).setNe z2).setNe z2).setNe z2).setNe z2⟩
end
theorem keptA.trans {V W : World} {a b c : Option Addr} (h : keptA V a b) (k : keptA W b c) (hs : V.heap.size ≤ W.heap.size) : keptA V a c := by
  rcases k with rfl | k
  · exact h
  · exact .inr fun b o e => Nat.le_trans hs (k b o e)
theorem rrun_result {W : World} {b : Nat} {v0 v1 v2 u : Value} {tmps : Array Value} (h : W.heap[b]? = some (.cells #[v0, v1, v2] 25 (0, 0))) (hp : tmps[4]?.getD undef = .pointer (some ⟨b, 0, none⟩)) (h5 : tmps[5]?.getD undef = u) :
    (results Try.f39 tmps).run Try.prog W = .ok (.tuple #[.agg #[v0, v1, v2], u]) W := by
  have h0 := cell_laid (i := 0) (v := v0) h rfl
  have h1 := cell_laid (i := 1) (v := v1) h rfl
  have h2 := cell_laid (i := 2) (v := v2) h rfl
  simp [results, Try.results39, go_sem, hp, h5, h0, h1, h2]
def GivesRN (wa0 la0 : Option Addr) (R : Mem × Nat) (w : World) (e : Ending) (W : World) : Prop := ∃ wa wc la lc, e = .returned (.tuple #[memV wa wc la lc R.1, .int .i64 ((R.2 : Nat) : Int)]) ∧ MemL W wa wc la lc R.1 ∧ Below w.heap.size w W ∧ keptA w wa0 wa ∧ keptA w la0 la
/-- The document's run, on its way. -/
structure Rr (V : World) (X Y Z : Nat) (wa0 la0 : Option Addr) (wa : Option Addr) (wc : Nat) (la : Option Addr) (lc : Nat) (M : Mem) (s : Ed) (n f : Nat) (res : Mem × Nat) (W : World) : Prop where
  sy : Sy V X Y Z wa wc la lc M s W
  ok : okM M = true
  wok : Wok M
  sok : s.Ok
  p0 : 0 ≤ s.ph
  p10 : s.ph ≤ 10
  res : runE f M s n = res
  fuel : 10 ≤ f + s.ph
  kw : keptA V wa0 wa
  kl : keptA V la0 la

set_option maxRecDepth 100000 in
set_option maxHeartbeats 8000000 in
theorem rRun_any (M : Mem) (s : Ed) (wa la : Option Addr) (wc lc : Nat) (V : World) (h : MemL V wa wc la lc M) (hok : okM M = true) (hW : Wok M) (hs : s.Ok) (hp : 0 ≤ s.ph) (hp10 : s.ph ≤ 10) :
    Calls Try.prog 39 #[memV wa wc la lc M, edV s] V (GivesRN wa la (runE 12 M s 0) V) := by
  obtain ⟨V1, hV1, hb1, hs1, hl1⟩ := laid V #[.slice wa M.W.length wc, .slice la M.L.length lc, .bool M.F] 25
  obtain ⟨V2, hV2, hb2, hs2, hl2⟩ := laid V1 (ed8 s) 42
  obtain ⟨V3, hV3, hb3, hs3, hl3⟩ := laid V2 #[.slice none 0 0, .slice none 0 0, .bool false] 25
  obtain ⟨X, hX⟩ : ∃ X, V.heap.size = X := ⟨_, rfl⟩
  obtain ⟨Y, hY⟩ : ∃ X, V1.heap.size = X := ⟨_, rfl⟩
  obtain ⟨Z, hZ⟩ : ∃ X, V2.heap.size = X := ⟨_, rfl⟩
  rw [hX] at hl1
  rw [hY] at hl2
  rw [hZ] at hl3
  have hlow : apB wa X Z ∧ apB la X Z := by
    constructor
    · rintro b off rfl
      obtain ⟨_, _, ⟨q, _⟩ | ⟨b', o', q, q2, _⟩⟩ := h.w
      · have := (okM_spec hok).1; omega
      · cases q; omega
    · rintro b off rfl
      obtain ⟨_, _, ⟨q, _⟩ | ⟨b', o', q, q2, _⟩⟩ := h.l
      · have := okM_spec hok; omega
      · cases q; omega
  obtain ⟨RES, hRES⟩ : ∃ R, runE 12 M s 0 = R := ⟨_, rfl⟩
  have HB3 := step (step hb1 hb2) hb3
  have HR3 : Hid (Rr V X Y Z wa la wa wc la lc M s 0 12 RES V3) := hid ⟨⟨keep_laid (keep_laid hl1 hb2) hb3, keep_laid hl2 hb3, hl3, h.grow HB3, hlow.1, hlow.2, HB3, by omega, by omega, by omega⟩, hok, hW, hs, hp, hp10, hRES, by omega, .inl rfl, .inl rfl⟩
  rw [hRES]
  have hwl := h.w.len
  have hll := h.l.len
  obtain ⟨ph, cuts, head, pl, key, val, prev, next⟩ := s
  unfold edV memV
  unfold ed8 at hV2
  dsimp only at hV2 ⊢
  clear h hok hW hs hp hp10 hb1 hb2 hb3 hs1 hs2 hs3 hl1 hl2 hl3 hlow hRES HB3
  go_enter Try.func39, Try.ntmps39
  go_wp2
  go_loopg [6] 12 (fun f t6 wr => ∃ (n : Nat) (wa2 : Option Addr) (wc2 : Nat) (la2 : Option Addr) (lc2 : Nat) (M2 : Mem) (s2 : Ed), t6 = .int .i64 ((n : Nat) : Int) ∧ n + f = 12 ∧ Hid (Rr V X Y Z wa la wa2 wc2 la2 lc2 M2 s2 n f RES wr))
  case atStart => exact ⟨0, _, _, _, _, _, _, rfl, rfl, HR3⟩
  case round =>
    obtain ⟨n, wa2, wc2, la2, lc2, M2, s2, rfl, hn, hR⟩ := hrel
    have HN := hid hn
    have hn12 : n ≤ 12 := by omega
    have y0 := cell_laid (i := 0) hR.out.sy.by_ rfl
    have hwl2 := hR.out.sy.mem.w.len
    have hll2 := hR.out.sy.mem.l.len
    clear hn
    by_cases h9 : s2.ph < 9
    · have t0 : decide (s2.ph < 9) = true := decide_eq_true h9
      obtain ⟨f1, hf1⟩ : ∃ f1, gk = f1 + 1 := ⟨gk - 1, by have := hR.out.fuel; omega⟩
      obtain ⟨q1, q2, q3, q4, q5⟩ := stepE_ok hR.out.ok hR.out.wok hR.out.sok hR.out.p0
      have q4 := q4 h9
      have HST := hid (rStep_any M2 s2 wa2 la2 wc2 lc2 wr hR.out.sy.mem hR.out.ok hR.out.sok hR.out.p0)
      obtain ⟨⟨M3, s3⟩, hST⟩ : ∃ R, stepE M2 s2 = R := ⟨_, rfl⟩
      have HRES : Hid (runE f1 M3 s3 (n + 1) = RES) := hid (by
        have := hR.out.res
        rw [hf1] at this
        unfold runE at this
        rw [if_pos h9, hST] at this
        exact this)
      rw [hST] at q1 q2 q3 q4 q5 HST
      dsimp only at q1 q2 q3 q4 q5 HST
      unfold edV memV at HST
      have HQ := hid (⟨q1, q2, q3, q5, q4.2, q4.1⟩ : okM M3 = true ∧ Wok M3 ∧ s3.Ok ∧ 0 ≤ s3.ph ∧ s3.ph ≤ 10 ∧ s2.ph < s3.ph)
      have HF1 := hid hf1
      obtain ⟨x0, x1, x2⟩ := cells3 hR.out.sy.bx
      have y1 := cell_laid (i := 1) hR.out.sy.by_ rfl
      have y2 := cell_laid (i := 2) hR.out.sy.by_ rfl
      have y3 := cell_laid (i := 3) hR.out.sy.by_ rfl
      have y4 := cell_laid (i := 4) hR.out.sy.by_ rfl
      have y5 := cell_laid (i := 5) hR.out.sy.by_ rfl
      have y6 := cell_laid (i := 6) hR.out.sy.by_ rfl
      have y7 := cell_laid (i := 7) hR.out.sy.by_ rfl
      clear h9 hf1 q1 q2 q3 q4 q5 hST
      go_wp2_with fail
      refine HST.out.mono ?_
      rintro e W2 ⟨wa3, wc3, la3, lc3, rfl, hm, hb, hkw, hkl⟩
      have HK := hid (⟨hR.out.kw.trans hkw hR.out.sy.below.size, hR.out.kl.trans hkl hR.out.sy.below.size⟩ : keptA V wa wa3 ∧ keptA V la la3)
      have hsy := hR.out.sy.grow hb
      have hZs := lt_laid hR.out.sy.bz
      obtain ⟨W3, hW3, hS3⟩ := hsy.putX hm (hR.out.sy.aw.kept hkw hZs) (hR.out.sy.al.kept hkl hZs)
      obtain ⟨W4, hW4, hS4⟩ := hS3.putY s3
      obtain ⟨x0, x1, x2⟩ := cells3 hsy.bx
      have hord := hsy.ord
      have hXY : X ≠ Y := by omega
      have hYX : Y ≠ X := by omega
      have xf0 := free_laid (i := 0) hsy.bx
      have xf1 := free_laid (i := 1) hsy.bx
      have xf2 := free_laid (i := 2) hsy.bx
      have y0 := cell_laid (i := 0) hsy.by_ rfl
      have yf0 := free_laid (i := 0) hsy.by_
      have y1 := cell_laid (i := 1) hsy.by_ rfl
      have yf1 := free_laid (i := 1) hsy.by_
      have y2 := cell_laid (i := 2) hsy.by_ rfl
      have yf2 := free_laid (i := 2) hsy.by_
      have y3 := cell_laid (i := 3) hsy.by_ rfl
      have yf3 := free_laid (i := 3) hsy.by_
      have y4 := cell_laid (i := 4) hsy.by_ rfl
      have yf4 := free_laid (i := 4) hsy.by_
      have y5 := cell_laid (i := 5) hsy.by_ rfl
      have yf5 := free_laid (i := 5) hsy.by_
      have y6 := cell_laid (i := 6) hsy.by_ rfl
      have yf6 := free_laid (i := 6) hsy.by_
      have y7 := cell_laid (i := 7) hsy.by_ rfl
      have yf7 := free_laid (i := 7) hsy.by_
      unfold memV edV
      have HW3 := hid hW3
      have HW4 := hid hW4
      have HS4 := hid hS4
      clear hm hb hkw hkl hsy hZs hW3 hS3 hW4 hS4
      go_wp2
      rw [← HW3.out, ← HW4.out]
      go_roundg (gk - 1)
      case measure => have := HF1.out; omega
      case rel => exact ⟨n + 1, _, _, _, _, _, _, by go_num, by have := HF1.out; have := HN.out; omega, hid ⟨HS4.out, HQ.out.1, HQ.out.2.1, HQ.out.2.2.1, HQ.out.2.2.2.1, HQ.out.2.2.2.2.1, by rw [show gk - 1 = f1 by have := HF1.out; omega]; exact HRES.out, by have := hR.out.fuel; have := HQ.out.2.2.2.2.2; have := HF1.out; omega, HK.out.1, HK.out.2⟩⟩
    · have t0 : decide (s2.ph < 9) = false := decide_eq_false h9
      have HRES : Hid (RES = (M2, n)) := hid (by rw [← hR.out.res]; exact runE_end _ n h9)
      obtain ⟨x0, x1, x2⟩ := cells3 hR.out.sy.bx
      obtain ⟨z0, z1, z2⟩ := cells3 hR.out.sy.bz
      have zf0 := free_laid (i := 0) hR.out.sy.bz
      have zf1 := free_laid (i := 1) hR.out.sy.bz
      have zf2 := free_laid (i := 2) hR.out.sy.bz
      have hord := hR.out.sy.ord
      obtain ⟨V9, hV9, hz9, hk9, hb9, -⟩ := put_mem hR.out.sy.bz (.slice wa2 M2.W.length wc2) (.slice la2 M2.L.length lc2) (.bool M2.F)
      have HFIN : Hid (MemL V9 wa2 wc2 la2 lc2 M2 ∧ Below V.heap.size V V9) := hid (by
        refine ⟨?_, hb9 _ _ (by omega) hR.out.sy.below⟩
        have z1 := hR.out.sy.aw.apart (E := Z) (by omega) (Nat.le_refl _)
        have z2 := hR.out.sy.al.apart (E := Z) (by omega) (Nat.le_refl _)
        rw [hV9]
        exact ⟨((hR.out.sy.mem.w.setNe z1).setNe z1).setNe z1, ((hR.out.sy.mem.l.setNe z2).setNe z2).setNe z2⟩)
      have HV9 := hid hV9
      have HZ9 := hid hz9
      clear hV9 hz9 hk9 hb9 h9
      go_wp2
      rw [← HV9.out]
      refine bodyPost_ret (rrun_result HZ9.out rfl rfl) rfl ?_
      rw [HRES.out]
      exact ⟨_, _, _, _, rfl, HFIN.out.1, HFIN.out.2, hR.out.kw, hR.out.kl⟩
end Go.Proofs.Ytoihjmdpbbcbjaa
namespace Go.Proofs.Ytoihjmdpbbcbjaa
open Go.RowKit
open Go.Proofs
set_option linter.unusedVariables false
attribute [local go_sem] Oper.semAt_some

def GivesRI (R : Mem × Nat × Nat) (w : World) (e : Ending) (W : World) : Prop := ∃ wa wc la lc, e = .returned (.tuple #[memV wa wc la lc R.1, .int .i64 ((R.2.1 : Nat) : Int), .int .i64 ((R.2.2 : Nat) : Int)]) ∧ MemL W wa wc la lc R.1 ∧ Below w.heap.size w W
def rremP (M : Mem) (head node : Nat) (xs : List Tw) : Mem × Nat × Nat :=
  if hasN xs node = false then (zeroM, 0, 4) else ((runE 12 M (cutE head node) 0).1, (runE 12 M (cutE head node) 0).2, 0)
theorem rremove_result {W : World} {b : Nat} {v0 v1 v2 s u : Value} {tmps : Array Value} (h : W.heap[b]? = some (.cells #[v0, v1, v2] 25 (0, 0))) (hp : tmps[8]?.getD undef = .pointer (some ⟨b, 0, none⟩)) (hs : tmps[9]?.getD undef = s) (hu : tmps[10]?.getD undef = u) :
    (results Try.f18 tmps).run Try.prog W = .ok (.tuple #[.agg #[v0, v1, v2], s, u]) W := by
  have h0 := cell_laid (i := 0) (v := v0) h rfl
  have h1 := cell_laid (i := 1) (v := v1) h rfl
  have h2 := cell_laid (i := 2) (v := v2) h rfl
  simp [results, Try.results18, go_sem, hp, hs, hu, h0, h1, h2]
theorem rinsert_result {W : World} {b : Nat} {v0 v1 v2 s u : Value} {tmps : Array Value} (h : W.heap[b]? = some (.cells #[v0, v1, v2] 25 (0, 0))) (hp : tmps[10]?.getD undef = .pointer (some ⟨b, 0, none⟩)) (hs : tmps[11]?.getD undef = s) (hu : tmps[12]?.getD undef = u) :
    (results Try.f20 tmps).run Try.prog W = .ok (.tuple #[.agg #[v0, v1, v2], s, u]) W := by
  have h0 := cell_laid (i := 0) (v := v0) h rfl
  have h1 := cell_laid (i := 1) (v := v1) h rfl
  have h2 := cell_laid (i := 2) (v := v2) h rfl
  simp [results, Try.results20, go_sem, hp, hs, hu, h0, h1, h2]
set_option maxRecDepth 100000 in
set_option maxHeartbeats 4000000 in
theorem rRemove_any (M : Mem) (wa la : Option Addr) (wc lc head node : Nat) (xs : List Tw) (a : Option Addr) (n cap : Nat) (V : World) (h : MemL V wa wc la lc M) (hok : okM M = true) (hW : Wok M) (hh : head < 18446744073709551616) (hnd : node < 18446744073709551616) (hx : Leads V a n cap (twcells xs)) (hn : xs.length = n) :
    Calls Try.prog 18 #[memV wa wc la lc M, .int .u64 ((head : Nat) : Int), .int .u64 ((node : Nat) : Int), .slice a n cap] V (GivesRI (rremP M head node xs) V) := by
  obtain ⟨hn1, hn4, hmn, -⟩ := okM_spec hok
  have HLOW : Hid (lowA wa V.heap.size ∧ lowA la V.heap.size) := hid (by
    constructor
    · rintro b off rfl
      obtain ⟨_, _, ⟨q, _⟩ | ⟨b', o', q, q2, _⟩⟩ := h.w
      · omega
      · cases q; exact q2
    · rintro b off rfl
      obtain ⟨_, _, ⟨q, _⟩ | ⟨b', o', q, q2, _⟩⟩ := h.l
      · omega
      · cases q; exact q2)
  obtain ⟨V1, hV1, hb1, hs1, hl1⟩ := laid V #[.slice wa M.W.length wc, .slice la M.L.length lc, .bool M.F] 25
  obtain ⟨V2, hV2, hb2, hs2, hl2⟩ := laid V1 #[.slice none 0 0, .slice none 0 0, .bool false] 25
  obtain ⟨X, hX⟩ : ∃ X, V.heap.size = X := ⟨_, rfl⟩
  obtain ⟨Z, hZ⟩ : ∃ X, V1.heap.size = X := ⟨_, rfl⟩
  rw [hX] at hl1
  rw [hZ] at hl2
  have hXV : V.heap.size ≤ X := by omega
  have hZV : V.heap.size ≤ Z := by omega
  have hZX : Z ≠ X := by omega
  have hXZ : X ≠ Z := by omega
  have HB2 := step hb1 hb2
  have HXB := hid (fun (W : World) (hb : Below V2.heap.size V2 W) => And.intro (keep_laid (keep_laid hl1 hb2) hb) (keep_laid hl2 hb))
  have HXL := hid (fun (W : World) (hb : Below V2.heap.size V2 W) => step HB2 hb)
  have HIN := hid (rIn_any xs a n cap node V2 (hx.grow HB2) hn)
  have HRUN : Hid (∀ (W : World) (hb : Below V2.heap.size V2 W), Calls Try.prog 39 #[.agg #[.slice wa M.W.length wc, .slice la M.L.length lc, .bool M.F], .agg #[.int .i64 5, .bool true, .int .u64 ((head : Nat) : Int), .int .u64 ((node : Nat) : Int), .int .u64 0, .int .u64 0, .int .u64 0, .int .u64 0]] W (GivesRN wa la (runE 12 M (cutE head node) 0) W)) := hid (fun W hb => rRun_any M (cutE head node) wa la wc lc W (h.grow (step HB2 hb)) hok hW (cutE_ok hh hnd) (show (0 : Int) ≤ 5 by decide) (show (5 : Int) ≤ 10 by decide))
  unfold memV
  have hwl := h.w.len
  have hll := h.l.len
  have hxl := hx.len
  clear h hok hW hx hn hb1 hb2 hs1 hs2 hl1 hl2 hn1 hn4 hmn HB2
  go_enter Try.func18, Try.ntmps18
  cases hh2 : hasN xs node with
  | false =>
    have HR : Hid (rremP M head node xs = (zeroM, 0, 4)) := hid (by unfold rremP; rw [hh2]; rfl)
    rw [hh2] at HIN
    clear hh2
    go_wp2_with fail
    refine HIN.out.mono ?_
    rintro e W1 ⟨rfl, hb⟩
    have hz := (HXB.out W1 hb).2
    have HBV := hid (HXL.out W1 hb)
    clear hb
    obtain ⟨V6, hV6, a3, -, a5, -⟩ := put_mem hz (.slice none 0 0) (.slice none 0 0) (.bool false)
    obtain ⟨z0, z1, z2⟩ := cells3 hz
    have zf0 := free_laid (i := 0) hz
    have zf1 := free_laid (i := 1) hz
    have zf2 := free_laid (i := 2) hz
    have HV6 := hid hV6
    have A3 := hid a3
    have HB6 := hid (a5 V.heap.size V hZV HBV.out)
    clear hV6 a3 a5
    clear hz
    go_wp2
    rw [← HV6.out]
    refine bodyPost_ret (rremove_result A3.out rfl rfl rfl) rfl ?_
    rw [HR.out]
    exact ⟨none, 0, none, 0, rfl, ⟨⟨Nat.le_refl _, Nat.zero_le _, .inl ⟨rfl, rfl⟩⟩, ⟨Nat.le_refl _, Nat.zero_le _, .inl ⟨rfl, rfl⟩⟩⟩, HB6.out⟩
  | true =>
    have HR : Hid (rremP M head node xs = ((runE 12 M (cutE head node) 0).1, (runE 12 M (cutE head node) 0).2, 0)) := hid (by unfold rremP; rw [hh2]; rfl)
    rw [hh2] at HIN
    clear hh2
    go_wp2_with fail
    refine HIN.out.mono ?_
    rintro e W1 ⟨rfl, hb1⟩
    have HBW := hid hb1
    obtain ⟨x0, x1, x2⟩ := cells3 (HXB.out W1 hb1).1
    clear hb1
    go_wp2_with fail
    refine (HRUN.out W1 HBW.out).mono ?_
    rintro e W2 ⟨wa2, wc2, la2, lc2, rfl, hm, hb, hkw, hkl⟩
    have hx2 := keep_laid (HXB.out W1 HBW.out).1 hb
    have hz2 := keep_laid (HXB.out W1 HBW.out).2 hb
    have hbv : Below V.heap.size V W2 := (HXL.out W1 HBW.out).trans (hb.mono (HXL.out W1 HBW.out).size)
    have hapX : apartA wa2 X ∧ apartA la2 X := ⟨hkw.apart HLOW.out.1 hXV (lt_laid (HXB.out W1 HBW.out).1), hkl.apart HLOW.out.2 hXV (lt_laid (HXB.out W1 HBW.out).1)⟩
    have hapZ : apartA wa2 Z ∧ apartA la2 Z := ⟨hkw.apart HLOW.out.1 hZV (lt_laid (HXB.out W1 HBW.out).2), hkl.apart HLOW.out.2 hZV (lt_laid (HXB.out W1 HBW.out).2)⟩
    obtain ⟨RM, hRM⟩ : ∃ x, (runE 12 M (cutE head node) 0).1 = x := ⟨_, rfl⟩
    obtain ⟨RN, hRN⟩ : ∃ x, (runE 12 M (cutE head node) 0).2 = x := ⟨_, rfl⟩
    rw [hRM] at hm
    rw [hRN]
    obtain ⟨W3, hW3, a3, k3, b3, -⟩ := put_mem hx2 (.slice wa2 RM.W.length wc2) (.slice la2 RM.L.length lc2) (.bool RM.F)
    have hz3 := k3 Z _ hZX hz2
    obtain ⟨W4, hW4, a4, k4, b4, -⟩ := put_mem hz3 (.slice wa2 RM.W.length wc2) (.slice la2 RM.L.length lc2) (.bool RM.F)
    have HM4 : Hid (MemL W4 wa2 wc2 la2 lc2 RM) := hid (by
      rw [hW4, hW3]
      exact ⟨(((((hm.w.setNe hapX.1).setNe hapX.1).setNe hapX.1).setNe hapZ.1).setNe hapZ.1).setNe hapZ.1, (((((hm.l.setNe hapX.2).setNe hapX.2).setNe hapX.2).setNe hapZ.2).setNe hapZ.2).setNe hapZ.2⟩)
    have HB4 := hid (b4 V.heap.size V hZV (b3 V.heap.size V hXV hbv))
    have HW3 := hid hW3
    have HW4 := hid hW4
    have A4 := hid a4
    have HRM := hid hRM
    have HRN := hid hRN
    obtain ⟨x0, x1, x2⟩ := cells3 hx2
    obtain ⟨z0, z1, z2⟩ := cells3 hz2
    have xf0 := free_laid (i := 0) hx2
    have zf0 := free_laid (i := 0) hz2
    have xf1 := free_laid (i := 1) hx2
    have zf1 := free_laid (i := 1) hz2
    have xf2 := free_laid (i := 2) hx2
    have zf2 := free_laid (i := 2) hz2
    unfold memV
    rw [hRM]
    clear hm hb hkw hkl hx2 hz2 hbv hapX hapZ hRM hRN hW3 a3 k3 b3 hz3 hW4 a4 k4 b4
    go_wp2
    rw [← HW3.out, ← HW4.out]
    refine bodyPost_ret (rremove_result A4.out rfl rfl rfl) rfl ?_
    rw [HR.out, HRM.out, HRN.out]
    exact ⟨_, _, _, _, rfl, HM4.out, HB4.out⟩
end Go.Proofs.Ytoihjmdpbbcbjaa
namespace Go.Proofs.Ytoihjmdpbbcbjaa
open Go.RowKit
open Go.Proofs
set_option linter.unusedVariables false
attribute [local go_sem] Oper.semAt_some

def goodR (M : Mem) (l : List Nat) (t : Tw) (k : Nat) : Bool := !decide (t.1 = 0) && (liveN M (posR t.1 k) && !decide (posR t.1 k ∈ l))
def rinsP (M : Mem) (head prev : Nat) (xs : List Tw) (t : Tw) : Mem × Nat × Nat :=
  if prev ≠ 0 ∧ hasN xs prev = false then (zeroM, 0, 4) else if (List.range 4).all (goodR M (wordsR head xs) t) = false then (zeroM, 0, 2) else ((runE 12 M (putE head prev t) 0).1, (runE 12 M (putE head prev t) 0).2, 0)
set_option maxRecDepth 100000 in
set_option maxHeartbeats 16000000 in
theorem rInsert_any (M : Mem) (wa la : Option Addr) (wc lc head prev : Nat) (xs : List Tw) (t : Tw) (a : Option Addr) (n cap : Nat) (V : World) (h : MemL V wa wc la lc M) (hok : okM M = true) (hW : Wok M) (hh : head < 18446744073709551616) (hnd : prev < 18446744073709551616) (ht : t.1 < 18446744073709551616 ∧ t.2.1 < 18446744073709551616 ∧ t.2.2 < 18446744073709551616) (hx : Leads V a n cap (twcells xs)) (hn : xs.length = n) (hn5 : n ≤ 5000) (hxs : ∀ t ∈ xs, t.1 < 18446744073709551616) :
    Calls Try.prog 20 #[memV wa wc la lc M, .int .u64 ((head : Nat) : Int), .int .u64 ((prev : Nat) : Int), .slice a n cap, twV t] V (GivesRI (rinsP M head prev xs t) V) := by
  obtain ⟨p1, p2, p3⟩ := t
  obtain ⟨hn1, hn4, hmn, -⟩ := okM_spec hok
  have HLOW : Hid (lowA wa V.heap.size ∧ lowA la V.heap.size) := hid (by
    constructor
    · rintro b off rfl
      obtain ⟨_, _, ⟨q, _⟩ | ⟨b', o', q, q2, _⟩⟩ := h.w
      · omega
      · cases q; exact q2
    · rintro b off rfl
      obtain ⟨_, _, ⟨q, _⟩ | ⟨b', o', q, q2, _⟩⟩ := h.l
      · omega
      · cases q; exact q2)
  obtain ⟨V1, hV1, hb1, hs1, hl1⟩ := laid V #[.slice wa M.W.length wc, .slice la M.L.length lc, .bool M.F] 25
  obtain ⟨V2, hV2, hb2, hs2, hl2⟩ := laid V1 #[.int .u64 ((p1 : Nat) : Int), .int .u64 ((p2 : Nat) : Int), .int .u64 ((p3 : Nat) : Int)] 28
  obtain ⟨V3, hV3, hb3, hs3, hl3⟩ := laid V2 #[.slice none 0 0, .slice none 0 0, .bool false] 25
  obtain ⟨X, hX⟩ : ∃ X, V.heap.size = X := ⟨_, rfl⟩
  obtain ⟨T, hT⟩ : ∃ X, V1.heap.size = X := ⟨_, rfl⟩
  obtain ⟨Z, hZ⟩ : ∃ X, V2.heap.size = X := ⟨_, rfl⟩
  rw [hX] at hl1
  rw [hT] at hl2
  rw [hZ] at hl3
  have hXV : V.heap.size ≤ X := by omega
  have hZV : V.heap.size ≤ Z := by omega
  have hZX : Z ≠ X := by omega
  have hXZ : X ≠ Z := by omega
  have hXT : X ≠ T := by omega
  have hTX : T ≠ X := by omega
  have HB3 := step (step hb1 hb2) hb3
  have HXB := hid (fun (W : World) (hb : Below V3.heap.size V3 W) => And.intro (keep_laid (keep_laid (keep_laid hl1 hb2) hb3) hb) (And.intro (keep_laid hl3 hb) (keep_laid (keep_laid hl2 hb3) hb)))
  have HXL := hid (fun (W : World) (hb : Below V3.heap.size V3 W) => step HB3 hb)
  have HIN := hid (rIn_any xs a n cap prev V3 (hx.grow HB3) hn)
  have HRUN : Hid (∀ (W : World) (hb : Below V3.heap.size V3 W), Calls Try.prog 39 #[.agg #[.slice wa M.W.length wc, .slice la M.L.length lc, .bool M.F], .agg #[.int .i64 0, .bool false, .int .u64 ((head : Nat) : Int), .int .u64 ((p1 : Nat) : Int), .int .u64 ((p2 : Nat) : Int), .int .u64 ((p3 : Nat) : Int), .int .u64 ((prev : Nat) : Int), .int .u64 0]] W (GivesRN wa la (runE 12 M (putE head prev (p1, p2, p3)) 0) W)) := hid (fun W hb => rRun_any M (putE head prev (p1, p2, p3)) wa la wc lc W (h.grow (step HB3 hb)) hok hW (putE_ok hh hnd ht) (show (0 : Int) ≤ 0 by decide) (show (0 : Int) ≤ 10 by decide))
  have HLI : Hid (∀ (q : Nat) (W : World) (hb : Below V.heap.size V W) (hq : q ≤ 1000000), Calls Try.prog 33 #[.agg #[.slice wa M.W.length wc, .slice la M.L.length lc, .bool M.F], .int .i64 ((q : Nat) : Int)] W (Ret (.bool (liveN M q)) W)) := hid (fun q W hb hq => rlive_any M wa la wc lc q W (h.grow hb) hmn hq)
  have HAT := hid (fun (k : Nat) (W : World) (hk : k ≤ 1000) => At_any p1 k W ht.1 hk)
  have HWO := hid (fun (W : World) (hb : Below V.heap.size V W) => Words_any xs a n cap head W (hx.grow hb) hn hn5 hh hxs)
  have HBAD0 := hid (fun (hpr : ¬(prev ≠ 0 ∧ hasN xs prev = false)) (k : Nat) (hk : k < 4) (hg : goodR M (wordsR head xs) (p1, p2, p3) k = false) => (show rinsP M head prev xs (p1, p2, p3) = (zeroM, 0, 2) from by
    unfold rinsP
    rw [if_neg hpr, if_pos]
    rw [Bool.eq_false_iff]
    intro ha
    have := List.all_eq_true.1 ha k (List.mem_range.2 hk)
    rw [hg] at this
    cases this))
  have HGOOD0 := hid (fun (hpr : ¬(prev ≠ 0 ∧ hasN xs prev = false)) (hg : ∀ j < 4, goodR M (wordsR head xs) (p1, p2, p3) j = true) => (show rinsP M head prev xs (p1, p2, p3) = ((runE 12 M (putE head prev (p1, p2, p3)) 0).1, (runE 12 M (putE head prev (p1, p2, p3)) 0).2, 0) from by
    unfold rinsP
    rw [if_neg hpr, if_neg]
    rw [Bool.eq_false_iff]
    intro ha
    exact ha (List.all_eq_true.2 fun k hk => hg k (List.mem_range.1 hk))))
  have HNO : Hid (prev ≠ 0 → hasN xs prev = false → rinsP M head prev xs (p1, p2, p3) = (zeroM, 0, 4)) := hid (fun h1 h2 => by unfold rinsP; rw [if_pos ⟨h1, h2⟩])
  have HLIV := hid (fun p k => posR_le p k)
  unfold memV twV
  have hwl := h.w.len
  have hll := h.l.len
  have hxl := hx.len
  clear h hok hW hx hn hb1 hb2 hb3 hs1 hs2 hs3 hl1 hl2 hl3 hn1 hn4 hmn HB3 hxs
  go_enter Try.func20, Try.ntmps20
  by_cases hp : prev = 0
  · have q9 : (((prev : Nat) : Int) != 0) = false := by simp; omega
    have HBAD := hid (HBAD0.out (fun h => h.1 hp))
    have HGOOD := hid (HGOOD0.out (fun h => h.1 hp))
    have HBW0 := hid (Below.refl V3.heap.size V3)
    clear hp HIN HNO
    go_wp2
    go_loopg [24] 4 (fun g i wr => ∃ k : Nat, g + k = 4 ∧ i = .int .i64 ((k : Nat) : Int) ∧ Hid (∀ j < k, goodR M (wordsR head xs) (p1, p2, p3) j = true) ∧ Hid (Below V3.heap.size V3 wr))
    case atStart => exact ⟨0, rfl, rfl, hid (fun j hj => by omega), hid (Below.refl _ _)⟩
    case round =>
      obtain ⟨k, hk, rfl, hgs, hb⟩ := hrel
      have HK := hid hk
      clear hk
      by_cases hlt : k < 4
      · skip
        obtain ⟨P, hP⟩ : ∃ P, posR p1 k = P := ⟨_, rfl⟩
        have HP := hid hP
        have hPl : P ≤ 5000 := by have := HLIV.out p1 k; omega
        obtain ⟨L, hL⟩ : ∃ b, liveN M P = b := ⟨_, rfl⟩
        have HL := hid hL
        obtain ⟨WM, hWM⟩ : ∃ b, decide (P ∈ wordsR head xs) = b := ⟨_, rfl⟩
        have HWM := hid hWM
        have HG0 : Hid (goodR M (wordsR head xs) (p1, p2, p3) k = (!decide (p1 = 0) && (L && !WM))) := hid (by unfold goodR; dsimp only; rw [hP, hL, hWM])
        clear hP hL hWM
        by_cases hp0 : p1 = 0
        · skip
          have HGK : Hid (goodR M (wordsR head xs) (p1, p2, p3) k = false) := hid (by rw [HG0.out, decide_eq_true hp0]; rfl)
          have q0 : (((p1 : Nat) : Int) == 0) = true := by simp; omega
          clear hp0
          go_upto_region 6 with (fail)
          obtain ⟨D, hD⟩ : ∃ DX, wr.drew = DX := ⟨_, rfl⟩
          have hbD : Below wr.heap.size wr D := by rw [← hD]; exact (Below.refl _ _).drew
          have HD := hid hD
          have HVD := hid ((HXL.out wr (HBW0.out.trans (hb.out.mono HBW0.out.size))).trans (hbD.mono (HXL.out wr (HBW0.out.trans (hb.out.mono HBW0.out.size))).size))
          have HXD := hid (HXB.out D ((HBW0.out.trans (hb.out.mono HBW0.out.size)).trans (hbD.mono (HBW0.out.trans (hb.out.mono HBW0.out.size)).size)))
          clear hD hbD
          have r0 : ∀ z : Ext D, z.v.cell? ⟨X, 0, none⟩ = some (.slice wa M.W.length wc) := fun z => cell_laid (i := 0) (keep_laid HXD.out.1 z.b) rfl
          have r1 : ∀ z : Ext D, z.v.cell? ⟨X, 1, none⟩ = some (.slice la M.L.length lc) := fun z => cell_laid (i := 1) (keep_laid HXD.out.1 z.b) rfl
          have r2 : ∀ z : Ext D, z.v.cell? ⟨X, 2, none⟩ = some (.bool M.F) := fun z => cell_laid (i := 2) (keep_laid HXD.out.1 z.b) rfl
          have s0 : ∀ z : Ext D, z.v.cell? ⟨T, 0, none⟩ = some (.int .u64 ((p1 : Nat) : Int)) := fun z => cell_laid (i := 0) (keep_laid HXD.out.2.2 z.b) rfl
          refine wp_region_mix2 (fun W => ∃ z : Ext D, W = z.v) 22 (.q 0 (.q 1 (.q 2 (.q 3 (.q 4 (.q 5 (.q 6 (.q 7 (.h 8 (.h 9 (.q 10 (.q 11 (.q 12 (.q 13 (.q 14 (.q 16 (.q 17 (.q 18 (.h 15 (.h 19 (.h 20 (.q 21 (.done))))))))))))))))))))))) (by kernel_rfl) (by kernel_rfl) (by rw [HD.out]; exact ⟨⟨D, Below.refl _ _⟩, rfl⟩) ?_
          rw [HD.out]
          repeat (refine wpMix2_q rfl rfl ?_; go_big_quiet_step (fail); refine wpQuiet_nil ?_)
          refine wpMix2_h rfl fun R' hR' hO => ?_
          go_wp2
          refine hR' _ _ ⟨⟨D, (Below.refl D.heap.size D)⟩, rfl⟩ ?_
          clear hR' hO R'
          refine wpMix2_h rfl fun R' hR' hO => ?_
          go_wp2
          refine hR' _ _ ⟨⟨D, (Below.refl D.heap.size D)⟩, rfl⟩ ?_
          clear hR' hO R'
          repeat (refine wpMix2_q rfl rfl ?_; go_big_quiet_step (fail); refine wpQuiet_nil ?_)
          refine wpMix2_h rfl fun R' hR' hO => ?_
          go_wp2
          refine hR' _ _ ⟨⟨D, (Below.refl D.heap.size D)⟩, rfl⟩ ?_
          clear hR' hO R'
          refine wpMix2_h rfl fun R' hR' hO => ?_
          go_wp2
          refine hR' _ _ ⟨⟨D, (Below.refl D.heap.size D)⟩, rfl⟩ ?_
          clear hR' hO R'
          refine wpMix2_h rfl fun R' hR' hO => ?_
          go_wp2
          refine hR' _ _ ⟨⟨D, (Below.refl D.heap.size D)⟩, rfl⟩ ?_
          clear hR' hO R'
          repeat (refine wpMix2_q rfl rfl ?_; go_big_quiet_step (fail); refine wpQuiet_nil ?_)
          refine wpMix2_done ?_
          simp only [List.drop_succ_cons, List.drop_zero]
          have HR := hid (HBAD.out k hlt HGK.out)
          obtain ⟨V6, hV6, a3, -, a5, -⟩ := put_mem (keep_laid HXD.out.2.1 (Below.refl D.heap.size D)) (.slice none 0 0) (.slice none 0 0) (.bool false)
          obtain ⟨z0, z1, z2⟩ := cells3 (keep_laid HXD.out.2.1 (Below.refl D.heap.size D))
          have zf0 := free_laid (i := 0) (keep_laid HXD.out.2.1 (Below.refl D.heap.size D))
          have zf1 := free_laid (i := 1) (keep_laid HXD.out.2.1 (Below.refl D.heap.size D))
          have zf2 := free_laid (i := 2) (keep_laid HXD.out.2.1 (Below.refl D.heap.size D))
          have HV6 := hid hV6
          have A3 := hid a3
          have HB6 := hid (a5 V.heap.size V hZV (HVD.out.trans (((Below.refl D.heap.size D)).mono HVD.out.size)))
          clear hV6 a3 a5
          go_wp2
          rw [← HV6.out]
          refine bodyPost_ret (rinsert_result A3.out rfl rfl rfl) rfl ?_
          rw [HR.out]
          exact ⟨none, 0, none, 0, rfl, ⟨⟨Nat.le_refl _, Nat.zero_le _, .inl ⟨rfl, rfl⟩⟩, ⟨Nat.le_refl _, Nat.zero_le _, .inl ⟨rfl, rfl⟩⟩⟩, HB6.out⟩
        · skip
          have q0 : (((p1 : Nat) : Int) == 0) = false := by simp; omega
          have HG1 : Hid (goodR M (wordsR head xs) (p1, p2, p3) k = (L && !WM)) := hid (by rw [HG0.out, decide_eq_false hp0]; rfl)
          clear hp0 HG0
          cases L with
          | false =>
            have HGK : Hid (goodR M (wordsR head xs) (p1, p2, p3) k = false) := hid (by rw [HG1.out]; rfl)
            go_upto_region 6 with (fail)
            obtain ⟨D, hD⟩ : ∃ DX, wr.drew = DX := ⟨_, rfl⟩
            have hbD : Below wr.heap.size wr D := by rw [← hD]; exact (Below.refl _ _).drew
            have HD := hid hD
            have HVD := hid ((HXL.out wr (HBW0.out.trans (hb.out.mono HBW0.out.size))).trans (hbD.mono (HXL.out wr (HBW0.out.trans (hb.out.mono HBW0.out.size))).size))
            have HXD := hid (HXB.out D ((HBW0.out.trans (hb.out.mono HBW0.out.size)).trans (hbD.mono (HBW0.out.trans (hb.out.mono HBW0.out.size)).size)))
            clear hD hbD
            have r0 : ∀ z : Ext D, z.v.cell? ⟨X, 0, none⟩ = some (.slice wa M.W.length wc) := fun z => cell_laid (i := 0) (keep_laid HXD.out.1 z.b) rfl
            have r1 : ∀ z : Ext D, z.v.cell? ⟨X, 1, none⟩ = some (.slice la M.L.length lc) := fun z => cell_laid (i := 1) (keep_laid HXD.out.1 z.b) rfl
            have r2 : ∀ z : Ext D, z.v.cell? ⟨X, 2, none⟩ = some (.bool M.F) := fun z => cell_laid (i := 2) (keep_laid HXD.out.1 z.b) rfl
            have s0 : ∀ z : Ext D, z.v.cell? ⟨T, 0, none⟩ = some (.int .u64 ((p1 : Nat) : Int)) := fun z => cell_laid (i := 0) (keep_laid HXD.out.2.2 z.b) rfl
            refine wp_region_mix2 (fun W => ∃ z : Ext D, W = z.v) 22 (.q 0 (.q 1 (.q 2 (.q 3 (.q 4 (.q 5 (.q 6 (.q 7 (.h 8 (.h 9 (.q 10 (.q 11 (.q 12 (.q 13 (.q 14 (.q 16 (.q 17 (.q 18 (.h 15 (.h 19 (.h 20 (.q 21 (.done))))))))))))))))))))))) (by kernel_rfl) (by kernel_rfl) (by rw [HD.out]; exact ⟨⟨D, Below.refl _ _⟩, rfl⟩) ?_
            rw [HD.out]
            repeat (refine wpMix2_q rfl rfl ?_; go_big_quiet_step (fail); refine wpQuiet_nil ?_)
            refine wpMix2_h rfl fun R' hR' hO => ?_
            go_wp2_with fail
            refine (HAT.out k D (by omega)).mono ?_
            rintro e w9 ⟨rfl, hw9⟩
            rw [HP.out, hw9]
            clear hw9 w9
            go_wp2
            refine hR' _ _ ⟨⟨D, (Below.refl D.heap.size D)⟩, rfl⟩ ?_
            clear hR' hO R'
            refine wpMix2_h rfl fun R' hR' hO => ?_
            go_wp2_with fail
            refine (HLI.out P D (HVD.out.trans (((Below.refl D.heap.size D)).mono HVD.out.size)) (by omega)).mono ?_
            rw [HL.out]
            rintro e w3 ⟨rfl, hb3⟩
            have HB3 := hid (step (Below.refl D.heap.size D) hb3)
            clear hb3
            go_wp2
            refine hR' _ _ ⟨⟨w3, HB3.out⟩, rfl⟩ ?_
            clear hR' hO R'
            repeat (refine wpMix2_q rfl rfl ?_; go_big_quiet_step (fail); refine wpQuiet_nil ?_)
            refine wpMix2_h rfl fun R' hR' hO => ?_
            go_wp2
            refine hR' _ _ ⟨⟨w3, HB3.out⟩, rfl⟩ ?_
            clear hR' hO R'
            refine wpMix2_h rfl fun R' hR' hO => ?_
            go_wp2
            refine hR' _ _ ⟨⟨w3, HB3.out⟩, rfl⟩ ?_
            clear hR' hO R'
            refine wpMix2_h rfl fun R' hR' hO => ?_
            go_wp2
            refine hR' _ _ ⟨⟨w3, HB3.out⟩, rfl⟩ ?_
            clear hR' hO R'
            repeat (refine wpMix2_q rfl rfl ?_; go_big_quiet_step (fail); refine wpQuiet_nil ?_)
            refine wpMix2_done ?_
            simp only [List.drop_succ_cons, List.drop_zero]
            have HR := hid (HBAD.out k hlt HGK.out)
            obtain ⟨V6, hV6, a3, -, a5, -⟩ := put_mem (keep_laid HXD.out.2.1 HB3.out) (.slice none 0 0) (.slice none 0 0) (.bool false)
            obtain ⟨z0, z1, z2⟩ := cells3 (keep_laid HXD.out.2.1 HB3.out)
            have zf0 := free_laid (i := 0) (keep_laid HXD.out.2.1 HB3.out)
            have zf1 := free_laid (i := 1) (keep_laid HXD.out.2.1 HB3.out)
            have zf2 := free_laid (i := 2) (keep_laid HXD.out.2.1 HB3.out)
            have HV6 := hid hV6
            have A3 := hid a3
            have HB6 := hid (a5 V.heap.size V hZV (HVD.out.trans ((HB3.out).mono HVD.out.size)))
            clear hV6 a3 a5
            go_wp2
            rw [← HV6.out]
            refine bodyPost_ret (rinsert_result A3.out rfl rfl rfl) rfl ?_
            rw [HR.out]
            exact ⟨none, 0, none, 0, rfl, ⟨⟨Nat.le_refl _, Nat.zero_le _, .inl ⟨rfl, rfl⟩⟩, ⟨Nat.le_refl _, Nat.zero_le _, .inl ⟨rfl, rfl⟩⟩⟩, HB6.out⟩
          | true =>
            cases WM with
            | true =>
              have HGK : Hid (goodR M (wordsR head xs) (p1, p2, p3) k = false) := hid (by rw [HG1.out]; rfl)
              go_upto_region 6 with (fail)
              obtain ⟨D, hD⟩ : ∃ DX, wr.drew = DX := ⟨_, rfl⟩
              have hbD : Below wr.heap.size wr D := by rw [← hD]; exact (Below.refl _ _).drew
              have HD := hid hD
              have HVD := hid ((HXL.out wr (HBW0.out.trans (hb.out.mono HBW0.out.size))).trans (hbD.mono (HXL.out wr (HBW0.out.trans (hb.out.mono HBW0.out.size))).size))
              have HXD := hid (HXB.out D ((HBW0.out.trans (hb.out.mono HBW0.out.size)).trans (hbD.mono (HBW0.out.trans (hb.out.mono HBW0.out.size)).size)))
              clear hD hbD
              have r0 : ∀ z : Ext D, z.v.cell? ⟨X, 0, none⟩ = some (.slice wa M.W.length wc) := fun z => cell_laid (i := 0) (keep_laid HXD.out.1 z.b) rfl
              have r1 : ∀ z : Ext D, z.v.cell? ⟨X, 1, none⟩ = some (.slice la M.L.length lc) := fun z => cell_laid (i := 1) (keep_laid HXD.out.1 z.b) rfl
              have r2 : ∀ z : Ext D, z.v.cell? ⟨X, 2, none⟩ = some (.bool M.F) := fun z => cell_laid (i := 2) (keep_laid HXD.out.1 z.b) rfl
              have s0 : ∀ z : Ext D, z.v.cell? ⟨T, 0, none⟩ = some (.int .u64 ((p1 : Nat) : Int)) := fun z => cell_laid (i := 0) (keep_laid HXD.out.2.2 z.b) rfl
              refine wp_region_mix2 (fun W => ∃ z : Ext D, W = z.v) 22 (.q 0 (.q 1 (.q 2 (.q 3 (.q 4 (.q 5 (.q 6 (.q 7 (.h 8 (.h 9 (.q 10 (.q 11 (.q 12 (.q 13 (.q 14 (.q 16 (.q 17 (.q 18 (.h 15 (.h 19 (.h 20 (.q 21 (.done))))))))))))))))))))))) (by kernel_rfl) (by kernel_rfl) (by rw [HD.out]; exact ⟨⟨D, Below.refl _ _⟩, rfl⟩) ?_
              rw [HD.out]
              repeat (refine wpMix2_q rfl rfl ?_; go_big_quiet_step (fail); refine wpQuiet_nil ?_)
              refine wpMix2_h rfl fun R' hR' hO => ?_
              go_wp2_with fail
              refine (HAT.out k D (by omega)).mono ?_
              rintro e w9 ⟨rfl, hw9⟩
              rw [HP.out, hw9]
              clear hw9 w9
              go_wp2
              refine hR' _ _ ⟨⟨D, (Below.refl D.heap.size D)⟩, rfl⟩ ?_
              clear hR' hO R'
              refine wpMix2_h rfl fun R' hR' hO => ?_
              go_wp2_with fail
              refine (HLI.out P D (HVD.out.trans (((Below.refl D.heap.size D)).mono HVD.out.size)) (by omega)).mono ?_
              rw [HL.out]
              rintro e w3 ⟨rfl, hb3⟩
              have HB3 := hid (step (Below.refl D.heap.size D) hb3)
              clear hb3
              go_wp2
              refine hR' _ _ ⟨⟨w3, HB3.out⟩, rfl⟩ ?_
              clear hR' hO R'
              repeat (refine wpMix2_q rfl rfl ?_; go_big_quiet_step (fail); refine wpQuiet_nil ?_)
              refine wpMix2_h rfl fun R' hR' hO => ?_
              go_wp2_with fail
              refine (HWO.out w3 (HVD.out.trans ((HB3.out).mono HVD.out.size))).mono ?_
              rintro e w4 ⟨v4, rfl, hwd⟩
              obtain ⟨a4, c4, rfl, hl4⟩ := Leads.of_own hwd.row
              obtain ⟨n4, hn4⟩ : ∃ q, (wordsR head xs).length = q := ⟨_, rfl⟩
              rw [hn4] at hl4 ⊢
              have HB4 := hid (step HB3.out hwd.below)
              have HHA := hid (has_any (wordsR head xs) a4 n4 c4 P w4 hl4 hn4)
              rw [HWM.out] at HHA
              clear hwd hl4 hn4
              go_wp2
              refine hR' _ _ ⟨⟨w4, HB4.out⟩, rfl⟩ ?_
              clear hR' hO R'
              refine wpMix2_h rfl fun R' hR' hO => ?_
              go_wp2_with fail
              refine (HAT.out k w4 (by omega)).mono ?_
              rintro e w9 ⟨rfl, hw9⟩
              rw [HP.out, hw9]
              clear hw9 w9
              go_wp2
              refine hR' _ _ ⟨⟨w4, HB4.out⟩, rfl⟩ ?_
              clear hR' hO R'
              refine wpMix2_h rfl fun R' hR' hO => ?_
              go_wp2_with fail
              refine HHA.out.mono ?_
              rintro e w9 ⟨rfl, hw9⟩
              rw [hw9]
              clear hw9 w9
              go_wp2
              refine hR' _ _ ⟨⟨w4, HB4.out⟩, rfl⟩ ?_
              clear hR' hO R'
              repeat (refine wpMix2_q rfl rfl ?_; go_big_quiet_step (fail); refine wpQuiet_nil ?_)
              refine wpMix2_done ?_
              simp only [List.drop_succ_cons, List.drop_zero]
              have HR := hid (HBAD.out k hlt HGK.out)
              obtain ⟨V6, hV6, a3, -, a5, -⟩ := put_mem (keep_laid HXD.out.2.1 HB4.out) (.slice none 0 0) (.slice none 0 0) (.bool false)
              obtain ⟨z0, z1, z2⟩ := cells3 (keep_laid HXD.out.2.1 HB4.out)
              have zf0 := free_laid (i := 0) (keep_laid HXD.out.2.1 HB4.out)
              have zf1 := free_laid (i := 1) (keep_laid HXD.out.2.1 HB4.out)
              have zf2 := free_laid (i := 2) (keep_laid HXD.out.2.1 HB4.out)
              have HV6 := hid hV6
              have A3 := hid a3
              have HB6 := hid (a5 V.heap.size V hZV (HVD.out.trans ((HB4.out).mono HVD.out.size)))
              clear hV6 a3 a5
              go_wp2
              rw [← HV6.out]
              refine bodyPost_ret (rinsert_result A3.out rfl rfl rfl) rfl ?_
              rw [HR.out]
              exact ⟨none, 0, none, 0, rfl, ⟨⟨Nat.le_refl _, Nat.zero_le _, .inl ⟨rfl, rfl⟩⟩, ⟨Nat.le_refl _, Nat.zero_le _, .inl ⟨rfl, rfl⟩⟩⟩, HB6.out⟩
            | false =>
              have HGK : Hid (goodR M (wordsR head xs) (p1, p2, p3) k = true) := hid (by rw [HG1.out]; rfl)
              go_upto_region 6 with (fail)
              obtain ⟨D, hD⟩ : ∃ DX, wr.drew = DX := ⟨_, rfl⟩
              have hbD : Below wr.heap.size wr D := by rw [← hD]; exact (Below.refl _ _).drew
              have HD := hid hD
              have HVD := hid ((HXL.out wr (HBW0.out.trans (hb.out.mono HBW0.out.size))).trans (hbD.mono (HXL.out wr (HBW0.out.trans (hb.out.mono HBW0.out.size))).size))
              have HXD := hid (HXB.out D ((HBW0.out.trans (hb.out.mono HBW0.out.size)).trans (hbD.mono (HBW0.out.trans (hb.out.mono HBW0.out.size)).size)))
              clear hD hbD
              have r0 : ∀ z : Ext D, z.v.cell? ⟨X, 0, none⟩ = some (.slice wa M.W.length wc) := fun z => cell_laid (i := 0) (keep_laid HXD.out.1 z.b) rfl
              have r1 : ∀ z : Ext D, z.v.cell? ⟨X, 1, none⟩ = some (.slice la M.L.length lc) := fun z => cell_laid (i := 1) (keep_laid HXD.out.1 z.b) rfl
              have r2 : ∀ z : Ext D, z.v.cell? ⟨X, 2, none⟩ = some (.bool M.F) := fun z => cell_laid (i := 2) (keep_laid HXD.out.1 z.b) rfl
              have s0 : ∀ z : Ext D, z.v.cell? ⟨T, 0, none⟩ = some (.int .u64 ((p1 : Nat) : Int)) := fun z => cell_laid (i := 0) (keep_laid HXD.out.2.2 z.b) rfl
              refine wp_region_mix2 (fun W => ∃ z : Ext D, W = z.v) 22 (.q 0 (.q 1 (.q 2 (.q 3 (.q 4 (.q 5 (.q 6 (.q 7 (.h 8 (.h 9 (.q 10 (.q 11 (.q 12 (.q 13 (.q 14 (.q 16 (.q 17 (.q 18 (.h 15 (.h 19 (.h 20 (.q 21 (.done))))))))))))))))))))))) (by kernel_rfl) (by kernel_rfl) (by rw [HD.out]; exact ⟨⟨D, Below.refl _ _⟩, rfl⟩) ?_
              rw [HD.out]
              repeat (refine wpMix2_q rfl rfl ?_; go_big_quiet_step (fail); refine wpQuiet_nil ?_)
              refine wpMix2_h rfl fun R' hR' hO => ?_
              go_wp2_with fail
              refine (HAT.out k D (by omega)).mono ?_
              rintro e w9 ⟨rfl, hw9⟩
              rw [HP.out, hw9]
              clear hw9 w9
              go_wp2
              refine hR' _ _ ⟨⟨D, (Below.refl D.heap.size D)⟩, rfl⟩ ?_
              clear hR' hO R'
              refine wpMix2_h rfl fun R' hR' hO => ?_
              go_wp2_with fail
              refine (HLI.out P D (HVD.out.trans (((Below.refl D.heap.size D)).mono HVD.out.size)) (by omega)).mono ?_
              rw [HL.out]
              rintro e w3 ⟨rfl, hb3⟩
              have HB3 := hid (step (Below.refl D.heap.size D) hb3)
              clear hb3
              go_wp2
              refine hR' _ _ ⟨⟨w3, HB3.out⟩, rfl⟩ ?_
              clear hR' hO R'
              repeat (refine wpMix2_q rfl rfl ?_; go_big_quiet_step (fail); refine wpQuiet_nil ?_)
              refine wpMix2_h rfl fun R' hR' hO => ?_
              go_wp2_with fail
              refine (HWO.out w3 (HVD.out.trans ((HB3.out).mono HVD.out.size))).mono ?_
              rintro e w4 ⟨v4, rfl, hwd⟩
              obtain ⟨a4, c4, rfl, hl4⟩ := Leads.of_own hwd.row
              obtain ⟨n4, hn4⟩ : ∃ q, (wordsR head xs).length = q := ⟨_, rfl⟩
              rw [hn4] at hl4 ⊢
              have HB4 := hid (step HB3.out hwd.below)
              have HHA := hid (has_any (wordsR head xs) a4 n4 c4 P w4 hl4 hn4)
              rw [HWM.out] at HHA
              clear hwd hl4 hn4
              go_wp2
              refine hR' _ _ ⟨⟨w4, HB4.out⟩, rfl⟩ ?_
              clear hR' hO R'
              refine wpMix2_h rfl fun R' hR' hO => ?_
              go_wp2_with fail
              refine (HAT.out k w4 (by omega)).mono ?_
              rintro e w9 ⟨rfl, hw9⟩
              rw [HP.out, hw9]
              clear hw9 w9
              go_wp2
              refine hR' _ _ ⟨⟨w4, HB4.out⟩, rfl⟩ ?_
              clear hR' hO R'
              refine wpMix2_h rfl fun R' hR' hO => ?_
              go_wp2_with fail
              refine HHA.out.mono ?_
              rintro e w9 ⟨rfl, hw9⟩
              rw [hw9]
              clear hw9 w9
              go_wp2
              refine hR' _ _ ⟨⟨w4, HB4.out⟩, rfl⟩ ?_
              clear hR' hO R'
              repeat (refine wpMix2_q rfl rfl ?_; go_big_quiet_step (fail); refine wpQuiet_nil ?_)
              refine wpMix2_done ?_
              simp only [List.drop_succ_cons, List.drop_zero]
              have HBN := hid (hb.out.trans ((show Below wr.heap.size wr w4 from (show Below wr.heap.size wr D by rw [← HD.out]; exact (Below.refl _ _).drew).trans (HB4.out.mono (show wr.heap.size ≤ D.heap.size by rw [← HD.out]; exact Nat.le_refl _))).mono hb.out.size))
              go_wp2
              go_roundg (gk - 1)
              case measure => have := HK.out; omega
              case rel => exact ⟨k + 1, by have := HK.out; omega, by go_num, hid (fun j hj => by
                by_cases e : j = k
                · subst e; exact HGK.out
                · exact hgs.out j (by omega)), HBN⟩
      · skip
        have e4 : k = 4 := by have := HK.out; omega
        have HR := hid (HGOOD.out (fun j hj => hgs.out j (by omega)))
        subst e4
        have HBE := hid (HBW0.out.trans (hb.out.mono HBW0.out.size))
        clear HK hgs hlt
        obtain ⟨x0, x1, x2⟩ := cells3 (HXB.out wr HBE.out).1
        obtain ⟨u0, u1, u2⟩ := cells3 (HXB.out wr HBE.out).2.2
        go_wp2_with fail
        refine (HRUN.out wr HBE.out).mono ?_
        rintro e W2 ⟨wa2, wc2, la2, lc2, rfl, hm, hb, hkw, hkl⟩
        have hx2 := keep_laid (HXB.out wr HBE.out).1 hb
        have hz2 := keep_laid (HXB.out wr HBE.out).2.1 hb
        have hbv : Below V.heap.size V W2 := (HXL.out wr HBE.out).trans (hb.mono (HXL.out wr HBE.out).size)
        have hapX : apartA wa2 X ∧ apartA la2 X := ⟨hkw.apart HLOW.out.1 hXV (lt_laid (HXB.out wr HBE.out).1), hkl.apart HLOW.out.2 hXV (lt_laid (HXB.out wr HBE.out).1)⟩
        have hapZ : apartA wa2 Z ∧ apartA la2 Z := ⟨hkw.apart HLOW.out.1 hZV (lt_laid (HXB.out wr HBE.out).2.1), hkl.apart HLOW.out.2 hZV (lt_laid (HXB.out wr HBE.out).2.1)⟩
        obtain ⟨RM, hRM⟩ : ∃ x, (runE 12 M (putE head prev (p1, p2, p3)) 0).1 = x := ⟨_, rfl⟩
        obtain ⟨RN, hRN⟩ : ∃ x, (runE 12 M (putE head prev (p1, p2, p3)) 0).2 = x := ⟨_, rfl⟩
        rw [hRM] at hm
        rw [hRN]
        obtain ⟨W3, hW3, a3, k3, b3, -⟩ := put_mem hx2 (.slice wa2 RM.W.length wc2) (.slice la2 RM.L.length lc2) (.bool RM.F)
        have hz3 := k3 Z _ hZX hz2
        obtain ⟨W4, hW4, a4, k4, b4, -⟩ := put_mem hz3 (.slice wa2 RM.W.length wc2) (.slice la2 RM.L.length lc2) (.bool RM.F)
        have HM4 : Hid (MemL W4 wa2 wc2 la2 lc2 RM) := hid (by
          rw [hW4, hW3]
          exact ⟨(((((hm.w.setNe hapX.1).setNe hapX.1).setNe hapX.1).setNe hapZ.1).setNe hapZ.1).setNe hapZ.1, (((((hm.l.setNe hapX.2).setNe hapX.2).setNe hapX.2).setNe hapZ.2).setNe hapZ.2).setNe hapZ.2⟩)
        have HB4 := hid (b4 V.heap.size V hZV (b3 V.heap.size V hXV hbv))
        have HW3 := hid hW3
        have HW4 := hid hW4
        have A4 := hid a4
        have HRM := hid hRM
        have HRN := hid hRN
        obtain ⟨x0, x1, x2⟩ := cells3 hx2
        obtain ⟨z0, z1, z2⟩ := cells3 hz2
        have xf0 := free_laid (i := 0) hx2
        have zf0 := free_laid (i := 0) hz2
        have xf1 := free_laid (i := 1) hx2
        have zf1 := free_laid (i := 1) hz2
        have xf2 := free_laid (i := 2) hx2
        have zf2 := free_laid (i := 2) hz2
        unfold memV
        rw [hRM]
        clear hm hb hkw hkl hx2 hz2 hbv hapX hapZ hRM hRN hW3 a3 k3 b3 hz3 hW4 a4 k4 b4
        go_wp2
        rw [← HW3.out, ← HW4.out]
        refine bodyPost_ret (rinsert_result A4.out rfl rfl rfl) rfl ?_
        rw [HR.out, HRM.out, HRN.out]
        exact ⟨_, _, _, _, rfl, HM4.out, HB4.out⟩
  · have q9 : (((prev : Nat) : Int) != 0) = true := by simp; omega
    cases hh2 : hasN xs prev with
    | false =>
      have HR := hid (HNO.out hp hh2)
      rw [hh2] at HIN
      clear hh2 hp
      go_wp2_with fail
      refine HIN.out.mono ?_
      rintro e W1 ⟨rfl, hb⟩
      have hz := (HXB.out W1 hb).2.1
      have HBV := hid (HXL.out W1 hb)
      clear hb
      obtain ⟨V6, hV6, a3, -, a5, -⟩ := put_mem hz (.slice none 0 0) (.slice none 0 0) (.bool false)
      obtain ⟨z0, z1, z2⟩ := cells3 hz
      have zf0 := free_laid (i := 0) hz
      have zf1 := free_laid (i := 1) hz
      have zf2 := free_laid (i := 2) hz
      have HV6 := hid hV6
      have A3 := hid a3
      have HB6 := hid (a5 V.heap.size V hZV HBV.out)
      clear hV6 a3 a5
      clear hz
      go_wp2
      rw [← HV6.out]
      refine bodyPost_ret (rinsert_result A3.out rfl rfl rfl) rfl ?_
      rw [HR.out]
      exact ⟨none, 0, none, 0, rfl, ⟨⟨Nat.le_refl _, Nat.zero_le _, .inl ⟨rfl, rfl⟩⟩, ⟨Nat.le_refl _, Nat.zero_le _, .inl ⟨rfl, rfl⟩⟩⟩, HB6.out⟩
    | true =>
      have HBAD := hid (HBAD0.out (fun h => by rw [hh2] at h; cases h.2))
      have HGOOD := hid (HGOOD0.out (fun h => by rw [hh2] at h; cases h.2))
      rw [hh2] at HIN
      clear hh2 hp HNO
      go_wp2_with fail
      refine HIN.out.mono ?_
      rintro e W1 ⟨rfl, hb⟩
      have HBW0 := hid hb
      clear hb
      go_wp2
      go_loopg [24] 4 (fun g i wr => ∃ k : Nat, g + k = 4 ∧ i = .int .i64 ((k : Nat) : Int) ∧ Hid (∀ j < k, goodR M (wordsR head xs) (p1, p2, p3) j = true) ∧ Hid (Below W1.heap.size W1 wr))
      case atStart => exact ⟨0, rfl, rfl, hid (fun j hj => by omega), hid (Below.refl _ _)⟩
      case round =>
        obtain ⟨k, hk, rfl, hgs, hb⟩ := hrel
        have HK := hid hk
        clear hk
        by_cases hlt : k < 4
        · skip
          obtain ⟨P, hP⟩ : ∃ P, posR p1 k = P := ⟨_, rfl⟩
          have HP := hid hP
          have hPl : P ≤ 5000 := by have := HLIV.out p1 k; omega
          obtain ⟨L, hL⟩ : ∃ b, liveN M P = b := ⟨_, rfl⟩
          have HL := hid hL
          obtain ⟨WM, hWM⟩ : ∃ b, decide (P ∈ wordsR head xs) = b := ⟨_, rfl⟩
          have HWM := hid hWM
          have HG0 : Hid (goodR M (wordsR head xs) (p1, p2, p3) k = (!decide (p1 = 0) && (L && !WM))) := hid (by unfold goodR; dsimp only; rw [hP, hL, hWM])
          clear hP hL hWM
          by_cases hp0 : p1 = 0
          · skip
            have HGK : Hid (goodR M (wordsR head xs) (p1, p2, p3) k = false) := hid (by rw [HG0.out, decide_eq_true hp0]; rfl)
            have q0 : (((p1 : Nat) : Int) == 0) = true := by simp; omega
            clear hp0
            go_upto_region 6 with (fail)
            obtain ⟨D, hD⟩ : ∃ DX, wr.drew = DX := ⟨_, rfl⟩
            have hbD : Below wr.heap.size wr D := by rw [← hD]; exact (Below.refl _ _).drew
            have HD := hid hD
            have HVD := hid ((HXL.out wr (HBW0.out.trans (hb.out.mono HBW0.out.size))).trans (hbD.mono (HXL.out wr (HBW0.out.trans (hb.out.mono HBW0.out.size))).size))
            have HXD := hid (HXB.out D ((HBW0.out.trans (hb.out.mono HBW0.out.size)).trans (hbD.mono (HBW0.out.trans (hb.out.mono HBW0.out.size)).size)))
            clear hD hbD
            have r0 : ∀ z : Ext D, z.v.cell? ⟨X, 0, none⟩ = some (.slice wa M.W.length wc) := fun z => cell_laid (i := 0) (keep_laid HXD.out.1 z.b) rfl
            have r1 : ∀ z : Ext D, z.v.cell? ⟨X, 1, none⟩ = some (.slice la M.L.length lc) := fun z => cell_laid (i := 1) (keep_laid HXD.out.1 z.b) rfl
            have r2 : ∀ z : Ext D, z.v.cell? ⟨X, 2, none⟩ = some (.bool M.F) := fun z => cell_laid (i := 2) (keep_laid HXD.out.1 z.b) rfl
            have s0 : ∀ z : Ext D, z.v.cell? ⟨T, 0, none⟩ = some (.int .u64 ((p1 : Nat) : Int)) := fun z => cell_laid (i := 0) (keep_laid HXD.out.2.2 z.b) rfl
            refine wp_region_mix2 (fun W => ∃ z : Ext D, W = z.v) 22 (.q 0 (.q 1 (.q 2 (.q 3 (.q 4 (.q 5 (.q 6 (.q 7 (.h 8 (.h 9 (.q 10 (.q 11 (.q 12 (.q 13 (.q 14 (.q 16 (.q 17 (.q 18 (.h 15 (.h 19 (.h 20 (.q 21 (.done))))))))))))))))))))))) (by kernel_rfl) (by kernel_rfl) (by rw [HD.out]; exact ⟨⟨D, Below.refl _ _⟩, rfl⟩) ?_
            rw [HD.out]
            repeat (refine wpMix2_q rfl rfl ?_; go_big_quiet_step (fail); refine wpQuiet_nil ?_)
            refine wpMix2_h rfl fun R' hR' hO => ?_
            go_wp2
            refine hR' _ _ ⟨⟨D, (Below.refl D.heap.size D)⟩, rfl⟩ ?_
            clear hR' hO R'
            refine wpMix2_h rfl fun R' hR' hO => ?_
            go_wp2
            refine hR' _ _ ⟨⟨D, (Below.refl D.heap.size D)⟩, rfl⟩ ?_
            clear hR' hO R'
            repeat (refine wpMix2_q rfl rfl ?_; go_big_quiet_step (fail); refine wpQuiet_nil ?_)
            refine wpMix2_h rfl fun R' hR' hO => ?_
            go_wp2
            refine hR' _ _ ⟨⟨D, (Below.refl D.heap.size D)⟩, rfl⟩ ?_
            clear hR' hO R'
            refine wpMix2_h rfl fun R' hR' hO => ?_
            go_wp2
            refine hR' _ _ ⟨⟨D, (Below.refl D.heap.size D)⟩, rfl⟩ ?_
            clear hR' hO R'
            refine wpMix2_h rfl fun R' hR' hO => ?_
            go_wp2
            refine hR' _ _ ⟨⟨D, (Below.refl D.heap.size D)⟩, rfl⟩ ?_
            clear hR' hO R'
            repeat (refine wpMix2_q rfl rfl ?_; go_big_quiet_step (fail); refine wpQuiet_nil ?_)
            refine wpMix2_done ?_
            simp only [List.drop_succ_cons, List.drop_zero]
            have HR := hid (HBAD.out k hlt HGK.out)
            obtain ⟨V6, hV6, a3, -, a5, -⟩ := put_mem (keep_laid HXD.out.2.1 (Below.refl D.heap.size D)) (.slice none 0 0) (.slice none 0 0) (.bool false)
            obtain ⟨z0, z1, z2⟩ := cells3 (keep_laid HXD.out.2.1 (Below.refl D.heap.size D))
            have zf0 := free_laid (i := 0) (keep_laid HXD.out.2.1 (Below.refl D.heap.size D))
            have zf1 := free_laid (i := 1) (keep_laid HXD.out.2.1 (Below.refl D.heap.size D))
            have zf2 := free_laid (i := 2) (keep_laid HXD.out.2.1 (Below.refl D.heap.size D))
            have HV6 := hid hV6
            have A3 := hid a3
            have HB6 := hid (a5 V.heap.size V hZV (HVD.out.trans (((Below.refl D.heap.size D)).mono HVD.out.size)))
            clear hV6 a3 a5
            go_wp2
            rw [← HV6.out]
            refine bodyPost_ret (rinsert_result A3.out rfl rfl rfl) rfl ?_
            rw [HR.out]
            exact ⟨none, 0, none, 0, rfl, ⟨⟨Nat.le_refl _, Nat.zero_le _, .inl ⟨rfl, rfl⟩⟩, ⟨Nat.le_refl _, Nat.zero_le _, .inl ⟨rfl, rfl⟩⟩⟩, HB6.out⟩
          · skip
            have q0 : (((p1 : Nat) : Int) == 0) = false := by simp; omega
            have HG1 : Hid (goodR M (wordsR head xs) (p1, p2, p3) k = (L && !WM)) := hid (by rw [HG0.out, decide_eq_false hp0]; rfl)
            clear hp0 HG0
            cases L with
            | false =>
              have HGK : Hid (goodR M (wordsR head xs) (p1, p2, p3) k = false) := hid (by rw [HG1.out]; rfl)
              go_upto_region 6 with (fail)
              obtain ⟨D, hD⟩ : ∃ DX, wr.drew = DX := ⟨_, rfl⟩
              have hbD : Below wr.heap.size wr D := by rw [← hD]; exact (Below.refl _ _).drew
              have HD := hid hD
              have HVD := hid ((HXL.out wr (HBW0.out.trans (hb.out.mono HBW0.out.size))).trans (hbD.mono (HXL.out wr (HBW0.out.trans (hb.out.mono HBW0.out.size))).size))
              have HXD := hid (HXB.out D ((HBW0.out.trans (hb.out.mono HBW0.out.size)).trans (hbD.mono (HBW0.out.trans (hb.out.mono HBW0.out.size)).size)))
              clear hD hbD
              have r0 : ∀ z : Ext D, z.v.cell? ⟨X, 0, none⟩ = some (.slice wa M.W.length wc) := fun z => cell_laid (i := 0) (keep_laid HXD.out.1 z.b) rfl
              have r1 : ∀ z : Ext D, z.v.cell? ⟨X, 1, none⟩ = some (.slice la M.L.length lc) := fun z => cell_laid (i := 1) (keep_laid HXD.out.1 z.b) rfl
              have r2 : ∀ z : Ext D, z.v.cell? ⟨X, 2, none⟩ = some (.bool M.F) := fun z => cell_laid (i := 2) (keep_laid HXD.out.1 z.b) rfl
              have s0 : ∀ z : Ext D, z.v.cell? ⟨T, 0, none⟩ = some (.int .u64 ((p1 : Nat) : Int)) := fun z => cell_laid (i := 0) (keep_laid HXD.out.2.2 z.b) rfl
              refine wp_region_mix2 (fun W => ∃ z : Ext D, W = z.v) 22 (.q 0 (.q 1 (.q 2 (.q 3 (.q 4 (.q 5 (.q 6 (.q 7 (.h 8 (.h 9 (.q 10 (.q 11 (.q 12 (.q 13 (.q 14 (.q 16 (.q 17 (.q 18 (.h 15 (.h 19 (.h 20 (.q 21 (.done))))))))))))))))))))))) (by kernel_rfl) (by kernel_rfl) (by rw [HD.out]; exact ⟨⟨D, Below.refl _ _⟩, rfl⟩) ?_
              rw [HD.out]
              repeat (refine wpMix2_q rfl rfl ?_; go_big_quiet_step (fail); refine wpQuiet_nil ?_)
              refine wpMix2_h rfl fun R' hR' hO => ?_
              go_wp2_with fail
              refine (HAT.out k D (by omega)).mono ?_
              rintro e w9 ⟨rfl, hw9⟩
              rw [HP.out, hw9]
              clear hw9 w9
              go_wp2
              refine hR' _ _ ⟨⟨D, (Below.refl D.heap.size D)⟩, rfl⟩ ?_
              clear hR' hO R'
              refine wpMix2_h rfl fun R' hR' hO => ?_
              go_wp2_with fail
              refine (HLI.out P D (HVD.out.trans (((Below.refl D.heap.size D)).mono HVD.out.size)) (by omega)).mono ?_
              rw [HL.out]
              rintro e w3 ⟨rfl, hb3⟩
              have HB3 := hid (step (Below.refl D.heap.size D) hb3)
              clear hb3
              go_wp2
              refine hR' _ _ ⟨⟨w3, HB3.out⟩, rfl⟩ ?_
              clear hR' hO R'
              repeat (refine wpMix2_q rfl rfl ?_; go_big_quiet_step (fail); refine wpQuiet_nil ?_)
              refine wpMix2_h rfl fun R' hR' hO => ?_
              go_wp2
              refine hR' _ _ ⟨⟨w3, HB3.out⟩, rfl⟩ ?_
              clear hR' hO R'
              refine wpMix2_h rfl fun R' hR' hO => ?_
              go_wp2
              refine hR' _ _ ⟨⟨w3, HB3.out⟩, rfl⟩ ?_
              clear hR' hO R'
              refine wpMix2_h rfl fun R' hR' hO => ?_
              go_wp2
              refine hR' _ _ ⟨⟨w3, HB3.out⟩, rfl⟩ ?_
              clear hR' hO R'
              repeat (refine wpMix2_q rfl rfl ?_; go_big_quiet_step (fail); refine wpQuiet_nil ?_)
              refine wpMix2_done ?_
              simp only [List.drop_succ_cons, List.drop_zero]
              have HR := hid (HBAD.out k hlt HGK.out)
              obtain ⟨V6, hV6, a3, -, a5, -⟩ := put_mem (keep_laid HXD.out.2.1 HB3.out) (.slice none 0 0) (.slice none 0 0) (.bool false)
              obtain ⟨z0, z1, z2⟩ := cells3 (keep_laid HXD.out.2.1 HB3.out)
              have zf0 := free_laid (i := 0) (keep_laid HXD.out.2.1 HB3.out)
              have zf1 := free_laid (i := 1) (keep_laid HXD.out.2.1 HB3.out)
              have zf2 := free_laid (i := 2) (keep_laid HXD.out.2.1 HB3.out)
              have HV6 := hid hV6
              have A3 := hid a3
              have HB6 := hid (a5 V.heap.size V hZV (HVD.out.trans ((HB3.out).mono HVD.out.size)))
              clear hV6 a3 a5
              go_wp2
              rw [← HV6.out]
              refine bodyPost_ret (rinsert_result A3.out rfl rfl rfl) rfl ?_
              rw [HR.out]
              exact ⟨none, 0, none, 0, rfl, ⟨⟨Nat.le_refl _, Nat.zero_le _, .inl ⟨rfl, rfl⟩⟩, ⟨Nat.le_refl _, Nat.zero_le _, .inl ⟨rfl, rfl⟩⟩⟩, HB6.out⟩
            | true =>
              cases WM with
              | true =>
                have HGK : Hid (goodR M (wordsR head xs) (p1, p2, p3) k = false) := hid (by rw [HG1.out]; rfl)
                go_upto_region 6 with (fail)
                obtain ⟨D, hD⟩ : ∃ DX, wr.drew = DX := ⟨_, rfl⟩
                have hbD : Below wr.heap.size wr D := by rw [← hD]; exact (Below.refl _ _).drew
                have HD := hid hD
                have HVD := hid ((HXL.out wr (HBW0.out.trans (hb.out.mono HBW0.out.size))).trans (hbD.mono (HXL.out wr (HBW0.out.trans (hb.out.mono HBW0.out.size))).size))
                have HXD := hid (HXB.out D ((HBW0.out.trans (hb.out.mono HBW0.out.size)).trans (hbD.mono (HBW0.out.trans (hb.out.mono HBW0.out.size)).size)))
                clear hD hbD
                have r0 : ∀ z : Ext D, z.v.cell? ⟨X, 0, none⟩ = some (.slice wa M.W.length wc) := fun z => cell_laid (i := 0) (keep_laid HXD.out.1 z.b) rfl
                have r1 : ∀ z : Ext D, z.v.cell? ⟨X, 1, none⟩ = some (.slice la M.L.length lc) := fun z => cell_laid (i := 1) (keep_laid HXD.out.1 z.b) rfl
                have r2 : ∀ z : Ext D, z.v.cell? ⟨X, 2, none⟩ = some (.bool M.F) := fun z => cell_laid (i := 2) (keep_laid HXD.out.1 z.b) rfl
                have s0 : ∀ z : Ext D, z.v.cell? ⟨T, 0, none⟩ = some (.int .u64 ((p1 : Nat) : Int)) := fun z => cell_laid (i := 0) (keep_laid HXD.out.2.2 z.b) rfl
                refine wp_region_mix2 (fun W => ∃ z : Ext D, W = z.v) 22 (.q 0 (.q 1 (.q 2 (.q 3 (.q 4 (.q 5 (.q 6 (.q 7 (.h 8 (.h 9 (.q 10 (.q 11 (.q 12 (.q 13 (.q 14 (.q 16 (.q 17 (.q 18 (.h 15 (.h 19 (.h 20 (.q 21 (.done))))))))))))))))))))))) (by kernel_rfl) (by kernel_rfl) (by rw [HD.out]; exact ⟨⟨D, Below.refl _ _⟩, rfl⟩) ?_
                rw [HD.out]
                repeat (refine wpMix2_q rfl rfl ?_; go_big_quiet_step (fail); refine wpQuiet_nil ?_)
                refine wpMix2_h rfl fun R' hR' hO => ?_
                go_wp2_with fail
                refine (HAT.out k D (by omega)).mono ?_
                rintro e w9 ⟨rfl, hw9⟩
                rw [HP.out, hw9]
                clear hw9 w9
                go_wp2
                refine hR' _ _ ⟨⟨D, (Below.refl D.heap.size D)⟩, rfl⟩ ?_
                clear hR' hO R'
                refine wpMix2_h rfl fun R' hR' hO => ?_
                go_wp2_with fail
                refine (HLI.out P D (HVD.out.trans (((Below.refl D.heap.size D)).mono HVD.out.size)) (by omega)).mono ?_
                rw [HL.out]
                rintro e w3 ⟨rfl, hb3⟩
                have HB3 := hid (step (Below.refl D.heap.size D) hb3)
                clear hb3
                go_wp2
                refine hR' _ _ ⟨⟨w3, HB3.out⟩, rfl⟩ ?_
                clear hR' hO R'
                repeat (refine wpMix2_q rfl rfl ?_; go_big_quiet_step (fail); refine wpQuiet_nil ?_)
                refine wpMix2_h rfl fun R' hR' hO => ?_
                go_wp2_with fail
                refine (HWO.out w3 (HVD.out.trans ((HB3.out).mono HVD.out.size))).mono ?_
                rintro e w4 ⟨v4, rfl, hwd⟩
                obtain ⟨a4, c4, rfl, hl4⟩ := Leads.of_own hwd.row
                obtain ⟨n4, hn4⟩ : ∃ q, (wordsR head xs).length = q := ⟨_, rfl⟩
                rw [hn4] at hl4 ⊢
                have HB4 := hid (step HB3.out hwd.below)
                have HHA := hid (has_any (wordsR head xs) a4 n4 c4 P w4 hl4 hn4)
                rw [HWM.out] at HHA
                clear hwd hl4 hn4
                go_wp2
                refine hR' _ _ ⟨⟨w4, HB4.out⟩, rfl⟩ ?_
                clear hR' hO R'
                refine wpMix2_h rfl fun R' hR' hO => ?_
                go_wp2_with fail
                refine (HAT.out k w4 (by omega)).mono ?_
                rintro e w9 ⟨rfl, hw9⟩
                rw [HP.out, hw9]
                clear hw9 w9
                go_wp2
                refine hR' _ _ ⟨⟨w4, HB4.out⟩, rfl⟩ ?_
                clear hR' hO R'
                refine wpMix2_h rfl fun R' hR' hO => ?_
                go_wp2_with fail
                refine HHA.out.mono ?_
                rintro e w9 ⟨rfl, hw9⟩
                rw [hw9]
                clear hw9 w9
                go_wp2
                refine hR' _ _ ⟨⟨w4, HB4.out⟩, rfl⟩ ?_
                clear hR' hO R'
                repeat (refine wpMix2_q rfl rfl ?_; go_big_quiet_step (fail); refine wpQuiet_nil ?_)
                refine wpMix2_done ?_
                simp only [List.drop_succ_cons, List.drop_zero]
                have HR := hid (HBAD.out k hlt HGK.out)
                obtain ⟨V6, hV6, a3, -, a5, -⟩ := put_mem (keep_laid HXD.out.2.1 HB4.out) (.slice none 0 0) (.slice none 0 0) (.bool false)
                obtain ⟨z0, z1, z2⟩ := cells3 (keep_laid HXD.out.2.1 HB4.out)
                have zf0 := free_laid (i := 0) (keep_laid HXD.out.2.1 HB4.out)
                have zf1 := free_laid (i := 1) (keep_laid HXD.out.2.1 HB4.out)
                have zf2 := free_laid (i := 2) (keep_laid HXD.out.2.1 HB4.out)
                have HV6 := hid hV6
                have A3 := hid a3
                have HB6 := hid (a5 V.heap.size V hZV (HVD.out.trans ((HB4.out).mono HVD.out.size)))
                clear hV6 a3 a5
                go_wp2
                rw [← HV6.out]
                refine bodyPost_ret (rinsert_result A3.out rfl rfl rfl) rfl ?_
                rw [HR.out]
                exact ⟨none, 0, none, 0, rfl, ⟨⟨Nat.le_refl _, Nat.zero_le _, .inl ⟨rfl, rfl⟩⟩, ⟨Nat.le_refl _, Nat.zero_le _, .inl ⟨rfl, rfl⟩⟩⟩, HB6.out⟩
              | false =>
                have HGK : Hid (goodR M (wordsR head xs) (p1, p2, p3) k = true) := hid (by rw [HG1.out]; rfl)
                go_upto_region 6 with (fail)
                obtain ⟨D, hD⟩ : ∃ DX, wr.drew = DX := ⟨_, rfl⟩
                have hbD : Below wr.heap.size wr D := by rw [← hD]; exact (Below.refl _ _).drew
                have HD := hid hD
                have HVD := hid ((HXL.out wr (HBW0.out.trans (hb.out.mono HBW0.out.size))).trans (hbD.mono (HXL.out wr (HBW0.out.trans (hb.out.mono HBW0.out.size))).size))
                have HXD := hid (HXB.out D ((HBW0.out.trans (hb.out.mono HBW0.out.size)).trans (hbD.mono (HBW0.out.trans (hb.out.mono HBW0.out.size)).size)))
                clear hD hbD
                have r0 : ∀ z : Ext D, z.v.cell? ⟨X, 0, none⟩ = some (.slice wa M.W.length wc) := fun z => cell_laid (i := 0) (keep_laid HXD.out.1 z.b) rfl
                have r1 : ∀ z : Ext D, z.v.cell? ⟨X, 1, none⟩ = some (.slice la M.L.length lc) := fun z => cell_laid (i := 1) (keep_laid HXD.out.1 z.b) rfl
                have r2 : ∀ z : Ext D, z.v.cell? ⟨X, 2, none⟩ = some (.bool M.F) := fun z => cell_laid (i := 2) (keep_laid HXD.out.1 z.b) rfl
                have s0 : ∀ z : Ext D, z.v.cell? ⟨T, 0, none⟩ = some (.int .u64 ((p1 : Nat) : Int)) := fun z => cell_laid (i := 0) (keep_laid HXD.out.2.2 z.b) rfl
                refine wp_region_mix2 (fun W => ∃ z : Ext D, W = z.v) 22 (.q 0 (.q 1 (.q 2 (.q 3 (.q 4 (.q 5 (.q 6 (.q 7 (.h 8 (.h 9 (.q 10 (.q 11 (.q 12 (.q 13 (.q 14 (.q 16 (.q 17 (.q 18 (.h 15 (.h 19 (.h 20 (.q 21 (.done))))))))))))))))))))))) (by kernel_rfl) (by kernel_rfl) (by rw [HD.out]; exact ⟨⟨D, Below.refl _ _⟩, rfl⟩) ?_
                rw [HD.out]
                repeat (refine wpMix2_q rfl rfl ?_; go_big_quiet_step (fail); refine wpQuiet_nil ?_)
                refine wpMix2_h rfl fun R' hR' hO => ?_
                go_wp2_with fail
                refine (HAT.out k D (by omega)).mono ?_
                rintro e w9 ⟨rfl, hw9⟩
                rw [HP.out, hw9]
                clear hw9 w9
                go_wp2
                refine hR' _ _ ⟨⟨D, (Below.refl D.heap.size D)⟩, rfl⟩ ?_
                clear hR' hO R'
                refine wpMix2_h rfl fun R' hR' hO => ?_
                go_wp2_with fail
                refine (HLI.out P D (HVD.out.trans (((Below.refl D.heap.size D)).mono HVD.out.size)) (by omega)).mono ?_
                rw [HL.out]
                rintro e w3 ⟨rfl, hb3⟩
                have HB3 := hid (step (Below.refl D.heap.size D) hb3)
                clear hb3
                go_wp2
                refine hR' _ _ ⟨⟨w3, HB3.out⟩, rfl⟩ ?_
                clear hR' hO R'
                repeat (refine wpMix2_q rfl rfl ?_; go_big_quiet_step (fail); refine wpQuiet_nil ?_)
                refine wpMix2_h rfl fun R' hR' hO => ?_
                go_wp2_with fail
                refine (HWO.out w3 (HVD.out.trans ((HB3.out).mono HVD.out.size))).mono ?_
                rintro e w4 ⟨v4, rfl, hwd⟩
                obtain ⟨a4, c4, rfl, hl4⟩ := Leads.of_own hwd.row
                obtain ⟨n4, hn4⟩ : ∃ q, (wordsR head xs).length = q := ⟨_, rfl⟩
                rw [hn4] at hl4 ⊢
                have HB4 := hid (step HB3.out hwd.below)
                have HHA := hid (has_any (wordsR head xs) a4 n4 c4 P w4 hl4 hn4)
                rw [HWM.out] at HHA
                clear hwd hl4 hn4
                go_wp2
                refine hR' _ _ ⟨⟨w4, HB4.out⟩, rfl⟩ ?_
                clear hR' hO R'
                refine wpMix2_h rfl fun R' hR' hO => ?_
                go_wp2_with fail
                refine (HAT.out k w4 (by omega)).mono ?_
                rintro e w9 ⟨rfl, hw9⟩
                rw [HP.out, hw9]
                clear hw9 w9
                go_wp2
                refine hR' _ _ ⟨⟨w4, HB4.out⟩, rfl⟩ ?_
                clear hR' hO R'
                refine wpMix2_h rfl fun R' hR' hO => ?_
                go_wp2_with fail
                refine HHA.out.mono ?_
                rintro e w9 ⟨rfl, hw9⟩
                rw [hw9]
                clear hw9 w9
                go_wp2
                refine hR' _ _ ⟨⟨w4, HB4.out⟩, rfl⟩ ?_
                clear hR' hO R'
                repeat (refine wpMix2_q rfl rfl ?_; go_big_quiet_step (fail); refine wpQuiet_nil ?_)
                refine wpMix2_done ?_
                simp only [List.drop_succ_cons, List.drop_zero]
                have HBN := hid (hb.out.trans ((show Below wr.heap.size wr w4 from (show Below wr.heap.size wr D by rw [← HD.out]; exact (Below.refl _ _).drew).trans (HB4.out.mono (show wr.heap.size ≤ D.heap.size by rw [← HD.out]; exact Nat.le_refl _))).mono hb.out.size))
                go_wp2
                go_roundg (gk - 1)
                case measure => have := HK.out; omega
                case rel => exact ⟨k + 1, by have := HK.out; omega, by go_num, hid (fun j hj => by
                  by_cases e : j = k
                  · subst e; exact HGK.out
                  · exact hgs.out j (by omega)), HBN⟩
        · skip
          have e4 : k = 4 := by have := HK.out; omega
          have HR := hid (HGOOD.out (fun j hj => hgs.out j (by omega)))
          subst e4
          have HBE := hid (HBW0.out.trans (hb.out.mono HBW0.out.size))
          clear HK hgs hlt
          obtain ⟨x0, x1, x2⟩ := cells3 (HXB.out wr HBE.out).1
          obtain ⟨u0, u1, u2⟩ := cells3 (HXB.out wr HBE.out).2.2
          go_wp2_with fail
          refine (HRUN.out wr HBE.out).mono ?_
          rintro e W2 ⟨wa2, wc2, la2, lc2, rfl, hm, hb, hkw, hkl⟩
          have hx2 := keep_laid (HXB.out wr HBE.out).1 hb
          have hz2 := keep_laid (HXB.out wr HBE.out).2.1 hb
          have hbv : Below V.heap.size V W2 := (HXL.out wr HBE.out).trans (hb.mono (HXL.out wr HBE.out).size)
          have hapX : apartA wa2 X ∧ apartA la2 X := ⟨hkw.apart HLOW.out.1 hXV (lt_laid (HXB.out wr HBE.out).1), hkl.apart HLOW.out.2 hXV (lt_laid (HXB.out wr HBE.out).1)⟩
          have hapZ : apartA wa2 Z ∧ apartA la2 Z := ⟨hkw.apart HLOW.out.1 hZV (lt_laid (HXB.out wr HBE.out).2.1), hkl.apart HLOW.out.2 hZV (lt_laid (HXB.out wr HBE.out).2.1)⟩
          obtain ⟨RM, hRM⟩ : ∃ x, (runE 12 M (putE head prev (p1, p2, p3)) 0).1 = x := ⟨_, rfl⟩
          obtain ⟨RN, hRN⟩ : ∃ x, (runE 12 M (putE head prev (p1, p2, p3)) 0).2 = x := ⟨_, rfl⟩
          rw [hRM] at hm
          rw [hRN]
          obtain ⟨W3, hW3, a3, k3, b3, -⟩ := put_mem hx2 (.slice wa2 RM.W.length wc2) (.slice la2 RM.L.length lc2) (.bool RM.F)
          have hz3 := k3 Z _ hZX hz2
          obtain ⟨W4, hW4, a4, k4, b4, -⟩ := put_mem hz3 (.slice wa2 RM.W.length wc2) (.slice la2 RM.L.length lc2) (.bool RM.F)
          have HM4 : Hid (MemL W4 wa2 wc2 la2 lc2 RM) := hid (by
            rw [hW4, hW3]
            exact ⟨(((((hm.w.setNe hapX.1).setNe hapX.1).setNe hapX.1).setNe hapZ.1).setNe hapZ.1).setNe hapZ.1, (((((hm.l.setNe hapX.2).setNe hapX.2).setNe hapX.2).setNe hapZ.2).setNe hapZ.2).setNe hapZ.2⟩)
          have HB4 := hid (b4 V.heap.size V hZV (b3 V.heap.size V hXV hbv))
          have HW3 := hid hW3
          have HW4 := hid hW4
          have A4 := hid a4
          have HRM := hid hRM
          have HRN := hid hRN
          obtain ⟨x0, x1, x2⟩ := cells3 hx2
          obtain ⟨z0, z1, z2⟩ := cells3 hz2
          have xf0 := free_laid (i := 0) hx2
          have zf0 := free_laid (i := 0) hz2
          have xf1 := free_laid (i := 1) hx2
          have zf1 := free_laid (i := 1) hz2
          have xf2 := free_laid (i := 2) hx2
          have zf2 := free_laid (i := 2) hz2
          unfold memV
          rw [hRM]
          clear hm hb hkw hkl hx2 hz2 hbv hapX hapZ hRM hRN hW3 a3 k3 b3 hz3 hW4 a4 k4 b4
          go_wp2
          rw [← HW3.out, ← HW4.out]
          refine bodyPost_ret (rinsert_result A4.out rfl rfl rfl) rfl ?_
          rw [HR.out, HRM.out, HRN.out]
          exact ⟨_, _, _, _, rfl, HM4.out, HB4.out⟩
end Go.Proofs.Ytoihjmdpbbcbjaa
namespace Go.Proofs.Ytoihjmdpbbcbjaa
open Go.RowKit
open Go.Proofs
set_option linter.unusedVariables false

set_option maxHeartbeats 1000000 in
theorem EqU_any (xs ys : List Nat) (a a' : Option Addr) (n n' cap cap' : Nat) (w : World) (hx : xs.length = n) (hy : ys.length = n') (h : Leads w a n cap (wcells xs)) (h' : Leads w a' n' cap' (wcells ys)) :
    Calls Try.prog 26 #[.slice a n cap, .slice a' n' cap'] w (Ret (.bool (decide (xs = ys))) w) := by
  have hn := h.len.1
  have hn' := h'.len.1
  by_cases hnn : n = n'
  · subst hnn
    have H := hid h
    have H' := hid h'
    have HX := hid hx
    have HY := hid hy
    clear h h' hx hy
    go_enter Try.func26, Try.ntmps26
    go_wp2
    go_loopg [5, 13] n (fun g _ i wr => ∃ k : Nat, g + k = n ∧ i = .int .i64 (k : Nat) ∧ Hid ((xs).take k = (ys).take k) ∧ Below w.heap.size w wr)
    case atStart => exact ⟨0, rfl, rfl, rfl, Below.refl _ _⟩
    case round =>
      obtain ⟨k, hk, rfl, hs, hb⟩ := hrel
      have HK := hid hk
      clear hk
      by_cases hlt : k < n
      · obtain ⟨x, hxk⟩ : ∃ x, xs[k]? = some x := ⟨_, List.getElem?_eq_getElem (by rw [HX.out]; exact hlt)⟩
        obtain ⟨y, hyk⟩ : ∃ x, ys[k]? = some x := ⟨_, List.getElem?_eq_getElem (by rw [HY.out]; exact hlt)⟩
        obtain ⟨b, off, rfl, -, hc⟩ := H.out.at hlt (wcell_at hxk)
        obtain ⟨b', off', rfl, -, hc'⟩ := H'.out.at hlt (wcell_at hyk)
        have hxd := hxk
        have hyd := hyk
        go_upto_region 6 with (fail)
        have f1 : ∀ z : Ext wr, z.v.cell? ⟨b, off + k, none⟩ = some (.int .u64 ((x : Nat) : Int)) := fun z => hc z.v (step hb z.b)
        have f2 : ∀ z : Ext wr, z.v.cell? ⟨b', off' + k, none⟩ = some (.int .u64 ((y : Nat) : Int)) := fun z => hc' z.v (step hb z.b)
        by_cases he : x = y
        · have HT := hid (eq_take _ _ k _ _ hs.out hxd hyd he)
          subst he
          clear hc hc' hxk hyk hxd hyd hs
          refine wp_region_ext (by kernel_rfl) (by kernel_rfl) ?_
          repeat (go_big_quiet_step (fail))
          refine wpQuiet_nil ?_
          rintro _ ⟨⟨w2, hb2⟩, rfl⟩
          go_wp2
          go_roundg (gk - 1)
          case measure => have := HK.out; omega
          case rel => exact ⟨k + 1, by have := HK.out; omega, by go_num, HT, step hb hb2⟩
        · have HE := hid (ne_at _ _ k _ _ hxd hyd he)
          have hq : (((x : Nat) : Int) != ((y : Nat) : Int)) = true := by simp; omega
          clear hc hc' hxk hyk hxd hyd hs he
          refine wp_region_ext (by kernel_rfl) (by kernel_rfl) ?_
          repeat (go_big_quiet_step (fail))
          refine wpQuiet_nil ?_
          rintro _ ⟨⟨w2, hb2⟩, rfl⟩
          go_wp2
          go_ret
          exact ⟨retb (decide_eq_false HE.out).symm, step hb hb2⟩
      · have e := HK.out
        obtain rfl : k = n := by omega
        have HE : Hid (xs = ys) := hid (by
          have := hs.out
          rwa [List.take_of_length_le (by rw [HX.out]; exact Nat.le_refl _), List.take_of_length_le (by rw [HY.out]; exact Nat.le_refl _)] at this)
        clear hs e HK
        go_wp2
        go_ret
        exact ⟨retb (decide_eq_true HE.out).symm, hb⟩
  · have HE : Hid (¬ xs = ys) := hid (by
      intro e
      have := congrArg List.length e
      omega)
    have hne : (((n : Nat) : Int) != ((n' : Nat) : Int)) = true := by simp; omega
    clear h h' hx hy hnn
    go_enter Try.func26, Try.ntmps26
    go_wp2
    go_ret
    exact ⟨retb (decide_eq_false HE.out).symm, Below.refl _ _⟩

end Go.Proofs.Ytoihjmdpbbcbjaa
namespace Go.Proofs.Ytoihjmdpbbcbjaa
open Go.RowKit
open Go.Proofs
set_option linter.unusedVariables false

theorem wf_u64 {x : Nat} (h : x < 18446744073709551616) : (Lit.int .u64 ((x : Nat) : Int)).wf = true := by
  simp [Lit.wf, IntKind.min, IntKind.max, IntKind.signed, IntKind.bits]
  omega
theorem wf_i64 {x : Int} (h : -9223372036854775808 ≤ x ∧ x ≤ 9223372036854775807) : (Lit.int .i64 x).wf = true := by
  simp [Lit.wf, IntKind.min, IntKind.max, IntKind.signed, IntKind.bits]
  omega
theorem key_u64 (d : Nat) {x : Nat} (h : x < 18446744073709551616) : Try.prog.keyLits (d + 1) 26 [.int .u64 ((x : Nat) : Int)] = some [.int .u64 ((x : Nat) : Int)] := by
  simp [Program.keyLits, Try.underlying26, wf_u64 h]
theorem key_i64 (d : Nat) {x : Int} (h : -9223372036854775808 ≤ x ∧ x ≤ 9223372036854775807) : Try.prog.keyLits (d + 1) 3 [.int .i64 x] = some [.int .i64 x] := by
  simp [Program.keyLits, Try.underlying3, wf_i64 h]
theorem key_bool (d : Nat) (b : Bool) : Try.prog.keyLits (d + 1) 4 [.bool b] = some [.bool b] := by
  simp [Program.keyLits, Try.underlying4]
theorem key_tw {x0 x1 x2 : Nat} (h0 : x0 < 18446744073709551616) (h1 : x1 < 18446744073709551616) (h2 : x2 < 18446744073709551616) : Try.prog.keyLits 2 28 [.int .u64 ((x0 : Nat) : Int), .int .u64 ((x1 : Nat) : Int), .int .u64 ((x2 : Nat) : Int)] = some [.int .u64 ((x0 : Nat) : Int), .int .u64 ((x1 : Nat) : Int), .int .u64 ((x2 : Nat) : Int)] := by
  have hc1 : Try.prog.cellsOf 26 = 1 := by kernel_rfl
  have hc3 : Try.prog.cellsOf 28 = 3 := by kernel_rfl
  unfold Program.keyLits
  simp only [Try.underlying28]
  simp [hc1, hc3, key_u64 0 h0, key_u64 0 h1, key_u64 0 h2]
set_option maxRecDepth 100000 in
theorem tw_eq (x0 x1 x2 y0 y1 y2 : Nat) (hx : x0 < 18446744073709551616 ∧ x1 < 18446744073709551616 ∧ x2 < 18446744073709551616) (hy : y0 < 18446744073709551616 ∧ y1 < 18446744073709551616 ∧ y2 < 18446744073709551616) (w : World) :
    (Op.equalIn 10000 28 (.agg #[.int .u64 ((x0 : Nat) : Int), .int .u64 ((x1 : Nat) : Int), .int .u64 ((x2 : Nat) : Int)]) (.agg #[.int .u64 ((y0 : Nat) : Int), .int .u64 ((y1 : Nat) : Int), .int .u64 ((y2 : Nat) : Int)])).run Try.prog w = .ok (decide ((x0, x1, x2) = (y0, y1, y2))) w := by
  have h1 := key_tw hx.1 hx.2.1 hx.2.2
  have h2 := key_tw hy.1 hy.2.1 hy.2.2
  obtain ⟨r, hr, hiff⟩ := run_equalIn_deep (P := Try.prog) 9998 2 28 (by kernel_rfl) w 2 2 (.agg #[.int .u64 ((x0 : Nat) : Int), .int .u64 ((x1 : Nat) : Int), .int .u64 ((x2 : Nat) : Int)]) (.agg #[.int .u64 ((y0 : Nat) : Int), .int .u64 ((y1 : Nat) : Int), .int .u64 ((y2 : Nat) : Int)]) _ _ (by simp [Value.formed, Try.underlying28]; exact (by kernel_rfl : 3 = Try.prog.cellsOf 28)) (by simp [Value.formed, Try.underlying28]; exact (by kernel_rfl : 3 = Try.prog.cellsOf 28)) h1 h2
  rw [hr]
  congr 1
  rw [Bool.eq_iff_iff, hiff]
  simp
  omega
theorem key_ed {s : Ed} (h : s.Ok) : Try.prog.keyLits 3 42 [.int .i64 s.ph, .bool s.cuts, .int .u64 ((s.head : Nat) : Int), .int .u64 ((s.pl : Nat) : Int), .int .u64 ((s.key : Nat) : Int), .int .u64 ((s.val : Nat) : Int), .int .u64 ((s.prev : Nat) : Int), .int .u64 ((s.next : Nat) : Int)] = some [.int .i64 s.ph, .bool s.cuts, .int .u64 ((s.head : Nat) : Int), .int .u64 ((s.pl : Nat) : Int), .int .u64 ((s.key : Nat) : Int), .int .u64 ((s.val : Nat) : Int), .int .u64 ((s.prev : Nat) : Int), .int .u64 ((s.next : Nat) : Int)] := by
  have hc1 : Try.prog.cellsOf 26 = 1 := by kernel_rfl
  have hci : Try.prog.cellsOf 3 = 1 := by kernel_rfl
  have hcb : Try.prog.cellsOf 4 = 1 := by kernel_rfl
  have hc3 : Try.prog.cellsOf 28 = 3 := by kernel_rfl
  have hc8 : Try.prog.cellsOf 42 = 8 := by kernel_rfl
  have ht := key_tw h.pl h.key h.val
  unfold Program.keyLits
  simp only [Try.underlying42]
  simp [hc1, hci, hcb, hc3, hc8, key_i64 1 h.ph, key_bool 1, key_u64 1 h.head, key_u64 1 h.prev, key_u64 1 h.next, ht]
theorem Ed.ext_iff' (s t : Ed) : s = t ↔ s.ph = t.ph ∧ s.cuts = t.cuts ∧ s.head = t.head ∧ s.pl = t.pl ∧ s.key = t.key ∧ s.val = t.val ∧ s.prev = t.prev ∧ s.next = t.next := by
  cases s; cases t; simp
instance : DecidableEq Ed := fun s t => decidable_of_iff _ (Ed.ext_iff' s t).symm
set_option maxRecDepth 100000 in
theorem ed_eq (s t : Ed) (hs : s.Ok) (ht : t.Ok) (w : World) :
    (Op.equalIn 10000 42 (.agg #[.int .i64 s.ph, .bool s.cuts, .int .u64 ((s.head : Nat) : Int), .int .u64 ((s.pl : Nat) : Int), .int .u64 ((s.key : Nat) : Int), .int .u64 ((s.val : Nat) : Int), .int .u64 ((s.prev : Nat) : Int), .int .u64 ((s.next : Nat) : Int)]) (.agg #[.int .i64 t.ph, .bool t.cuts, .int .u64 ((t.head : Nat) : Int), .int .u64 ((t.pl : Nat) : Int), .int .u64 ((t.key : Nat) : Int), .int .u64 ((t.val : Nat) : Int), .int .u64 ((t.prev : Nat) : Int), .int .u64 ((t.next : Nat) : Int)])).run Try.prog w = .ok (decide (s = t)) w := by
  have h1 := key_ed hs
  have h2 := key_ed ht
  obtain ⟨r, hr, hiff⟩ := run_equalIn_deep (P := Try.prog) 9997 3 42 (by kernel_rfl) w 3 3 (.agg #[.int .i64 s.ph, .bool s.cuts, .int .u64 ((s.head : Nat) : Int), .int .u64 ((s.pl : Nat) : Int), .int .u64 ((s.key : Nat) : Int), .int .u64 ((s.val : Nat) : Int), .int .u64 ((s.prev : Nat) : Int), .int .u64 ((s.next : Nat) : Int)]) (.agg #[.int .i64 t.ph, .bool t.cuts, .int .u64 ((t.head : Nat) : Int), .int .u64 ((t.pl : Nat) : Int), .int .u64 ((t.key : Nat) : Int), .int .u64 ((t.val : Nat) : Int), .int .u64 ((t.prev : Nat) : Int), .int .u64 ((t.next : Nat) : Int)]) _ _ (by simp [Value.formed, Try.underlying42]; exact (by kernel_rfl : 8 = Try.prog.cellsOf 42)) (by simp [Value.formed, Try.underlying42]; exact (by kernel_rfl : 8 = Try.prog.cellsOf 42)) h1 h2
  rw [hr]
  congr 1
  rw [Bool.eq_iff_iff, hiff, decide_eq_true_iff, Ed.ext_iff']
  simp
  omega
set_option maxRecDepth 100000 in
set_option maxHeartbeats 2000000 in
theorem EqT_any (xs ys : List Tw) (a a' : Option Addr) (n n' cap cap' : Nat) (w : World) (hx : xs.length = n) (hy : ys.length = n') (hxb : ∀ t ∈ xs, t.1 < 18446744073709551616 ∧ t.2.1 < 18446744073709551616 ∧ t.2.2 < 18446744073709551616) (hyb : ∀ t ∈ ys, t.1 < 18446744073709551616 ∧ t.2.1 < 18446744073709551616 ∧ t.2.2 < 18446744073709551616) (h : Leads w a n cap (twcells xs)) (h' : Leads w a' n' cap' (twcells ys)) :
    Calls Try.prog 13 #[.slice a n cap, .slice a' n' cap'] w (Ret (.bool (decide (xs = ys))) w) := by
  have hn := h.len.1
  have hn' := h'.len.1
  by_cases hnn : n = n'
  · subst hnn
    have H := hid h
    have H' := hid h'
    have HX := hid hx
    have HY := hid hy
    have HXB := hid hxb
    have HYB := hid hyb
    clear h h' hx hy hxb hyb
    go_enter Try.func13, Try.ntmps13
    go_wp2
    go_loopg [5, 13] n (fun g _ i wr => ∃ k : Nat, g + k = n ∧ i = .int .i64 (k : Nat) ∧ Hid (xs.take k = ys.take k) ∧ Hid (Below w.heap.size w wr))
    case atStart => exact ⟨0, rfl, rfl, rfl, hid (Below.refl _ _)⟩
    case round =>
      obtain ⟨k, hk, rfl, hs, hb⟩ := hrel
      have HK := hid hk
      clear hk
      by_cases hlt : k < n
      · obtain ⟨⟨x0, x1, x2⟩, hxk⟩ : ∃ x, xs[k]? = some x := ⟨_, List.getElem?_eq_getElem (by rw [HX.out]; exact hlt)⟩
        obtain ⟨⟨y0, y1, y2⟩, hyk⟩ : ∃ x, ys[k]? = some x := ⟨_, List.getElem?_eq_getElem (by rw [HY.out]; exact hlt)⟩
        obtain ⟨b, off, rfl, -, hcx⟩ := H.out.tw hlt hxk
        obtain ⟨b', off', rfl, -, hcy⟩ := H'.out.tw hlt hyk
        have f0 : ∀ z : Ext wr, z.v.cell? ⟨b, off + k * 3, none⟩ = some (.int .u64 ((x0 : Nat) : Int)) := fun z => (hcx z.v (step hb.out z.b)).1
        have f1 : ∀ z : Ext wr, z.v.cell? ⟨b, off + k * 3 + 1, none⟩ = some (.int .u64 ((x1 : Nat) : Int)) := fun z => (hcx z.v (step hb.out z.b)).2.1
        have f2 : ∀ z : Ext wr, z.v.cell? ⟨b, off + k * 3 + 2, none⟩ = some (.int .u64 ((x2 : Nat) : Int)) := fun z => (hcx z.v (step hb.out z.b)).2.2
        have g0 : ∀ z : Ext wr, z.v.cell? ⟨b', off' + k * 3, none⟩ = some (.int .u64 ((y0 : Nat) : Int)) := fun z => (hcy z.v (step hb.out z.b)).1
        have g1 : ∀ z : Ext wr, z.v.cell? ⟨b', off' + k * 3 + 1, none⟩ = some (.int .u64 ((y1 : Nat) : Int)) := fun z => (hcy z.v (step hb.out z.b)).2.1
        have g2 : ∀ z : Ext wr, z.v.cell? ⟨b', off' + k * 3 + 2, none⟩ = some (.int .u64 ((y2 : Nat) : Int)) := fun z => (hcy z.v (step hb.out z.b)).2.2
        have heq := tw_eq x0 x1 x2 y0 y1 y2 (HXB.out _ (List.mem_of_getElem? hxk)) (HYB.out _ (List.mem_of_getElem? hyk))
        obtain ⟨E, hE⟩ : ∃ E, decide ((x0, x1, x2) = (y0, y1, y2)) = E := ⟨_, rfl⟩
        rw [hE] at heq
        go_upto_region 6 with (fail)
        by_cases he : (x0, x1, x2) = (y0, y1, y2)
        · have HT := hid (eq_take _ _ k _ _ hs.out hxk hyk he)
          have hEt : E = true := by rw [← hE]; exact decide_eq_true he
          subst hEt
          clear hcx hcy hxk hyk hs hE he
          refine wp_region_ext (by kernel_rfl) (by kernel_rfl) ?_
          repeat (go_big_quiet_step (fail))
          refine wpQuiet_nil ?_
          rintro _ ⟨⟨w2, hb2⟩, rfl⟩
          have HB2 := hid (step hb.out hb2)
          clear hb2
          go_wp2
          go_roundg (gk - 1)
          case measure => have := HK.out; omega
          case rel => exact ⟨k + 1, by have := HK.out; omega, by go_num, HT, HB2⟩
        · have HE := hid (ne_at _ _ k _ _ hxk hyk he)
          have hEt : E = false := by rw [← hE]; exact decide_eq_false he
          subst hEt
          clear hcx hcy hxk hyk hs hE he
          refine wp_region_ext (by kernel_rfl) (by kernel_rfl) ?_
          repeat (go_big_quiet_step (fail))
          refine wpQuiet_nil ?_
          rintro _ ⟨⟨w2, hb2⟩, rfl⟩
          have HB2 := hid (step hb.out hb2)
          clear hb2
          go_wp2
          go_ret
          exact ⟨retb (decide_eq_false HE.out).symm, HB2.out⟩
      · have e := HK.out
        obtain rfl : k = n := by omega
        have HE : Hid (xs = ys) := hid (by
          have := hs.out
          rwa [List.take_of_length_le (by rw [HX.out]; exact Nat.le_refl _), List.take_of_length_le (by rw [HY.out]; exact Nat.le_refl _)] at this)
        clear hs e HK
        go_wp2
        go_ret
        exact ⟨retb (decide_eq_true HE.out).symm, hb.out⟩
  · have hne : xs ≠ ys := fun e => hnn (by rw [← hx, ← hy, e])
    have HE := hid hne
    have q : (((n : Nat) : Int) != ((n' : Nat) : Int)) = true := by simp; omega
    clear h h' hx hy hxb hyb hne hnn
    go_enter Try.func13, Try.ntmps13
    go_wp2
    go_ret
    exact ⟨retb (decide_eq_false HE.out).symm, Below.refl _ _⟩
end Go.Proofs.Ytoihjmdpbbcbjaa
namespace Go.Proofs.Ytoihjmdpbbcbjaa
open Go.RowKit
open Go.Proofs
set_option linter.unusedVariables false

theorem lookN_some {M : Mem} {head : Nat} {xs : List Tw} {met : List Nat} (hok : okM M = true) (h : nodesN M head = some (xs, met)) : lookN M head = (xs, 0) := by unfold lookN; rw [hok, if_neg (by decide), h]
theorem lookN_none {M : Mem} {head : Nat} (hok : okM M = true) (h : nodesN M head = none) : lookN M head = ([], 260) := by unfold lookN; rw [hok, if_neg (by decide), h]
theorem lookN_bad {M : Mem} {head : Nat} (hok : okM M = false) : lookN M head = ([], 120) := by unfold lookN; rw [hok]; rfl
theorem rem_eq {M : Mem} {head node : Nat} {xs : List Tw} {met : List Nat} (hok : okM M = true) (h : nodesN M head = some (xs, met)) : remP M head node = rremP M head node xs := by
  unfold remP rremP
  rw [lookN_some hok h, if_neg (fun e => e rfl)]
theorem rem_none {M : Mem} {head node : Nat} (hok : okM M = true) (h : nodesN M head = none) : remP M head node = (zeroM, 0, 260) := by
  unfold remP
  rw [lookN_none hok h, if_pos (show (260 : Nat) ≠ 0 by decide)]
theorem rem_bad {M : Mem} {head node : Nat} (hok : okM M = false) : remP M head node = (zeroM, 0, 120) := by
  unfold remP
  rw [lookN_bad hok, if_pos (show (120 : Nat) ≠ 0 by decide)]
theorem good_eq {M : Mem} {head : Nat} {xs : List Tw} {met : List Nat} (hok : okM M = true) (h : nodesN M head = some (xs, met)) (t : Tw) (k : Nat) : goodN M met t k = goodR M (wordsR head xs) t k := by
  have hl : M.L.length ≤ 4096 := by have := okM_spec hok; omega
  unfold goodN goodR freeB
  rw [← nodesN_words h hok, (posR_live hl).1]
  cases hv : liveN M (posN t.1 k) with
  | false => simp
  | true => rw [(posR_live hl).2 hv]
theorem ins_eq {M : Mem} {head prev : Nat} {t : Tw} {xs : List Tw} {met : List Nat} (hok : okM M = true) (h : nodesN M head = some (xs, met)) : insP M head prev t = rinsP M head prev xs t := by
  unfold insP rinsP
  rw [hok, if_neg (by decide), h]
  dsimp only
  rw [show goodN M met t = goodR M (wordsR head xs) t from funext (good_eq hok h t)]
theorem ins_none {M : Mem} {head prev : Nat} {t : Tw} (hok : okM M = true) (h : nodesN M head = none) : insP M head prev t = (zeroM, 0, 260) := by
  unfold insP
  rw [hok, if_neg (by decide), h]
theorem ins_bad {M : Mem} {head prev : Nat} {t : Tw} (hok : okM M = false) : insP M head prev t = (zeroM, 0, 120) := by
  unfold insP
  rw [hok, if_pos rfl]
end Go.Proofs.Ytoihjmdpbbcbjaa
namespace Go.Proofs.Ytoihjmdpbbcbjaa
open Go.RowKit
open Go.Proofs
set_option linter.unusedVariables false

/-- A move: does a node go; behind which; the node. -/
structure Mv where
  cuts : Bool
  prev : Nat
  node : Tw
structure Mv.Ok (m : Mv) : Prop where
  prev : m.prev < 18446744073709551616
  node : m.node.1 < 18446744073709551616 ∧ m.node.2.1 < 18446744073709551616 ∧ m.node.2.2 < 18446744073709551616
def mv5 (m : Mv) : List Value := [.bool m.cuts, .int .u64 ((m.prev : Nat) : Int), .int .u64 ((m.node.1 : Nat) : Int), .int .u64 ((m.node.2.1 : Nat) : Int), .int .u64 ((m.node.2.2 : Nat) : Int)]
def mvV (m : Mv) : Value := .agg #[.bool m.cuts, .int .u64 ((m.prev : Nat) : Int), .int .u64 ((m.node.1 : Nat) : Int), .int .u64 ((m.node.2.1 : Nat) : Int), .int .u64 ((m.node.2.2 : Nat) : Int)]
def mvcells (ms : List Mv) : List Value := ms.flatMap mv5
theorem mvcells_at {ms : List Mv} {k j : Nat} {m : Mv} (h : ms[k]? = some m) (hj : j < 5) : (mvcells ms)[k * 5 + j]? = (mv5 m)[j]? := flat_at mv5 5 (fun _ => rfl) ms k j m h hj
end Go.Proofs.Ytoihjmdpbbcbjaa
namespace Go.Proofs.Ytoihjmdpbbcbjaa
open Go.ChangeShapes Go.WideShapes Go.ChangeAt Go.RowKit
open Go.ChangeMaps (open_string shut_string)
set_option linter.unusedVariables false

theorem nat_of_wf {z : Int} (h : (Lit.int .u64 z).wf = true) : ∃ y : Nat, z = (y : Int) ∧ y < 18446744073709551616 := by
  simp [Lit.wf, IntKind.min, IntKind.max, IntKind.signed, IntKind.bits] at h
  exact ⟨z.toNat, by omega, by omega⟩
theorem int_of_wf {z : Int} (h : (Lit.int .i64 z).wf = true) : -9223372036854775808 ≤ z ∧ z ≤ 9223372036854775807 := by
  simp [Lit.wf, IntKind.min, IntKind.max, IntKind.signed, IntKind.bits] at h
  omega

section
variable {H : Type} {enc : TypeId × Value → H} {P : Program} {w : World} {base : Nat} {held : Bool}

theorem leads_of {a : Addr} {len cap : Nat} (cs : List Value) (h1 : len ≤ cap) (h2 : cap ≤ maxLen) (hl : cs.length = 0 → len = 0) (hc : ∀ i v, cs[i]? = some v → w.cell? (a.add i) = some v) : Leads w (some a) len cap cs := by
  refine ⟨h1, h2, ?_⟩
  cases cs with
  | nil => exact .inl ⟨hl rfl, rfl⟩
  | cons v r =>
    have h0 := hc 0 v rfl
    obtain ⟨b, off, spot⟩ := a
    have hs : spot = none := by
      cases spot with
      | none => rfl
      | some s =>
        have : (⟨b, off, some s⟩ : Addr).add 0 = ⟨b, off, some s⟩ := by simp [Addr.add]
        rw [this] at h0
        unfold World.cell? at h0
        cases hh : w.heap[b]? with
        | none => rw [hh] at h0; cases h0
        | some o => rw [hh] at h0; cases o <;> simp at h0
    subst hs
    refine .inr ⟨b, off, rfl, block_lt_of_cell h0, fun i u hu => ?_⟩
    have := hc i u hu
    rcases i with _ | i
    · simpa [Addr.add] using this
    · simpa [Addr.add] using this

theorem open_words {t e : TypeId} {fuel : Nat} {a : Option Addr} {len cap : Nat} {x : DataW H × List MemPlace} (ht : P.underlying t = some (.slice e)) (he : P.underlying e = some (.int .u64)) (hc : P.cellsOf e = 1)
    (h : DataW.trod enc P w base (fun _ => true) held fuel t (Value.slice a len cap).cells.toList = some x) : ∃ xs : List Nat, xs.length = len ∧ Leads w a len cap (wcells xs) ∧ wok xs := by
  rcases open_ints ht he hc h with ⟨hcs, _⟩ | ⟨ad, l, c, zs, hcs, _, hl, hm, hz, _, hcell, hwz⟩
  · simp [Value.cells] at hcs
    obtain ⟨rfl, rfl, rfl⟩ := hcs
    exact ⟨[], rfl, ⟨Nat.le_refl _, Nat.zero_le _, .inl ⟨rfl, rfl⟩⟩, fun x hx => by cases hx⟩
  · simp [Value.cells] at hcs
    obtain ⟨rfl, rfl, rfl⟩ := hcs
    simp at hz
    have hw : ∀ n ∈ zs, 0 ≤ n ∧ n < 18446744073709551616 := by
      intro n hn
      have := hwz n hn
      simp [Lit.wf, IntKind.min, IntKind.max, IntKind.signed, IntKind.bits] at this
      omega
    refine ⟨(zs.take len).map Int.toNat, by simp; omega, leads_of _ hl hm (by simp [wcells]; intro h; rcases h with h | h; exact h; subst h; simp at hz; omega) (fun i v hv => ?_), ?_⟩
    · unfold wcells at hv
      simp only [List.getElem?_map, Option.map_map] at hv
      rw [List.getElem?_take] at hv
      split at hv
      · rename_i hi
        have hi2 : i < zs.length := by omega
        rw [List.getElem?_eq_getElem hi2] at hv
        simp at hv
        rw [hcell i hi2, ← hv, List.getD_eq_getElem?_getD, List.getElem?_eq_getElem hi2]
        have := hw _ (List.getElem_mem hi2)
        simp
        omega
      · simp at hv
    · intro n hn
      obtain ⟨z, hz', rfl⟩ := List.mem_map.1 hn
      have := hw z (List.mem_of_mem_take hz')
      omega

theorem open_i64s {t e : TypeId} {fuel : Nat} {a : Option Addr} {len cap : Nat} {x : DataW H × List MemPlace} (ht : P.underlying t = some (.slice e)) (he : P.underlying e = some (.int .i64)) (hc : P.cellsOf e = 1)
    (h : DataW.trod enc P w base (fun _ => true) held fuel t (Value.slice a len cap).cells.toList = some x) : ∃ xs : List Int, xs.length = len ∧ Leads w a len cap (icells xs) ∧ iok xs := by
  rcases open_ints ht he hc h with ⟨hcs, _⟩ | ⟨ad, l, c, zs, hcs, _, hl, hm, hz, _, hcell, hwz⟩
  · simp [Value.cells] at hcs
    obtain ⟨rfl, rfl, rfl⟩ := hcs
    exact ⟨[], rfl, ⟨Nat.le_refl _, Nat.zero_le _, .inl ⟨rfl, rfl⟩⟩, fun x hx => by cases hx⟩
  · simp [Value.cells] at hcs
    obtain ⟨rfl, rfl, rfl⟩ := hcs
    simp at hz
    refine ⟨zs.take len, by simp; omega, leads_of _ hl hm (by simp [icells]; intro h; rcases h with h | h; exact h; subst h; simp at hz; omega) (fun i v hv => ?_), ?_⟩
    · unfold icells at hv
      simp only [List.getElem?_map] at hv
      rw [List.getElem?_take] at hv
      split at hv
      · rename_i hi
        have hi2 : i < zs.length := by omega
        rw [List.getElem?_eq_getElem hi2] at hv
        simp at hv
        rw [hcell i hi2, ← hv, List.getD_eq_getElem?_getD, List.getElem?_eq_getElem hi2]; rfl
      · simp at hv
    · intro n hn
      have := hwz n (List.mem_of_mem_take hn)
      simp [Lit.wf, IntKind.min, IntKind.max, IntKind.signed, IntKind.bits] at this
      omega

theorem open_texts {t e : TypeId} {fuel : Nat} {a : Option Addr} {len cap : Nat} {x : DataW H × List MemPlace} (ht : P.underlying t = some (.slice e)) (he : P.underlying e = some .string) (hc : P.cellsOf e = 1)
    (h : DataW.trod enc P w base (fun _ => true) held fuel t (Value.slice a len cap).cells.toList = some x) : ∃ ss : List ByteArray, ss.length = len ∧ Leads w a len cap (ss.map Value.string) ∧ ∀ s ∈ ss, s.size ≤ maxLen := by
  rcases open_strings ht he hc h with ⟨hcs, _⟩ | ⟨ad, l, c, ss, hcs, _, hl, hm, hz, _, hcell, hwz⟩
  · simp [Value.cells] at hcs
    obtain ⟨rfl, rfl, rfl⟩ := hcs
    exact ⟨[], rfl, ⟨Nat.le_refl _, Nat.zero_le _, .inl ⟨rfl, rfl⟩⟩, fun x hx => by cases hx⟩
  · simp [Value.cells] at hcs
    obtain ⟨rfl, rfl, rfl⟩ := hcs
    simp at hz
    refine ⟨ss.take len, by simp; omega, leads_of _ hl hm (by simp; intro h; rcases h with h | h; exact h; subst h; simp at hz; omega) (fun i v hv => ?_), fun s hs => hwz s (List.mem_of_mem_take hs)⟩
    simp only [List.getElem?_map] at hv
    rw [List.getElem?_take] at hv
    split at hv
    · rename_i hi
      have hi2 : i < ss.length := by omega
      rw [List.getElem?_eq_getElem hi2] at hv
      simp at hv
      rw [hcell i hi2, ← hv, List.getD_eq_getElem?_getD, List.getElem?_eq_getElem hi2]; rfl
    · simp at hv

def intOf : Value → Int
  | .int _ n => n
  | _ => 0
theorem open_fields {t e : TypeId} {f0 f1 : Field} {fuel : Nat} {a : Option Addr} {len cap : Nat} {x : DataW H × List MemPlace} (ht : P.underlying t = some (.slice e)) (he : P.underlying e = some (.struct #[f0, f1]))
    (ce : P.cellsOf e = 2) (o0 : f0.offset = 0) (o1 : f1.offset = 1) (c0 : P.cellsOf f0.type = 1) (c1 : P.cellsOf f1.type = 1) (k0 : P.underlying f0.type = some (.int .i64)) (k1 : P.underlying f1.type = some (.int .i64))
    (h : DataW.trod enc P w base (fun _ => true) held fuel t (Value.slice a len cap).cells.toList = some x) : ∃ fs : List (Int × Int), fs.length = len ∧ Leads w a len cap (pcells fs) ∧ pok fs := by
  rcases Go.Deep.open_slice_pairs ht he ce o0 o1 c0 c1 h with ⟨hcs, _⟩ | ⟨ad, l, c, m, n, V0, V1, D0, D1, P0, P1, hcs, _, hl, hm, hmm, _, hV⟩
  · simp [Value.cells] at hcs
    obtain ⟨rfl, rfl, rfl⟩ := hcs
    exact ⟨[], rfl, ⟨Nat.le_refl _, Nat.zero_le _, .inl ⟨rfl, rfl⟩⟩, fun x hx => by cases hx⟩
  · simp [Value.cells] at hcs
    obtain ⟨rfl, rfl, rfl⟩ := hcs
    have hmc : m = cap := by rw [hmm]; rfl
    have each : ∀ i, i < len → w.cell? (ad.add (i * 2)) = some (.int .i64 (intOf (V0 i))) ∧ w.cell? (ad.add (i * 2 + 1)) = some (.int .i64 (intOf (V1 i))) ∧
        (-9223372036854775808 ≤ intOf (V0 i) ∧ intOf (V0 i) ≤ 9223372036854775807) ∧ (-9223372036854775808 ≤ intOf (V1 i) ∧ intOf (V1 i) ≤ 9223372036854775807) := by
      intro i hi
      obtain ⟨h1, h2, h3, h4⟩ := hV i (by omega)
      obtain ⟨n0, e0, _, w0⟩ := DataW.trod_int k0 h3
      obtain ⟨n1, e1, _, w1⟩ := DataW.trod_int k1 h4
      simp at e0 e1
      rw [e0] at h1 ⊢
      rw [e1] at h2 ⊢
      exact ⟨h1, h2, int_of_wf w0, int_of_wf w1⟩
    refine ⟨(List.range len).map fun i => (intOf (V0 i), intOf (V1 i)), by simp, leads_of _ hl hm ?_ ?_, ?_⟩
    · intro h0
      unfold pcells at h0
      cases len with
      | zero => rfl
      | succ k => simp [List.range_succ] at h0
    · intro i v hv
      have hlt := (List.getElem?_eq_some_iff.1 hv).1
      have hlen : ∀ fs : List (Int × Int), (pcells fs).length = fs.length * 2 := by
        intro fs
        unfold pcells
        induction fs with
        | nil => rfl
        | cons f r ih => rw [List.flatMap_cons, List.length_append, ih]; simp; omega
      rw [hlen] at hlt
      simp at hlt
      have hk : i / 2 < len := by omega
      have hx : ((List.range len).map fun i => (intOf (V0 i), intOf (V1 i)))[i / 2]? = some (intOf (V0 (i / 2)), intOf (V1 (i / 2))) := by simp [hk]
      obtain ⟨h1, h2, _, _⟩ := each (i / 2) hk
      rcases Nat.mod_two_eq_zero_or_one i with hm2 | hm2
      · have e := flat_at (fun f : Int × Int => [Value.int .i64 f.1, .int .i64 f.2]) 2 (fun _ => rfl) _ (i / 2) 0 _ hx (by omega)
        have ei : i / 2 * 2 + 0 = i := by omega
        unfold pcells at hv
        rw [ei, hv] at e
        simp at e
        rw [e, show i = i / 2 * 2 by omega]
        rw [show i / 2 * 2 / 2 = i / 2 by omega]
        exact h1
      · have e := flat_at (fun f : Int × Int => [Value.int .i64 f.1, .int .i64 f.2]) 2 (fun _ => rfl) _ (i / 2) 1 _ hx (by omega)
        have ei : i / 2 * 2 + 1 = i := by omega
        unfold pcells at hv
        rw [ei, hv] at e
        simp at e
        rw [e]
        have h2' := h2
        rw [ei] at h2'
        exact h2'
    · intro f hf
      rw [List.mem_map] at hf
      obtain ⟨i, hi, rfl⟩ := hf
      obtain ⟨_, _, ⟨h3, h4⟩, h5, h6⟩ := each i (List.mem_range.1 hi)
      exact ⟨h3, h4, h5, h6⟩
end
end Go.Proofs.Ytoihjmdpbbcbjaa
namespace Go.Proofs.Ytoihjmdpbbcbjaa
open Go.ChangeShapes Go.WideShapes Go.ChangeAt Go.RowKit
set_option linter.unusedVariables false

section
variable {H : Type} {enc : TypeId × Value → H} {P : Program} {w : World} {base : Nat} {held : Bool}

/-- A row of elements of k cells each, where each one's cells say what it is. -/
theorem open_each {α : Type} {t e : TypeId} {k fuel : Nat} {a : Option Addr} {len cap : Nat} {x : DataW H × List MemPlace} (f : α → List Value) (R : α → Prop) (ht : P.underlying t = some (.slice e)) (ce : P.cellsOf e = k) (hk : 0 < k) (hf : ∀ q, R q → (f q).length = k)
    (each : ∀ (n : Nat) (cs : List Value) (y : DataW H × List MemPlace), cs.length = k → DataW.trod enc P w base (fun _ => true) held n e cs = some y → ∃ q : α, cs = f q ∧ R q)
    (h : DataW.trod enc P w base (fun _ => true) held fuel t (Value.slice a len cap).cells.toList = some x) : ∃ qs : List α, qs.length = len ∧ Leads w a len cap (qs.flatMap f) ∧ ∀ q ∈ qs, R q := by
  rcases Go.Deep.open_slice ht h with ⟨hcs, _⟩ | ⟨ad, l, c, m, n, D, Pl, hcs, _, hl, hm, hmm, _, hV⟩
  · simp [Value.cells] at hcs
    obtain ⟨rfl, rfl, rfl⟩ := hcs
    exact ⟨[], rfl, ⟨Nat.le_refl _, Nat.zero_le _, .inl ⟨rfl, rfl⟩⟩, fun x hx => by cases hx⟩
  · simp [Value.cells] at hcs
    obtain ⟨rfl, rfl, rfl⟩ := hcs
    have hmc : m = cap := by rw [hmm]; rfl
    have e1 : ∀ i : Fin len, ∃ q : α, R q ∧ ∀ j, j < k → w.cell? (ad.add (i.1 * k + j)) = (f q)[j]? := by
      intro i
      obtain ⟨cs', h1, h2⟩ := hV i.1 (by omega)
      rw [ce] at h1
      obtain ⟨_, hlen, hcell⟩ := World.cells?_some h1
      obtain ⟨q, rfl, hR⟩ := each n cs' _ hlen h2
      refine ⟨q, hR, fun j hj => ?_⟩
      rw [← Addr.add_add]
      exact hcell j hj
    let g : Fin len → α := fun i => Classical.choose (e1 i)
    have hg : ∀ i, R (g i) ∧ ∀ j, j < k → w.cell? (ad.add (i.1 * k + j)) = (f (g i))[j]? := fun i => Classical.choose_spec (e1 i)
    have hlenf : ∀ (qs : List α), (∀ q ∈ qs, R q) → (qs.flatMap f).length = qs.length * k := by
      intro qs
      induction qs with
      | nil => intro _; simp
      | cons q r ih =>
        intro h
        rw [List.flatMap_cons, List.length_append, hf q (h q (by simp)), ih (fun q hq => h q (by simp [hq])), List.length_cons, Nat.succ_mul]; omega
    have hall : ∀ q ∈ List.ofFn g, R q := by
      intro q hq
      obtain ⟨i, rfl⟩ := List.mem_ofFn.1 hq
      exact (hg i).1
    refine ⟨List.ofFn g, by simp, leads_of _ hl hm ?_ ?_, hall⟩
    · intro h0
      rw [hlenf _ hall, List.length_ofFn] at h0
      rcases Nat.mul_eq_zero.1 h0 with h | h
      · exact h
      · omega
    · intro i v hv
      have hlt := (List.getElem?_eq_some_iff.1 hv).1
      rw [hlenf _ hall, List.length_ofFn] at hlt
      have hq : i / k < len := Nat.div_lt_of_lt_mul (by rw [Nat.mul_comm]; exact hlt)
      have hr : i % k < k := Nat.mod_lt _ hk
      have ei : i / k * k + i % k = i := Nat.div_add_mod' i k
      have hc := (hg ⟨i / k, hq⟩).2 (i % k) hr
      rw [show (⟨i / k, hq⟩ : Fin len).1 * k + i % k = i from ei] at hc
      rw [hc, ← hv]
      clear hc hv
      have go : ∀ (qs : List α) (hR : ∀ q ∈ qs, R q) (a b : Nat) (q : α), qs[a]? = some q → b < k → (qs.flatMap f)[a * k + b]? = (f q)[b]? := by
        intro qs
        induction qs with
        | nil => intro _ a b q h; simp at h
        | cons y r ih =>
          intro hR a b q h hb
          have hy := hf y (hR y (by simp))
          rw [List.flatMap_cons]
          cases a with
          | zero =>
            obtain rfl : y = q := by simpa using h
            rw [Nat.zero_mul, Nat.zero_add, List.getElem?_append_left (by omega)]
          | succ a =>
            rw [List.getElem?_append_right (by rw [hy, Nat.succ_mul]; omega), hy, show (a + 1) * k + b - k = a * k + b by rw [Nat.succ_mul]; omega]
            exact ih (fun q hq => hR q (by simp [hq])) a b q (by simpa using h) hb
      have := go (List.ofFn g) hall (i / k) (i % k) (g ⟨i / k, hq⟩) (by rw [List.getElem?_ofFn, dif_pos hq]) hr
      rw [ei] at this
      exact this.symm
end
end Go.Proofs.Ytoihjmdpbbcbjaa
namespace Go.Proofs.Ytoihjmdpbbcbjaa
open Go.ChangeShapes Go.WideShapes Go.ChangeAt Go.RowKit
set_option linter.unusedVariables false

section
variable {H : Type} {enc : TypeId × Value → H} {w : World} {base : Nat} {held : Bool}

theorem open_boolrow {fuel : Nat} {a : Option Addr} {len cap : Nat} {x : DataW H × List MemPlace} (h : DataW.trod enc Try.prog w base (fun _ => true) held fuel 23 (Value.slice a len cap).cells.toList = some x) :
    ∃ bs : List Bool, bs.length = len ∧ Leads w a len cap (bcells bs) := by
  obtain ⟨qs, h1, h2, h3⟩ := open_each (fun b : Bool => [Value.bool b]) (fun _ => True) Try.underlying23 (k := 1) (by kernel_rfl) (by decide) (fun q hq => rfl) (fun n cs y hl hy => by
    obtain ⟨z, e, -⟩ := DataW.trod_bool Try.underlying4 hy
    exact ⟨z, e, trivial⟩) h
  refine ⟨qs, h1, ?_⟩
  have : qs.flatMap (fun b : Bool => [Value.bool b]) = bcells qs := by clear h h1 h2 h3; induction qs with | nil => rfl | cons q r ih => rw [List.flatMap_cons, ih]; rfl
  rw [← this]; exact h2
set_option maxRecDepth 100000 in
theorem open_mem {r : Reach} {b0 : Nat} {v : Value} {d : DataW H} {p : List MemPlace} (hv : Value.okWide Try.prog w r b0 25 v) (h : DataW.Trod enc Try.prog w base (fun _ => true) held 25 v d p) :
    ∃ (M : Mem) (wa : Option Addr) (wc : Nat) (la : Option Addr) (lc : Nat), v = memV wa wc la lc M ∧ MemL w wa wc la lc M ∧ Wok M := by
  obtain ⟨c, e, u, y, y1, y2, n, rfl, -, -, h0, h1, h2⟩ := Joins.open_agg3 Try.underlying25 (by kernel_rfl) (by kernel_rfl) hv h
  obtain ⟨wa, wn, wc, eW⟩ := Joins.slice_form Try.underlying22 h0
  obtain ⟨la, ln, lc, eL⟩ := Joins.slice_form Try.underlying23 h1
  obtain ⟨F, eF, -⟩ := DataW.trod_bool Try.underlying4 h2
  simp only [List.cons.injEq, and_true] at eW eL eF
  subst eW eL eF
  obtain ⟨ws, w1, w2, w3⟩ := open_words (a := wa) (len := wn) (cap := wc) Try.underlying22 Try.underlying26 (by kernel_rfl) h0
  obtain ⟨bs, b1, b2⟩ := open_boolrow (a := la) (len := ln) (cap := lc) h1
  subst w1 b1
  exact ⟨⟨ws, bs, F⟩, wa, wc, la, lc, rfl, ⟨w2, b2⟩, w3⟩
set_option maxRecDepth 100000 in
theorem open_twin {fuel : Nat} {cs : List Value} {y : DataW H × List MemPlace} (hl : cs.length = 3) (h : DataW.trod enc Try.prog w base (fun _ => true) held fuel 28 cs = some y) :
    ∃ t : Tw, cs = tw3 t ∧ t.1 < 18446744073709551616 ∧ t.2.1 < 18446744073709551616 ∧ t.2.2 < 18446744073709551616 := by
  obtain ⟨xs, k, -, -, -, hxl, hf⟩ := DataW.trod_struct Try.underlying28 h
  match cs, hl, xs, hxl with
  | [c0, c1, c2], _, [y0, y1, y2], _ =>
    have g0 := hf 0 _ rfl
    have g1 := hf 1 _ rfl
    have g2 := hf 2 _ rfl
    have ec0 : Try.prog.cellsOf 26 = 1 := by kernel_rfl
    simp [ec0] at g0 g1 g2
    obtain ⟨z0, e0, _, w0⟩ := DataW.trod_int Try.underlying26 g0
    obtain ⟨z1, e1, _, w1⟩ := DataW.trod_int Try.underlying26 g1
    obtain ⟨z2, e2, _, w2⟩ := DataW.trod_int Try.underlying26 g2
    obtain ⟨n0, rfl, b0⟩ := nat_of_wf w0
    obtain ⟨n1, rfl, b1⟩ := nat_of_wf w1
    obtain ⟨n2, rfl, b2⟩ := nat_of_wf w2
    simp only [List.cons.injEq, and_true] at e0 e1 e2
    subst e0 e1 e2
    exact ⟨(n0, n1, n2), rfl, b0, b1, b2⟩
theorem list8 {α : Type} {l : List α} (h : l.length = 8) : ∃ a b c d e f g i, l = [a, b, c, d, e, f, g, i] := by
  match l, h with
  | [a, b, c, d, e, f, g, i], _ => exact ⟨a, b, c, d, e, f, g, i, rfl⟩
set_option maxRecDepth 100000 in
theorem open_ed {r : Reach} {b0 : Nat} {v : Value} {d : DataW H} {p : List MemPlace} (hv : Value.okWide Try.prog w r b0 42 v) (h : DataW.Trod enc Try.prog w base (fun _ => true) held 42 v d p) :
    ∃ s : Ed, v = edV s ∧ s.Ok := by
  obtain ⟨cs, rfl, hsz⟩ := okWide_struct Try.underlying42 hv
  have hc8 : Try.prog.cellsOf 42 = 8 := by kernel_rfl
  obtain ⟨c0, c1, c2, c3, c4, c5, c6, c7, hcs⟩ := list8 (l := cs.toList) (by rw [Array.length_toList, hsz, hc8])
  obtain ⟨fuel, hf⟩ := h
  obtain ⟨xs, k, -, -, -, hxl, hfs⟩ := DataW.trod_struct Try.underlying42 hf
  have hcells : (Value.agg cs).cells.toList = [c0, c1, c2, c3, c4, c5, c6, c7] := hcs
  rw [hcells] at hfs
  obtain rfl : cs = #[c0, c1, c2, c3, c4, c5, c6, c7] := by rw [← Array.toList_inj, hcs]
  match xs, hxl with
  | [y0, y1, y2, y3, y4, y5], _ =>
    have g0 := hfs 0 _ rfl
    have g1 := hfs 1 _ rfl
    have g2 := hfs 2 _ rfl
    have g3 := hfs 3 _ rfl
    have g4 := hfs 4 _ rfl
    have g5 := hfs 5 _ rfl
    have ec0 : Try.prog.cellsOf 26 = 1 := by kernel_rfl
    have ec1 : Try.prog.cellsOf 3 = 1 := by kernel_rfl
    have ec2 : Try.prog.cellsOf 4 = 1 := by kernel_rfl
    have ec3 : Try.prog.cellsOf 28 = 3 := by kernel_rfl
    simp [ec0, ec1, ec2, ec3] at g0 g1 g2 g3 g4 g5
    obtain ⟨z0, e0, _, w0⟩ := DataW.trod_int Try.underlying3 g0
    obtain ⟨z1, e1, -⟩ := DataW.trod_bool Try.underlying4 g1
    obtain ⟨z2, e2, _, w2⟩ := DataW.trod_int Try.underlying26 g2
    obtain ⟨⟨t0, t1, t2⟩, e3, b3, b4, b5⟩ := open_twin rfl g3
    obtain ⟨z4, e4, _, w4⟩ := DataW.trod_int Try.underlying26 g4
    obtain ⟨z5, e5, _, w5⟩ := DataW.trod_int Try.underlying26 g5
    obtain ⟨n2, rfl, q2⟩ := nat_of_wf w2
    obtain ⟨n4, rfl, q4⟩ := nat_of_wf w4
    obtain ⟨n5, rfl, q5⟩ := nat_of_wf w5
    simp only [tw3, List.cons.injEq, and_true] at e0 e1 e2 e3 e4 e5
    obtain ⟨e30, e31, e32⟩ := e3
    subst e0 e1 e2 e30 e31 e32 e4 e5
    exact ⟨⟨z0, z1, n2, t0, t1, t2, n4, n5⟩, rfl, ⟨int_of_wf w0, q2, b3, b4, b5, q4, q5⟩⟩
theorem list3 {α : Type} {l : List α} (h : l.length = 3) : ∃ a b c, l = [a, b, c] := by
  match l, h with
  | [a, b, c], _ => exact ⟨a, b, c, rfl⟩
theorem list5 {α : Type} {l : List α} (h : l.length = 5) : ∃ a b c d e, l = [a, b, c, d, e] := by
  match l, h with
  | [a, b, c, d, e], _ => exact ⟨a, b, c, d, e, rfl⟩
set_option maxRecDepth 100000 in
theorem open_tw {r : Reach} {b0 : Nat} {v : Value} {d : DataW H} {p : List MemPlace} (hv : Value.okWide Try.prog w r b0 28 v) (h : DataW.Trod enc Try.prog w base (fun _ => true) held 28 v d p) :
    ∃ t : Tw, v = twV t ∧ t.1 < 18446744073709551616 ∧ t.2.1 < 18446744073709551616 ∧ t.2.2 < 18446744073709551616 := by
  obtain ⟨cs, rfl, hsz⟩ := okWide_struct Try.underlying28 hv
  have hc3 : Try.prog.cellsOf 28 = 3 := by kernel_rfl
  obtain ⟨fuel, hf⟩ := h
  obtain ⟨t, ht, hb⟩ := open_twin (by show cs.toList.length = 3; rw [Array.length_toList, hsz, hc3]) hf
  have ht' : cs.toList = tw3 t := ht
  refine ⟨t, ?_, hb⟩
  have : cs = (tw3 t).toArray := by rw [← Array.toList_inj, ht']
  rw [this]
  rfl
set_option maxRecDepth 100000 in
theorem open_mv5 {fuel : Nat} {cs : List Value} {y : DataW H × List MemPlace} (hl : cs.length = 5) (h : DataW.trod enc Try.prog w base (fun _ => true) held fuel 49 cs = some y) : ∃ m : Mv, cs = mv5 m ∧ m.Ok := by
  obtain ⟨xs, k, -, -, -, hxl, hf⟩ := DataW.trod_struct Try.underlying49 h
  match cs, hl, xs, hxl with
  | [c0, c1, c2, c3, c4], _, [y0, y1, y2], _ =>
    have g0 := hf 0 _ rfl
    have g1 := hf 1 _ rfl
    have g2 := hf 2 _ rfl
    have ec0 : Try.prog.cellsOf 26 = 1 := by kernel_rfl
    have ec2 : Try.prog.cellsOf 4 = 1 := by kernel_rfl
    have ec3 : Try.prog.cellsOf 28 = 3 := by kernel_rfl
    simp [ec0, ec2, ec3] at g0 g1 g2
    obtain ⟨z0, e0, -⟩ := DataW.trod_bool Try.underlying4 g0
    obtain ⟨z1, e1, _, w1⟩ := DataW.trod_int Try.underlying26 g1
    obtain ⟨⟨t0, t1, t2⟩, e3, b3⟩ := open_twin rfl g2
    obtain ⟨n1, rfl, q1⟩ := nat_of_wf w1
    simp only [tw3, List.cons.injEq, and_true] at e0 e1 e3
    obtain ⟨e30, e31, e32⟩ := e3
    subst e0 e1 e30 e31 e32
    exact ⟨⟨z0, n1, (t0, t1, t2)⟩, rfl, ⟨q1, b3⟩⟩
set_option maxRecDepth 100000 in
theorem open_move {r : Reach} {b0 : Nat} {v : Value} {d : DataW H} {p : List MemPlace} (hv : Value.okWide Try.prog w r b0 49 v) (h : DataW.Trod enc Try.prog w base (fun _ => true) held 49 v d p) : ∃ m : Mv, v = mvV m ∧ m.Ok := by
  obtain ⟨cs, rfl, hsz⟩ := okWide_struct Try.underlying49 hv
  have hc5 : Try.prog.cellsOf 49 = 5 := by kernel_rfl
  obtain ⟨fuel, hf⟩ := h
  obtain ⟨t, ht, hb⟩ := open_mv5 (by show cs.toList.length = 5; rw [Array.length_toList, hsz, hc5]) hf
  have ht' : cs.toList = mv5 t := ht
  refine ⟨t, ?_, hb⟩
  have : cs = (mv5 t).toArray := by rw [← Array.toList_inj, ht']
  rw [this]
  rfl
theorem open_moves {fuel : Nat} {a : Option Addr} {len cap : Nat} {x : DataW H × List MemPlace} (h : DataW.trod enc Try.prog w base (fun _ => true) held fuel 47 (Value.slice a len cap).cells.toList = some x) :
    ∃ ms : List Mv, ms.length = len ∧ Leads w a len cap (mvcells ms) ∧ ∀ m ∈ ms, m.Ok :=
  open_each mv5 Mv.Ok Try.underlying47 (k := 5) (by kernel_rfl) (by decide) (fun q hq => rfl) (fun n cs y hl hy => open_mv5 hl hy) h
end
end Go.Proofs.Ytoihjmdpbbcbjaa
