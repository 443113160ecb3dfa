/- Processes: Check (printed by gen_pr3.py). -/
import Derived.Test.YtmnbkhmphhgdiaaDoorPrEq
import Derived.Test.YtmnbkhmphhgdiaaDoorPr2
import Derived.Test.YtmnbkhmphhgdiaaDoorPrPlain1
import Derived.Test.YtmnbkhmphhgdiaaDoorRegion4
import Derived.Laws.EntriesVeiled
namespace Go.Proofs.YtmnbkhmphhgdiaaDoor
open Go.RowKit Go.Shelf
open Go.Proofs
set_option linter.unusedVariables false
attribute [local go_sem] Oper.semAt_some
theorem ncl1 {W : World} {Y : Nat} {v0 : Value} {T : TypeId} (h : W.heap[Y]? = some (.cells #[v0] T (0, 0))) : W.cell? ⟨Y, 0, none⟩ = some v0 := cell_laid (i := 0) h rfl
theorem fcl1 {W : World} {Y : Nat} {v0 : Value} {T : TypeId} (h : W.heap[Y]? = some (.cells #[v0] T (0, 0))) : W.cell? ⟨Y, 0, none⟩ = some v0 ∧ W.frozen? ⟨Y, 0, none⟩ = false := ⟨cell_laid (i := 0) h rfl, free_laid (i := 0) h⟩
theorem putN1 {V : World} {Y : Nat} {z0 : Value} {T : TypeId} (h : V.heap[Y]? = some (.cells #[z0] T (0, 0))) (v0 : Value) :
    ∃ V', V' = (V.setCell ⟨Y, 0, none⟩ v0) ∧ V'.heap[Y]? = some (.cells #[v0] T (0, 0)) ∧ (∀ (k : Nat) (o : Obj), k ≠ Y → V.heap[k]? = some o → V'.heap[k]? = some o) ∧ (∀ (B : Nat) (w : World), B ≤ Y → Below B w V → Below B w V') ∧ V.grownBy V' (some Y) := by
  obtain ⟨V0, hV0⟩ : ∃ W, V.setCell ⟨Y, 0, none⟩ v0 = W := ⟨_, rfl⟩
  have h0 : V0.heap[Y]? = some (.cells #[v0] T (0, 0)) := by rw [← hV0]; exact set_laid (i := 0) h v0
  refine ⟨V0, by rw [hV0], h0, fun k o hk ho => ?_, fun B w hB hb => ?_, ?_⟩
  · rw [← hV0]; exact (other_laid ho hk _)
  · rw [← hV0]; exact (hb.setCell (p := ⟨Y, 0, none⟩) hB _)
  · rw [← hV0]; exact (grownBy_setCell _ Y 0 _)
theorem own_neP {W : World} {X : Nat} {v : Value} {e e' : TypeId} {size base n : Nat} {xs : List Value} {cur : Array Value} (h : W.ownsRow base e size v n xs) (hX : W.heap[X]? = some (.cells cur e' (0, 0))) (hne : e ≠ e') : v.ownBlock ≠ some X := by
  intro hk
  obtain ⟨c, hc⟩ := own_type h X hk
  exact type_ne hc hX hne rfl
/-- A number of a generation that is strange. -/
theorem strange_any (z : Int) (V : World) (hz : -9223372036854775808 ≤ z ∧ z ≤ 9223372036854775807) : Calls Tryd.prog 47 #[.int .i64 z] V (fun e W => e = .returned (.bool (!(decide (0 ≤ z) && decide (z ≤ 65536)))) ∧ W = V) := by
  by_cases h0 : z < 0
  · have t0 : decide (z < 0) = true := decide_eq_true h0
    have HE : Hid ((!(decide (0 ≤ z) && decide (z ≤ 65536))) = true) := hid (by rw [decide_eq_false (by omega)]; rfl)
    clear h0
    go_enter Tryd.func47, Tryd.ntmps47
    go_wp2
    go_ret
    exact ⟨retb HE.out.symm, rfl⟩
  · have t0 : decide (z < 0) = false := decide_eq_false h0
    obtain ⟨B, hB⟩ : ∃ B, decide (65536 < z) = B := ⟨_, rfl⟩
    have HE : Hid ((!(decide (0 ≤ z) && decide (z ≤ 65536))) = B) := hid (by rw [← hB, decide_eq_true (by omega : 0 ≤ z), Bool.true_and, ← decide_not]; exact decide_eq_decide.2 (by omega))
    clear h0
    go_enter Tryd.func47, Tryd.ntmps47
    go_wp2
    go_ret
    exact ⟨retb HE.out.symm, rfl⟩
set_option maxRecDepth 100000 in
set_option maxHeartbeats 2000000 in
theorem strangeIdx_any (G : Nat → Int) (X : Nat) (V : World) (hG : GOk G) (hc : ∀ i, i < 16 → V.cell? ⟨X, i, none⟩ = some (.int .i64 (G i))) :
    Calls Tryd.prog 59 #[.slice (some ⟨X, 0, none⟩) 16 16, .func (.func 47) #[] #[]] V (fun e W => (∃ i : Int, e = .returned (.int .i64 i) ∧ (-1 ≤ i ∧ i ≤ 16) ∧ decide (0 ≤ i) = !gensB G) ∧ W = V) := by
  have HC := hid hc
  have HG := hid hG
  clear hc hG
  go_enter Tryd.func59, Tryd.ntmps59
  go_wp2
  go_loopg [8] 16 (fun g i wr => ∃ k : Nat, g + k = 16 ∧ i = .int .i64 (k : Nat) ∧ Hid ((List.range k).all (fun i => decide (0 ≤ G i) && decide (G i ≤ 65536)) = true) ∧ wr = V)
  case atStart => exact ⟨0, rfl, rfl, hid rfl, rfl⟩
  case round =>
    obtain ⟨k, hk, rfl, hs, rfl⟩ := hrel
    have HK := hid hk
    by_cases hlt : k < 16
    · have f0 := HC.out k hlt
      have HI := hid (strange_any (G k) wr (HG.out k))
      obtain ⟨E, hE⟩ : ∃ E, (decide (0 ≤ G k) && decide (G k ≤ 65536)) = E := ⟨_, rfl⟩
      rw [hE] at HI
      have HE := hid hE
      clear hE hk
      cases E with
      | false =>
        have HR : Hid (gensB G = false) := hid (by
          unfold gensB
          rw [List.all_eq_false]
          exact ⟨k, List.mem_range.2 hlt, by rw [HE.out]; decide⟩)
        have hk16 : (k : Int) ≤ 16 := by omega
        go_wp2_with fail
        refine HI.out.mono ?_
        rintro e w2 ⟨rfl, rfl⟩
        go_wp2
        go_ret
        exact ⟨⟨_, rfl, ⟨by omega, by omega⟩, by rw [HR.out]; exact decide_eq_true (by omega)⟩, rfl⟩
      | true =>
        have HT : Hid ((List.range (k + 1)).all (fun i => decide (0 ≤ G i) && decide (G i ≤ 65536)) = true) := hid (by rw [List.range_succ, List.all_append, hs.out]; simpa using HE.out)
        go_wp2_with fail
        refine HI.out.mono ?_
        rintro e w2 ⟨rfl, rfl⟩
        clear hs
        go_wp2
        go_roundg (gk - 1)
        case measure => have := HK.out; omega
        case rel => exact ⟨k + 1, by have := HK.out; omega, by go_num, HT, rfl⟩
    · obtain rfl : k = 16 := by omega
      have HR : Hid (gensB G = true) := hs
      clear hs hk
      go_wp2
      go_ret
      exact ⟨⟨_, rfl, ⟨by decide, by decide⟩, by rw [HR.out]; rfl⟩, rfl⟩
theorem strangeHas_any (G : Nat → Int) (X : Nat) (V : World) (hG : GOk G) (hc : ∀ i, i < 16 → V.cell? ⟨X, i, none⟩ = some (.int .i64 (G i))) :
    Calls Tryd.prog 48 #[.slice (some ⟨X, 0, none⟩) 16 16, .func (.func 47) #[] #[]] V (fun e W => e = .returned (.bool (!gensB G)) ∧ W = V) := by
  have HI := hid (strangeIdx_any G X V hG hc)
  clear hG hc
  go_enter Tryd.func48, Tryd.ntmps48
  go_wp2_with fail
  refine HI.out.mono ?_
  rintro e w ⟨⟨i, rfl, hib, hi⟩, rfl⟩
  obtain ⟨B, hB⟩ : ∃ B, decide (0 ≤ i) = B := ⟨_, rfl⟩
  rw [hB] at hi
  have HE := hid hi
  clear hi
  go_wp2
  go_ret
  exact ⟨retb HE.out, rfl⟩
theorem cells16 {W : World} {X : Nat} {T : TypeId} {G : Nat → Int} {s : Value} (h : W.heap[X]? = some (.cells #[.int .i64 (G 0), .int .i64 (G 1), .int .i64 (G 2), .int .i64 (G 3), .int .i64 (G 4), .int .i64 (G 5), .int .i64 (G 6), .int .i64 (G 7), .int .i64 (G 8), .int .i64 (G 9), .int .i64 (G 10), .int .i64 (G 11), .int .i64 (G 12), .int .i64 (G 13), .int .i64 (G 14), .int .i64 (G 15), s] T (0, 0))) : ∀ i, i < 16 → W.cell? ⟨X, i, none⟩ = some (.int .i64 (G i)) := by
  intro i hi
  match i, hi with
  | 0, _ => exact cell_laid (i := 0) h rfl
  | 1, _ => exact cell_laid (i := 1) h rfl
  | 2, _ => exact cell_laid (i := 2) h rfl
  | 3, _ => exact cell_laid (i := 3) h rfl
  | 4, _ => exact cell_laid (i := 4) h rfl
  | 5, _ => exact cell_laid (i := 5) h rfl
  | 6, _ => exact cell_laid (i := 6) h rfl
  | 7, _ => exact cell_laid (i := 7) h rfl
  | 8, _ => exact cell_laid (i := 8) h rfl
  | 9, _ => exact cell_laid (i := 9) h rfl
  | 10, _ => exact cell_laid (i := 10) h rfl
  | 11, _ => exact cell_laid (i := 11) h rfl
  | 12, _ => exact cell_laid (i := 12) h rfl
  | 13, _ => exact cell_laid (i := 13) h rfl
  | 14, _ => exact cell_laid (i := 14) h rfl
  | 15, _ => exact cell_laid (i := 15) h rfl
  | i + 16, hi => exact absurd hi (by omega)
/-- Does a process run? (the closure) -/
theorem OfP.find {L : List Pr} {a : Option Addr} {pid : Nat} {r : Value} (h : OfP L a pid r) : (r = .pointer none ∧ findB L pid = none) ∨ ∃ k x b off, L[k]? = some x ∧ x.1 = pid ∧ findB L pid = some x ∧ a = some ⟨b, off, none⟩ ∧ r = .pointer (some ⟨b, off + k * 4, none⟩) := by
  rcases h with ⟨h1, h2⟩ | ⟨k, x, b, off, h1, h2, h3, h4, h5⟩
  · exact .inl ⟨h1, List.find?_eq_none.2 fun x hx => by simpa using h2 x hx⟩
  · refine .inr ⟨k, x, b, off, h1, h2, ?_, h4, h5⟩
    have hk := (List.getElem?_eq_some_iff.1 h1).1
    have e : L = L.take k ++ x :: L.drop (k + 1) := by
      rw [← (List.getElem?_eq_some_iff.1 h1).2, List.getElem_cons_drop hk, List.take_append_drop]
    unfold findB
    rw [e, List.find?_append, List.find?_eq_none.2 (fun y hy => by simpa using h3 y hy), Option.none_or, List.find?_cons, decide_eq_true h2]
set_option maxRecDepth 100000 in
theorem runs1_any (T Y n c pid : Nat) (a : Option Addr) (G : Nat → Int) (L : List Pr) (V : World) (hY : V.heap[Y]? = some (.cells #[.pointer (some ⟨T, 0, none⟩)] 60 (0, 0))) (hT : V.heap[T]? = some (.cells #[.int .i64 (G 0), .int .i64 (G 1), .int .i64 (G 2), .int .i64 (G 3), .int .i64 (G 4), .int .i64 (G 5), .int .i64 (G 6), .int .i64 (G 7), .int .i64 (G 8), .int .i64 (G 9), .int .i64 (G 10), .int .i64 (G 11), .int .i64 (G 12), .int .i64 (G 13), .int .i64 (G 14), .int .i64 (G 15), .slice a n c] 65 (0, 0))) (hl : Leads V a n c (prcells L)) (hn : L.length = n) (hn5 : n ≤ 1000) :
    Calls Tryd.prog 46 #[.int .u64 ((pid : Nat) : Int), .pointer (some ⟨Y, 0, none⟩)] V (Ret (.bool (runsB L pid)) V) := by
  have HO := hid (of_any T n c pid a G _ L V hT hl hn hn5)
  have y0 := cell_laid (i := 0) hY rfl
  have HL := hid hl
  have HN := hid hn
  clear hY hT hl hn
  go_enter Tryd.func46, Tryd.ntmps46
  go_wp2_with fail
  refine HO.out.mono ?_
  rintro e w ⟨r, rfl, hr, hb⟩
  rcases hr.find with ⟨rfl, hf⟩ | ⟨k, x, b, off, hk, hx, hf, rfl, rfl⟩
  · have HE : Hid (false = runsB L pid) := hid (by unfold runsB; rw [hf])
    clear hr hf
    go_wp2
    go_ret
    exact ⟨retb HE.out, hb⟩
  · have HE : Hid ((!x.2.2.1) = runsB L pid) := hid (by unfold runsB; rw [hf])
    obtain ⟨b', off', hab, -, hcx⟩ := HL.out.pr (by rw [← HN.out]; exact (List.getElem?_eq_some_iff.1 hk).1) hk
    simp only [Option.some.injEq, Addr.mk.injEq, and_true] at hab
    obtain ⟨rfl, rfl⟩ := hab
    obtain ⟨f0, f1, f2, f3⟩ := hcx w hb
    obtain ⟨d, hd⟩ : ∃ d, x.2.2.1 = d := ⟨_, rfl⟩
    rw [hd] at HE f2
    clear hr hf hcx f0 f1 f3 hk hx
    go_wp2
    go_ret
    exact ⟨retb HE.out, hb⟩
theorem Check_result {W : World} {b : Nat} {v0 : Value} {tmps : Array Value} (h : W.heap[b]? = some (.cells #[v0] 32 (0, 0))) (hp : tmps[2]?.getD undef = .pointer (some ⟨b, 0, none⟩)) :
    (results Tryd.f18 tmps).run Tryd.prog W = .ok v0 W := by
  have e0 := cell_laid (i := 0) (v := v0) h rfl
  simp [results, Tryd.results18, go_sem, hp, e0]
/-- What lies while each process is looked at. -/
structure ChI (V : World) (X R T Y F base : Nat) (cx : Array Value) (E : Nat) (W : World) : Prop where
  bx : W.heap[X]? = some (.cells cx 25 (0, 0))
  br : W.heap[R]? = some (.cells #[.int .i64 ((E : Nat) : Int)] 32 (0, 0))
  bt : W.heap[T]? = some (.cells cx 65 (0, 0))
  by_ : W.heap[Y]? = some (.cells #[.pointer (some ⟨T, 0, none⟩)] 60 (0, 0))
  bf : W.heap[F]? = some (.cells #[.func (.func 46) #[] #[.pointer (some ⟨Y, 0, none⟩)]] 78 (0, 0))
  below : Below V.heap.size V W
  sz : base ≤ W.heap.size
theorem ChI.grow {V : World} {X R T Y F base E : Nat} {cx : Array Value} {W W' : World} (h : ChI V X R T Y F base cx E W) (hb : Below W.heap.size W W') : ChI V X R T Y F base cx E W' :=
  ⟨keep_laid h.bx hb, keep_laid h.br hb, keep_laid h.bt hb, keep_laid h.by_ hb, keep_laid h.bf hb, h.below.trans (hb.mono h.below.size), Nat.le_trans h.sz hb.size⟩
theorem ChI.abide {V A B : World} {X R T Y F base E Bs : Nat} {cx : Array Value} {row : Option Nat} (h : ChI V X R T Y F base cx E A) (hg : A.grownBy B row)
    (hr : ∀ r, row = some r → r = Bs ∨ (base ≤ r ∧ ∃ o, A.heap[r]? = some o ∧ o.isCells = false)) (h1 : X < Bs ∧ R < Bs ∧ T < Bs ∧ Y < Bs ∧ F < Bs) (h3 : V.heap.size ≤ Bs) (h4 : V.heap.size ≤ base) : ChI V X R T Y F base cx E B := by
  obtain ⟨n1, n2, n3, n4, n5⟩ := h1
  exact ⟨cells_abide h.bx hg hr (by omega), cells_abide h.br hg hr (by omega), cells_abide h.bt hg hr (by omega), cells_abide h.by_ hg hr (by omega), cells_abide h.bf hg hr (by omega), below_abide h.below hg hr h3 h4, Nat.le_trans h.sz hg.size⟩
theorem ChI.put {V : World} {X R T Y F base : Nat} {cx : Array Value} {E W} (h : ChI V X R T Y F base cx E W) (E' : Nat) (h1 : X < R ∧ R < T ∧ T < Y ∧ Y < F) (h3 : V.heap.size ≤ R) : ChI V X R T Y F base cx E' (W.setCell ⟨R, 0, none⟩ (.int .i64 ((E' : Nat) : Int))) := by
  obtain ⟨n1, n2, n3, n4⟩ := h1
  exact ⟨other_laid h.bx (by omega) _, set_laid (i := 0) h.br _, other_laid h.bt (by omega) _, other_laid h.by_ (by omega) _, other_laid h.bf (by omega) _, h.below.setCell (p := ⟨R, 0, none⟩) h3 _, by simpa [World.setCell] using h.sz⟩
set_option maxRecDepth 100000 in
set_option maxHeartbeats 16000000 in
theorem Check_any (n c : Nat) (a : Option Addr) (G : Nat → Int) (L : List Pr) (V : World) (hg : Glob V) (hl : Leads V a n c (prcells L)) (hn : L.length = n) (hn5 : n ≤ 1000) (hG : GOk G) (hL : PrsOk L) :
    Calls Tryd.prog 18 #[.agg #[.int .i64 (G 0), .int .i64 (G 1), .int .i64 (G 2), .int .i64 (G 3), .int .i64 (G 4), .int .i64 (G 5), .int .i64 (G 6), .int .i64 (G 7), .int .i64 (G 8), .int .i64 (G 9), .int .i64 (G 10), .int .i64 (G 11), .int .i64 (G 12), .int .i64 (G 13), .int .i64 (G 14), .int .i64 (G 15), .slice a n c]] V (Ret (.int .i64 (if okP G L = true then 0 else 320)) V) := by
  obtain ⟨V1, hV1, hbV1, hsV1, hlV1⟩ := laid V #[.int .i64 (G 0), .int .i64 (G 1), .int .i64 (G 2), .int .i64 (G 3), .int .i64 (G 4), .int .i64 (G 5), .int .i64 (G 6), .int .i64 (G 7), .int .i64 (G 8), .int .i64 (G 9), .int .i64 (G 10), .int .i64 (G 11), .int .i64 (G 12), .int .i64 (G 13), .int .i64 (G 14), .int .i64 (G 15), .slice a n c] 25
  obtain ⟨V2, hV2, hbV2, hsV2, hlV2⟩ := laid V1 #[.int .i64 0] 32
  obtain ⟨X, hX⟩ : ∃ X, V.heap.size = X := ⟨_, rfl⟩
  rw [hX] at hlV1
  obtain ⟨R, hR⟩ : ∃ X, V1.heap.size = X := ⟨_, rfl⟩
  rw [hR] at hlV2
  have KX := hid (keep_laid hlV1 hbV2)
  have KR := hid hlV2
  have HB := hid (step hbV1 hbV2)
  have hVX : V.heap.size ≤ X := by omega
  have hVR : V.heap.size ≤ R := by omega
  have nXR : X < R := by omega
  clear hbV1 hsV1 hlV1 hbV2 hsV2 hlV2
  have HL := hid hl
  have HN := hid hn
  have HGO := hid hG
  have HLO := hid hL
  have HGL := hid hg
  have hlen := hl.len
  have hnc : n ≤ c := hl.1
  have hmf : ∀ (fn : Fn) (first cap : Array Value) (w : World), (Instr.makeFunc fn first cap).run Tryd.prog w = .ok (.func fn first cap) w := fun _ _ _ _ => rfl
  obtain ⟨RV, hRV⟩ : ∃ r : Int, (if okP G L = true then (0 : Int) else 320) = r := ⟨_, rfl⟩
  rw [hRV]
  have HRV := hid hRV
  clear hg hl hn hG hL hRV
  refine calls_of_wp_marks Tryd.func18 rfl ?_
  simp only [Tryd.ntmps18, List.size_toArray, List.length_cons, List.length_nil, Nat.reduceAdd, Nat.reduceSub, Array.replicate_succ, Array.replicate_zero, List.push_toArray, List.append_toArray, List.nil_append, List.cons_append]
  obtain ⟨x0, x1, x2, x3, x4, x5, x6, x7, x8, x9, x10, x11, x12, x13, x14, x15, x16⟩ := ncl17 (KX.out)
  obtain ⟨w1_211, hw1_211, hbn, hsn, hln⟩ := laid V2 #[.int .i64 (G 0), .int .i64 (G 1), .int .i64 (G 2), .int .i64 (G 3), .int .i64 (G 4), .int .i64 (G 5), .int .i64 (G 6), .int .i64 (G 7), .int .i64 (G 8), .int .i64 (G 9), .int .i64 (G 10), .int .i64 (G 11), .int .i64 (G 12), .int .i64 (G 13), .int .i64 (G 14), .int .i64 (G 15), .slice a n c] 65
  obtain ⟨T, hNMT⟩ : ∃ X, V2.heap.size = X := ⟨_, rfl⟩
  rw [hNMT] at hln
  have nXT : X < T := by have := lt_laid KX.out; omega
  have nRT : R < T := by have := lt_laid KR.out; omega
  have hVT : V.heap.size ≤ T := by have := HB.out.size; omega
  have KX_1 := hid (keep_laid KX.out hbn)
  have KR_2 := hid (keep_laid KR.out hbn)
  have HB_3 := hid (HB.out.trans (hbn.mono HB.out.size))
  clear KX KR HB hbn hsn
  have KT_4 := hid (hln)
  clear hln
  obtain ⟨w2_223, hw2_223, hbn, hsn, hln⟩ := laid w1_211 #[.pointer none] 60
  obtain ⟨Y, hNMY⟩ : ∃ X, w1_211.heap.size = X := ⟨_, rfl⟩
  rw [hNMY] at hln
  have nXY : X < Y := by have := lt_laid KX_1.out; omega
  have nRY : R < Y := by have := lt_laid KR_2.out; omega
  have nTY : T < Y := by have := lt_laid KT_4.out; omega
  have hVY : V.heap.size ≤ Y := by have := HB_3.out.size; omega
  have KX_5 := hid (keep_laid KX_1.out hbn)
  have KR_6 := hid (keep_laid KR_2.out hbn)
  have HB_7 := hid (HB_3.out.trans (hbn.mono HB_3.out.size))
  have KT_8 := hid (keep_laid KT_4.out hbn)
  clear KX_1 KR_2 HB_3 KT_4 hbn hsn
  have KY_9 := hid (hln)
  clear hln
  have KY_9_o := KY_9.out
  obtain ⟨u3_238, hu3_238, a1, a2, a3, a4⟩ := putN1 KY_9.out (.pointer (some ⟨T, 0, none⟩))
  obtain ⟨z0, zf0⟩ := fcl1 (KY_9.out)
  have E4_238 := hid hu3_238
  have KX_10 := hid (a2 X _ (by omega) KX_5.out)
  have KR_11 := hid (a2 R _ (by omega) KR_6.out)
  have HB_12 := hid (a3 _ _ (by omega) HB_7.out)
  have KT_13 := hid (a2 T _ (by omega) KT_8.out)
  have KY_14 := hid (a1)
  clear KX_5 KR_6 HB_7 KT_8 KY_9 hu3_238 a1 a2 a3 a4
  clear KY_9_o
  go_upto_region 2 with (fail)
  rw [← E4_238.out]
  clear z0 zf0 hNMT hNMY
  clear hX hR x0 x1 x2 x3 x4 x5 x6 x7 x8 x9 x10 x11 x12 x13 x14 x15 x16
  obtain ⟨w5_252, hw5_252, hbn, hsn, hln⟩ := laid u3_238 #[Value.nilFunc] 78
  obtain ⟨F, hNMF⟩ : ∃ X, u3_238.heap.size = X := ⟨_, rfl⟩
  rw [hNMF] at hln
  have nXF : X < F := by have := lt_laid KX_10.out; omega
  have nRF : R < F := by have := lt_laid KR_11.out; omega
  have nTF : T < F := by have := lt_laid KT_13.out; omega
  have nYF : Y < F := by have := lt_laid KY_14.out; omega
  have hVF : V.heap.size ≤ F := by have := HB_12.out.size; omega
  have KX_15 := hid (keep_laid KX_10.out hbn)
  have KR_16 := hid (keep_laid KR_11.out hbn)
  have HB_17 := hid (HB_12.out.trans (hbn.mono HB_12.out.size))
  have KT_18 := hid (keep_laid KT_13.out hbn)
  have KY_19 := hid (keep_laid KY_14.out hbn)
  clear KX_10 KR_11 HB_12 KT_13 KY_14 hbn hsn
  have KF_20 := hid (hln)
  clear hln
  have KF_20_o := KF_20.out
  obtain ⟨u6_269, hu6_269, a1, a2, a3, a4⟩ := putN1 KF_20.out (.func (.func 46) #[] #[.pointer (some ⟨Y, 0, none⟩)])
  obtain ⟨z0, zf0⟩ := fcl1 (KF_20.out)
  have E7_269 := hid hu6_269
  have KX_21 := hid (a2 X _ (by omega) KX_15.out)
  have KR_22 := hid (a2 R _ (by omega) KR_16.out)
  have HB_23 := hid (a3 _ _ (by omega) HB_17.out)
  have KT_24 := hid (a2 T _ (by omega) KT_18.out)
  have KY_25 := hid (a2 Y _ (by omega) KY_19.out)
  have KF_26 := hid (a1)
  clear KX_15 KR_16 HB_17 KT_18 KY_19 KF_20 hu6_269 a1 a2 a3 a4
  clear KF_20_o
  go_upto_region 4 with (fail)
  rw [← E7_269.out]
  clear z0 zf0 hNMF
  have HC0 : Hid (ChI V X R T Y F 0 #[.int .i64 (G 0), .int .i64 (G 1), .int .i64 (G 2), .int .i64 (G 3), .int .i64 (G 4), .int .i64 (G 5), .int .i64 (G 6), .int .i64 (G 7), .int .i64 (G 8), .int .i64 (G 9), .int .i64 (G 10), .int .i64 (G 11), .int .i64 (G 12), .int .i64 (G 13), .int .i64 (G 14), .int .i64 (G 15), .slice a n c] 0 u6_269) := hid ⟨KX_21.out, KR_22.out, KT_24.out, KY_25.out, KF_26.out, HB_23.out, Nat.zero_le _⟩
  have HORD := hid (show (X < R ∧ R < T ∧ T < Y ∧ Y < F) ∧ V.heap.size ≤ R from ⟨⟨by omega, by omega, by omega, by omega⟩, by omega⟩)
  clear KX_21 KR_22 HB_23 KT_24 KY_25 KF_26
  obtain ⟨D0, hD⟩ : ∃ DX, (u6_269).drew = DX := ⟨_, rfl⟩
  have hbD : Below u6_269.heap.size u6_269 D0 := by rw [← hD]; exact (Below.refl _ _).drew
  have HD := hid hD
  have HCD := hid (HC0.out.grow hbD)
  clear hD hbD HC0
  have x16 : ∀ z : Ext D0, z.v.cell? ⟨X, 16, none⟩ = some (.slice a n c) := fun z => cell_laid (i := 16) (keep_laid HCD.out.bx z.b) rfl
  have g0 : ∀ z : Ext D0, z.v.cell? ⟨0, 0, none⟩ = some (.int .u64 1) := fun z => (HGL.out.grow (HCD.out.below.trans (z.b.mono HCD.out.below.size))).c0
  have g1 : ∀ z : Ext D0, z.v.cell? ⟨0, 1, none⟩ = some (.int .u64 0) := fun z => (HGL.out.grow (HCD.out.below.trans (z.b.mono HCD.out.below.size))).c1
  have g2 : ∀ z : Ext D0, z.v.cell? ⟨0, 2, none⟩ = some (.bool false) := fun z => (HGL.out.grow (HCD.out.below.trans (z.b.mono HCD.out.below.size))).c2
  have g3 : ∀ z : Ext D0, z.v.cell? ⟨0, 3, none⟩ = some (.int .u64 0) := fun z => (HGL.out.grow (HCD.out.below.trans (z.b.mono HCD.out.below.size))).c3
  have hL0 := HLO.out
  obtain hLe | ⟨y, r, hLe⟩ : L = [] ∨ ∃ y r, L = y :: r := by
    cases L with
    | nil => exact .inl rfl
    | cons y r => exact .inr ⟨y, r, rfl⟩
  · skip
    obtain rfl : n = 0 := by rw [← HN.out, hLe]; rfl
    have HLE := hid hLe
    clear hL0 hLe
    refine wp_region_mix2 (fun W => ∃ z : Ext D0, W = z.v) 18 (.q 0 (.q 1 (.q 2 (.q 3 (.q 4 (.q 5 (.q 6 (.q 7 (.q 8 (.q 9 (.q 10 (.q 11 (.q 12 (.q 13 (.q 14 (.q 15 (.h 16 (.q 17 (.done))))))))))))))))))) (by kernel_rfl) (by kernel_rfl) (by rw [HD.out]; exact ⟨⟨D0, Below.refl _ _⟩, rfl⟩) ?_
    rw [HD.out]
    repeat (refine wpMix2_q rfl rfl ?_; go_big_quiet_step (fail); refine wpQuiet_nil ?_)
    refine wpMix2_h rfl fun R' hR' hO => ?_
    go_wp2
    refine hR' _ _ ⟨⟨D0, Below.refl _ _⟩, rfl⟩ ?_
    clear hR' hO R'
    repeat (refine wpMix2_q rfl rfl ?_; go_big_quiet_step (fail); refine wpQuiet_nil ?_)
    refine wpMix2_done ?_
    simp only [List.drop_succ_cons, List.drop_nil]
    have HE : Hid (okP G L = false) := hid (by unfold okP; rw [HLE.out]; rfl)
    have kr := HCD.out.br
    have r0 := cell_laid (i := 0) kr rfl
    have rf := free_laid (i := 0) kr
    have HP := hid (HCD.out.put 320 HORD.out.1 HORD.out.2)
    clear kr
    go_wp2
    refine leaves_none (Check_result HP.out.br rfl) ⟨?_, HP.out.below⟩
    rw [← HRV.out, HE.out]
    rfl
  · skip
    obtain ⟨y0, y1, y2, y3⟩ := y
    have hn0 : 0 < n := by rw [← HN.out, hLe]; exact Nat.succ_pos _
    have hyo := hL0 (y0, y1, y2, y3) (by rw [hLe]; exact List.mem_cons_self ..)
    have hL0' : L[0]? = some (y0, y1, y2, y3) := by rw [hLe]; rfl
    obtain ⟨b, off, rfl, hbb, hcx⟩ := HL.out.pr hn0 hL0'
    have HL0 := hid hL0'
    clear hL0 hL0' hLe
    have f0 : ∀ z : Ext D0, z.v.cell? ⟨b, off, none⟩ = some (.int .u64 ((y0 : Nat) : Int)) := fun z => by
      have := (hcx z.v (HCD.out.below.trans (z.b.mono HCD.out.below.size))).1
      simpa using this
    have f1 : ∀ z : Ext D0, z.v.cell? ⟨b, off + 1, none⟩ = some (.int .u64 ((y1 : Nat) : Int)) := fun z => by
      have := (hcx z.v (HCD.out.below.trans (z.b.mono HCD.out.below.size))).2.1
      simpa using this
    have f2 : ∀ z : Ext D0, z.v.cell? ⟨b, off + 2, none⟩ = some (.bool y2) := fun z => by
      have := (hcx z.v (HCD.out.below.trans (z.b.mono HCD.out.below.size))).2.2.1
      simpa using this
    have f3 : ∀ z : Ext D0, z.v.cell? ⟨b, off + 3, none⟩ = some (.int .u64 ((y3 : Nat) : Int)) := fun z => by
      have := (hcx z.v (HCD.out.below.trans (z.b.mono HCD.out.below.size))).2.2.2
      simpa using this
    have tn : (((n : Nat) : Int) == 0) = false := by simp; omega
    have heq : ∀ w, (Op.equalIn 10000 45 (.agg #[.int .u64 ((y0 : Nat) : Int), .int .u64 ((y1 : Nat) : Int), .bool y2, .int .u64 ((y3 : Nat) : Int)]) (.agg #[.int .u64 1, .int .u64 0, .bool false, .int .u64 0])).run Tryd.prog w = .ok (decide ((y0, y1, y2, y3) = ((1, 0, false, 0) : Pr))) w := pr_eq y0 y1 y3 1 0 0 y2 false ⟨hyo.1, hyo.2.1, hyo.2.2⟩ ⟨by decide, by decide, by decide⟩
    clear hcx
    by_cases hy : (y0, y1, y2, y3) = ((1, 0, false, 0) : Pr)
    · skip
      rw [decide_eq_true hy] at heq
      have HY := hid hy
      clear hy
      obtain ⟨GB, hGB⟩ : ∃ B, gensB G = B := ⟨_, rfl⟩
      have HGB := hid hGB
      have hsh := fun (X : Nat) (W : World) (h : ∀ i, i < 16 → W.cell? ⟨X, i, none⟩ = some (.int .i64 (G i))) => strangeHas_any G X W HGO.out h
      rw [hGB] at hsh
      have HSH := hid hsh
      clear hGB hsh
      cases GB with
      | false =>
        refine wp_region_mix2 (fun W => ∃ z : Ext D0, W = z.v) 18 (.q 0 (.q 1 (.q 2 (.q 3 (.q 4 (.q 5 (.q 6 (.q 7 (.q 8 (.q 9 (.q 10 (.q 11 (.q 12 (.q 13 (.q 14 (.q 15 (.h 16 (.q 17 (.done))))))))))))))))))) (by kernel_rfl) (by kernel_rfl) (by rw [HD.out]; exact ⟨⟨D0, Below.refl _ _⟩, rfl⟩) ?_
        rw [HD.out]
        repeat (refine wpMix2_q rfl rfl ?_; go_big_quiet_step (fail); refine wpQuiet_nil ?_)
        refine wpMix2_h rfl fun R' hR' hO => ?_
        go_wp2_with fail
        refine (HSH.out X D0 (cells16 HCD.out.bx)).mono ?_
        rintro e w8 ⟨rfl, hw8⟩
        subst hw8
        go_wp2
        refine hR' _ _ ⟨⟨w8, Below.refl _ _⟩, rfl⟩ ?_
        clear hR' hO R'
        repeat (refine wpMix2_q rfl rfl ?_; go_big_quiet_step (fail); refine wpQuiet_nil ?_)
        refine wpMix2_done ?_
        simp only [List.drop_succ_cons, List.drop_nil]
        have HE : Hid (okP G L = false) := hid (by unfold okP; rw [HGB.out, Bool.false_and, Bool.and_false])
        have kr := HCD.out.br
        have r0 := cell_laid (i := 0) kr rfl
        have rf := free_laid (i := 0) kr
        have HP := hid (HCD.out.put 320 HORD.out.1 HORD.out.2)
        clear kr
        go_wp2
        refine leaves_none (Check_result HP.out.br rfl) ⟨?_, HP.out.below⟩
        rw [← HRV.out, HE.out]
        rfl
      | true =>
        refine wp_region_mix2 (fun W => ∃ z : Ext D0, W = z.v) 18 (.q 0 (.q 1 (.q 2 (.q 3 (.q 4 (.q 5 (.q 6 (.q 7 (.q 8 (.q 9 (.q 10 (.q 11 (.q 12 (.q 13 (.q 14 (.q 15 (.h 16 (.q 17 (.done))))))))))))))))))) (by kernel_rfl) (by kernel_rfl) (by rw [HD.out]; exact ⟨⟨D0, Below.refl _ _⟩, rfl⟩) ?_
        rw [HD.out]
        repeat (refine wpMix2_q rfl rfl ?_; go_big_quiet_step (fail); refine wpQuiet_nil ?_)
        refine wpMix2_h rfl fun R' hR' hO => ?_
        go_wp2_with fail
        refine (HSH.out X D0 (cells16 HCD.out.bx)).mono ?_
        rintro e w8 ⟨rfl, hw8⟩
        subst hw8
        go_wp2
        refine hR' _ _ ⟨⟨w8, Below.refl _ _⟩, rfl⟩ ?_
        clear hR' hO R'
        repeat (refine wpMix2_q rfl rfl ?_; go_big_quiet_step (fail); refine wpQuiet_nil ?_)
        refine wpMix2_done ?_
        simp only [List.drop_succ_cons, List.drop_nil]
        clear x16 g0 g1 g2 g3 f0 f1 f2 f3 heq tn
        have y0' := cell_laid (i := 0) HCD.out.by_ rfl
        have HLV := hid (living_any T w8)
        go_wp2_with fail
        refine HLV.out.mono ?_
        rintro e w ⟨Y2, rfl, hVY, hY, hbY⟩
        have HY2 := hid hY
        have HCW := hid (HCD.out.grow hbY)
        have hY2w : Y2 < w.heap.size := lt_laid hY
        have hFY : F < Y2 := by have := lt_laid HCD.out.bf; omega
        have hTw : T < w.heap.size := by have := lt_laid HCW.out.bt; omega
        have hVw := HCW.out.below.size
        have HGW : Hid (∀ i, i < 16 → 0 ≤ G i ∧ G i ≤ 65536) := hid (fun i hi => by
          have := HGB.out
          unfold gensB at this
          simpa using List.all_eq_true.1 this i (List.mem_range.2 hi))
        obtain ⟨hXR, hRT, hTY, hYF⟩ := HORD.out.1
        have hVR := HORD.out.2
        clear hVY hY hbY y0' HSH HCD HD HLV
        go_wp2
        refine wp_range (Bs := Y2) (gf := 58) (lb := #[.pointer (some ⟨Y2, 0, none⟩)]) rfl (enters_of Tryd.func58 (by kernel_rfl) rfl)
          (living_seq Y2 T Y2 _ n c b off (some ⟨b, off, none⟩) G 65 (fun k => k = Y2 ∨ k = T) (.inr rfl) hn5 hnc hlen.2 (.inl rfl) (.inr rfl)) (fun k hk => by rcases hk with rfl | rfl <;> omega) hY2w
          (fun o o' => ?hR) (fun _ => rfl)
          (fun pre W => (∀ i ∈ pre, badAt G L i.val = false) ∧ ChI V X R T Y F w.heap.size #[.int .i64 (G 0), .int .i64 (G 1), .int .i64 (G 2), .int .i64 (G 3), .int .i64 (G 4), .int .i64 (G 5), .int .i64 (G 6), .int .i64 (G 7), .int .i64 (G 8), .int .i64 (G 9), .int .i64 (G 10), .int .i64 (G 11), .int .i64 (G 12), .int .i64 (G 13), .int .i64 (G 14), .int .i64 (G 15), .slice (some ⟨b, off, none⟩) n c] 0 W)
          (fun cc pre W => cc = .ret ∧ (∃ i ∈ pre, badAt G L i.val = true) ∧ ChI V X R T Y F w.heap.size #[.int .i64 (G 0), .int .i64 (G 1), .int .i64 (G 2), .int .i64 (G 3), .int .i64 (G 4), .int .i64 (G 5), .int .i64 (G 6), .int .i64 (G 7), .int .i64 (G 8), .int .i64 (G 9), .int .i64 (G 10), .int .i64 (G 11), .int .i64 (G 12), .int .i64 (G 13), .int .i64 (G 14), .int .i64 (G 15), .slice (some ⟨b, off, none⟩) n c] 320 W)
          ?hI ?hIx ?h0 (fun t i => (t.setIfInBounds 34 (.int .i64 ((i.val : Nat) : Int))).setIfInBounds 35 (.pointer (some ⟨b, off + i.val * 4, none⟩)) |>.setIfInBounds 6 (.int .i64 ((i.val : Nat) : Int)) |>.setIfInBounds 7 (.pointer (some ⟨b, off + i.val * 4, none⟩))) ?assign ?body ?done ?stop
        case hR =>
          have g1 := (Below.refl w.heap.size w).alloc (Nat.le_refl _) o
          have g2 : Below w.heap.size w ((w.alloc o).alloc o') := g1.alloc (Nat.le_of_lt (by simp)) o'
          exact ⟨keep_laid HY2.out g2, _, fun _ => trivial, keep_laid HCW.out.bt g2, rfl⟩
        case hI => exact fun s A B row hs hg hr => ⟨hs.1, hs.2.abide hg hr ⟨by omega, by omega, by omega, by omega, by omega⟩ (by omega) hVw⟩
        case hIx => exact fun cc s A B row hs hg hr => ⟨hs.1, hs.2.1, hs.2.2.abide hg hr ⟨by omega, by omega, by omega, by omega, by omega⟩ (by omega) hVw⟩
        case h0 => exact ⟨(fun i hi => nomatch hi), HCW.out.bx, HCW.out.br, HCW.out.bt, HCW.out.by_, HCW.out.bf, HCW.out.below, Nat.le_refl _⟩
        case assign =>
          intro l y W K hK
          gi_wp2
          exact hK
        case done =>
          rintro D xs W hD hxs ⟨hall, hO⟩ hK
          have HE : Hid (okP G L = true) := hid (by
            unfold okP
            rw [HL0.out, HY.out, HGB.out, decide_eq_true rfl, Bool.true_and, Bool.true_and, List.all_eq_true]
            intro i hi
            obtain ⟨h', hm⟩ := val_inj hxs i (by rw [← HN.out]; exact List.mem_range.1 hi)
            rw [hall _ hm]; rfl)
          have KK := hid hK
          have r0 := cell_laid (i := 0) hO.br rfl
          have rf := free_laid (i := 0) hO.br
          have HP := hid (hO.put 0 HORD.out.1 HORD.out.2)
          have hDR : D ≠ R := by omega
          have KK2 := hid (other_laid (i := 0) hK hDR (.int .i64 0))
          clear hK hO hall hxs
          go_wp2
          refine leaves_mark KK2.out (Check_result (mark_other HP.out.br KK2.out _) rfl) ⟨?_, below_mark HP.out.below (by omega) KK2.out⟩
          rw [← HRV.out, HE.out]
          rfl
        case stop =>
          rintro D cc pre W hD - ⟨rfl, ⟨i, hi, hbad⟩, hO⟩ hK
          have HE : Hid (okP G L = false) := hid (by
            unfold okP
            rw [show (List.range L.length).all (fun i => !badAt G L i) = false from List.all_eq_false.2 ⟨i.val, List.mem_range.2 (by rw [HN.out]; exact i.2), by rw [hbad]; decide⟩, Bool.and_false, Bool.and_false])
          have KK := hid hK
          have HO := hid hO
          clear hK hO hi hbad
          go_wp2
          refine leaves_mark KK.out (Check_result (mark_other HO.out.br KK.out _) rfl) ⟨?_, below_mark HO.out.below (by omega) KK.out⟩
          rw [← HRV.out, HE.out]
          rfl
        case body =>
          rintro l pre ⟨i, hin⟩ W ⟨hall, hO⟩ hlen2
          dsimp only
          obtain ⟨⟨p, pp, dd, pc⟩, hx⟩ : ∃ x, L[i]? = some x := ⟨_, List.getElem?_eq_getElem (by rw [HN.out]; exact hin)⟩
          have hxo := HLO.out _ (List.mem_of_getElem? hx)
          obtain ⟨b', off', hab, -, hcx⟩ := HL.out.pr hin hx
          simp only [Option.some.injEq, Addr.mk.injEq, and_true] at hab
          obtain ⟨rfl, rfl⟩ := hab
          have HO := hid hO
          have HALL := hid hall
          have HX := hid hx
          have HCX := hid hcx
          obtain ⟨f0, f1, f2, f3⟩ := hcx W hO.below
          obtain ⟨hp64, hpp64, hpc64⟩ := hxo
          dsimp only at hp64 hpp64 hpc64 f0 f1 f2 f3
          obtain ⟨q, hq⟩ : ∃ q, p % 64 = q := ⟨_, rfl⟩
          have hq64 : q < 64 := by omega
          have HQ := hid hq
          have HIX := hid (index_any p W hp64)
          rw [hq] at HIX
          obtain ⟨dv, hdv⟩ : ∃ dv, p / 64 = dv := ⟨_, rfl⟩
          have HDV := hid hdv
          have hdvb : dv < 288230376151711744 := by omega
          have htd : ((p : Nat) : Int).tdiv 64 = ((dv : Nat) : Int) := by rw [← hdv]; rfl
          clear hO hall hx hcx hq hdv
          gi_wp2_with fail
          refine ⟨trivial, ?_⟩
          refine (CallsIn.inRound l (callsIn_wide.2 HIX.out)).mono ?_
          rintro e W1 ⟨rfl, hb1⟩
          have HBW1 := hid hb1
          have HB1 := hid HBW1.out
          clear hb1 f0 f1 f2 f3 HIX
          by_cases h1 : q < 1
          · have t1 : decide ((1 : Int) ≤ ((q : Nat) : Int)) = false := decide_eq_false (by omega)
            have HROW : Hid (rowB L i (p, pp, dd, pc) = false) := hid (by unfold rowB; dsimp only; rw [HQ.out, decide_eq_false (by omega : ¬ 1 ≤ q)]; rfl)
            gi_wp2
            all_goals (first | (rename_i hu _; cases hu; done) | skip)
            first | refine ⟨trivial, ?_⟩ | refine ⟨(fun f hf => nomatch hf), ?_⟩
            gi_wp2
            obtain ⟨D11, hD⟩ : ∃ DX, (W1).drew = DX := ⟨_, rfl⟩
            have hbD : Below W1.heap.size W1 D11 := by rw [← hD]; exact (Below.refl _ _).drew
            have HD := hid hD
            have HBD11 := hid (step HBW1.out hbD)
            clear hD hbD
            have HOD11 := hid (HO.out.grow HBD11.out)
            try simp only [List.setIfInBounds_toArray, List.set_cons_succ, List.set_cons_zero]
            refine wpIn_region_mix2 (fun W => ∃ z : Ext D11, W = z.v) 44 (.q 0 (.q 1 (.q 2 (.q 3 (.q 4 (.q 5 (.q 6 (.q 7 (.q 8 (.q 9 (.q 10 (.q 11 (.q 12 (.q 13 (.q 14 (.q 15 (.q 16 (.q 17 (.q 18 (.q 19 (.q 20 (.q 21 (.q 22 (.q 23 (.q 24 (.q 25 (.q 26 (.q 27 (.q 28 (.q 29 (.q 30 (.q 31 (.q 32 (.q 33 (.q 34 (.q 35 (.q 36 (.q 37 (.q 38 (.q 39 (.q 40 (.q 41 (.q 42 (.q 43 (.done))))))))))))))))))))))))))))))))))))))))))))) (by rintro ⟨a, w, h⟩; exact h) (by kernel_rfl) (by kernel_rfl) (by kernel_rfl) (by rw [HD.out]; exact ⟨⟨D11, Below.refl _ _⟩, rfl⟩) ?_
            rw [HD.out]
            repeat (refine wpMix2_q rfl rfl ?_; go_big_quiet_step (fail); refine wpQuiet_nil ?_)
            refine wpMix2_done ?_
            simp only [List.drop_succ_cons, List.drop_nil]
            rename_i K hK
            refine hK _ _ ?_
            clear hK K
            have HBAD : Hid (badAt G L i = true) := hid (by unfold badAt; rw [HX.out]; dsimp only; unfold bad1; rw [HROW.out]; rfl)
            have r0 := cell_laid (i := 0) HOD11.out.br rfl
            have rf := free_laid (i := 0) HOD11.out.br
            have HP := hid (HOD11.out.put 320 HORD.out.1 HORD.out.2)
            gi_wp2
            exact ⟨(keepsOthers_of_below HBD11.out).trans (KeepsOthers.setCell _ _ _), rfl, ⟨⟨i, hin⟩, by simp, HBAD.out⟩, HP.out⟩
          · have t1 : decide ((1 : Int) ≤ ((q : Nat) : Int)) = true := decide_eq_true (by omega)
            by_cases h16 : q ≤ 16
            · have t16 : decide (((q : Nat) : Int) ≤ 16) = true := decide_eq_true (by omega)
              by_cases hi0 : i = 0
              · have ti : (((i : Nat) : Int) == 0) = true := by simp; omega
                have HROW : Hid (rowB L i (p, pp, dd, pc) = true) := hid (by unfold rowB; dsimp only; rw [HQ.out, decide_eq_true (by omega : 1 ≤ q), decide_eq_true h16, decide_eq_true hi0]; rfl)
                have HI0 := hid hi0
                clear hi0
                gi_wp2
                all_goals (first | (rename_i hu _; cases hu; done) | skip)
                first | refine ⟨trivial, ?_⟩ | refine ⟨(fun f hf => nomatch hf), ?_⟩
                gi_wp2
                obtain ⟨m, hm⟩ : ∃ m, q = m + 1 := ⟨q - 1, by omega⟩
                have hqm : ((q : Nat) : Int) - 1 = ((m : Nat) : Int) := by omega
                have hm16 : m < 16 := by omega
                have HQM : Hid (p % 64 - 1 = m) := hid (by have := HQ.out; omega)
                clear hm
                have hG0 := HGW.out m hm16
                obtain ⟨gm, hgm⟩ : ∃ g, G m = g := ⟨_, rfl⟩
                have HGM := hid hgm
                rw [hgm] at hG0
                have hwg : IntKind.u64.wrap gm = gm := u64_wrap hG0.1 (by omega)
                clear hgm
                obtain ⟨D11, hD⟩ : ∃ DX, (W1).drew = DX := ⟨_, rfl⟩
                have hbD : Below W1.heap.size W1 D11 := by rw [← hD]; exact (Below.refl _ _).drew
                have HD := hid hD
                have HBD11 := hid (step HBW1.out hbD)
                clear hD hbD
                have HOD11 := hid (HO.out.grow HBD11.out)
                by_cases hge : ((dv : Nat) : Int) + 1 = gm
                · skip
                  have tg : ((((dv : Nat) : Int) + 1) != gm) = false := by simp; omega
                  have HGE : Hid (((p / 64 + 1 : Nat) : Int) = G (p % 64 - 1)) := hid (by rw [HQM.out, HGM.out, HDV.out]; omega)
                  clear hge
                  cases dd with
                  | true =>
                    by_cases hp0 : pp = 0
                    · have tp : (((pp : Nat) : Int) == 0) = true := by simp; omega
                      have fg : ∀ z : Ext D11, z.v.cell? ⟨X, m, none⟩ = some (.int .i64 gm) := fun z => by rw [← HGM.out]; exact cells16 (keep_laid HOD11.out.bx z.b) m hm16
                      have f0 : ∀ z : Ext D11, z.v.cell? ⟨b, off + i * 4, none⟩ = some (.int .u64 ((p : Nat) : Int)) := fun z => (HCX.out z.v (HOD11.out.below.trans (z.b.mono HOD11.out.below.size))).1
                      have f1 : ∀ z : Ext D11, z.v.cell? ⟨b, off + i * 4 + 1, none⟩ = some (.int .u64 ((pp : Nat) : Int)) := fun z => (HCX.out z.v (HOD11.out.below.trans (z.b.mono HOD11.out.below.size))).2.1
                      have f2 : ∀ z : Ext D11, z.v.cell? ⟨b, off + i * 4 + 2, none⟩ = some (.bool true) := fun z => (HCX.out z.v (HOD11.out.below.trans (z.b.mono HOD11.out.below.size))).2.2.1
                      have f3 : ∀ z : Ext D11, z.v.cell? ⟨b, off + i * 4 + 3, none⟩ = some (.int .u64 ((pc : Nat) : Int)) := fun z => (HCX.out z.v (HOD11.out.below.trans (z.b.mono HOD11.out.below.size))).2.2.2
                      try simp only [List.setIfInBounds_toArray, List.set_cons_succ, List.set_cons_zero]
                      refine wpIn_region_mix2 (fun W => ∃ z : Ext D11, W = z.v) 44 (.q 0 (.q 1 (.q 2 (.q 3 (.q 4 (.q 5 (.q 6 (.q 7 (.q 8 (.q 9 (.q 10 (.q 11 (.q 12 (.q 13 (.q 14 (.q 15 (.q 16 (.q 17 (.q 18 (.q 19 (.q 20 (.q 21 (.q 22 (.q 23 (.q 24 (.q 25 (.q 26 (.q 27 (.q 28 (.q 29 (.q 30 (.q 31 (.q 32 (.q 33 (.q 34 (.q 35 (.q 36 (.q 37 (.q 38 (.q 39 (.q 40 (.q 41 (.q 42 (.q 43 (.done))))))))))))))))))))))))))))))))))))))))))))) (by rintro ⟨a, w, h⟩; exact h) (by kernel_rfl) (by kernel_rfl) (by kernel_rfl) (by rw [HD.out]; exact ⟨⟨D11, Below.refl _ _⟩, rfl⟩) ?_
                      rw [HD.out]
                      repeat (refine wpMix2_q rfl rfl ?_; go_big_quiet_step (fail); refine wpQuiet_nil ?_)
                      refine wpMix2_done ?_
                      simp only [List.drop_succ_cons, List.drop_nil]
                      rename_i K hK
                      refine hK _ _ ?_
                      clear hK K
                      clear f0 f1 f2 f3 fg
                      have HBAD : Hid (badAt G L i = true) := hid (by unfold badAt; rw [HX.out]; dsimp only; unfold bad1; rw [decide_eq_true hp0]; simp)
                      have r0 := cell_laid (i := 0) HOD11.out.br rfl
                      have rf := free_laid (i := 0) HOD11.out.br
                      have HP := hid (HOD11.out.put 320 HORD.out.1 HORD.out.2)
                      gi_wp2
                      exact ⟨(keepsOthers_of_below HBD11.out).trans (KeepsOthers.setCell _ _ _), rfl, ⟨⟨i, hin⟩, by simp, HBAD.out⟩, HP.out⟩
                    · have tp : (((pp : Nat) : Int) == 0) = false := by simp; omega
                      have fg : ∀ z : Ext D11, z.v.cell? ⟨X, m, none⟩ = some (.int .i64 gm) := fun z => by rw [← HGM.out]; exact cells16 (keep_laid HOD11.out.bx z.b) m hm16
                      have f0 : ∀ z : Ext D11, z.v.cell? ⟨b, off + i * 4, none⟩ = some (.int .u64 ((p : Nat) : Int)) := fun z => (HCX.out z.v (HOD11.out.below.trans (z.b.mono HOD11.out.below.size))).1
                      have f1 : ∀ z : Ext D11, z.v.cell? ⟨b, off + i * 4 + 1, none⟩ = some (.int .u64 ((pp : Nat) : Int)) := fun z => (HCX.out z.v (HOD11.out.below.trans (z.b.mono HOD11.out.below.size))).2.1
                      have f2 : ∀ z : Ext D11, z.v.cell? ⟨b, off + i * 4 + 2, none⟩ = some (.bool true) := fun z => (HCX.out z.v (HOD11.out.below.trans (z.b.mono HOD11.out.below.size))).2.2.1
                      have f3 : ∀ z : Ext D11, z.v.cell? ⟨b, off + i * 4 + 3, none⟩ = some (.int .u64 ((pc : Nat) : Int)) := fun z => (HCX.out z.v (HOD11.out.below.trans (z.b.mono HOD11.out.below.size))).2.2.2
                      try simp only [List.setIfInBounds_toArray, List.set_cons_succ, List.set_cons_zero]
                      refine wpIn_region_mix2 (fun W => ∃ z : Ext D11, W = z.v) 44 (.q 0 (.q 1 (.q 2 (.q 3 (.q 4 (.q 5 (.q 6 (.q 7 (.q 8 (.q 9 (.q 10 (.q 11 (.q 12 (.q 13 (.q 14 (.q 15 (.q 16 (.q 17 (.q 18 (.q 19 (.q 20 (.q 21 (.q 22 (.q 23 (.q 24 (.q 25 (.q 26 (.q 27 (.q 28 (.q 29 (.q 30 (.q 31 (.q 32 (.q 33 (.q 34 (.q 35 (.q 36 (.q 37 (.q 38 (.q 39 (.q 40 (.q 41 (.q 42 (.q 43 (.done))))))))))))))))))))))))))))))))))))))))))))) (by rintro ⟨a, w, h⟩; exact h) (by kernel_rfl) (by kernel_rfl) (by kernel_rfl) (by rw [HD.out]; exact ⟨⟨D11, Below.refl _ _⟩, rfl⟩) ?_
                      rw [HD.out]
                      repeat (refine wpMix2_q rfl rfl ?_; go_big_quiet_step (fail); refine wpQuiet_nil ?_)
                      refine wpMix2_done ?_
                      simp only [List.drop_succ_cons, List.drop_nil]
                      rename_i K hK
                      refine hK _ _ ?_
                      clear hK K
                      clear f0 f1 f2 f3 fg
                      have HB1F : Hid (bad1 G L i (p, pp, true, pc) = false) := hid (by unfold bad1; dsimp only; rw [HROW.out, HGE.out, decide_eq_false hp0]; simp)
                      clear tp
                      have tp : (((pp : Nat) : Int) != 0) = true := by simp; omega
                      have HP0 := hid hp0
                      clear hp0
                      by_cases hpe : pp = p
                      · have te : (((pp : Nat) : Int) == ((p : Nat) : Int)) = true := by simp; omega
                        have HPE := hid hpe
                        clear hpe
                        gi_wp2
                        obtain ⟨D13, hD⟩ : ∃ DX, (D11).drew = DX := ⟨_, rfl⟩
                        have hbD : Below D11.heap.size D11 D13 := by rw [← hD]; exact (Below.refl _ _).drew
                        have HD := hid hD
                        have HBD13 := hid (step HBD11.out hbD)
                        clear hD hbD
                        have HOD13 := hid (HO.out.grow HBD13.out)
                        have f0 : ∀ z : Ext D13, z.v.cell? ⟨b, off + i * 4, none⟩ = some (.int .u64 ((p : Nat) : Int)) := fun z => (HCX.out z.v (HOD13.out.below.trans (z.b.mono HOD13.out.below.size))).1
                        have f1 : ∀ z : Ext D13, z.v.cell? ⟨b, off + i * 4 + 1, none⟩ = some (.int .u64 ((pp : Nat) : Int)) := fun z => (HCX.out z.v (HOD13.out.below.trans (z.b.mono HOD13.out.below.size))).2.1
                        try simp only [List.setIfInBounds_toArray, List.set_cons_succ, List.set_cons_zero]
                        refine wpIn_region_mix2 (fun W => ∃ z : Ext D13, W = z.v) 25 (.q 0 (.q 1 (.q 2 (.q 3 (.q 4 (.q 5 (.q 6 (.q 7 (.q 8 (.q 9 (.q 10 (.q 11 (.q 12 (.q 13 (.q 14 (.q 15 (.q 16 (.q 17 (.q 18 (.q 19 (.q 20 (.h 21 (.q 22 (.q 23 (.q 24 (.done)))))))))))))))))))))))))) (by rintro ⟨a, w, h⟩; exact h) (by kernel_rfl) (by kernel_rfl) (by kernel_rfl) (by rw [HD.out]; exact ⟨⟨D13, Below.refl _ _⟩, rfl⟩) ?_
                        rw [HD.out]
                        repeat (refine wpMix2_q rfl rfl ?_; go_big_quiet_step (fail); refine wpQuiet_nil ?_)
                        refine wpMix2_h rfl fun R' hR' hO => ?_
                        go_wp2
                        refine hR' _ _ ⟨⟨D13, Below.refl _ _⟩, rfl⟩ ?_
                        clear hR' hO R'
                        repeat (refine wpMix2_q rfl rfl ?_; go_big_quiet_step (fail); refine wpQuiet_nil ?_)
                        refine wpMix2_done ?_
                        simp only [List.drop_succ_cons, List.drop_nil]
                        rename_i K hK
                        refine hK _ _ ?_
                        clear hK K
                        clear f0 f1
                        have HBAD : Hid (badAt G L i = true) := hid (by unfold badAt; rw [HX.out]; dsimp only; unfold bad2; rw [decide_eq_true (by simpa using HP0.out), decide_eq_true HPE.out, Bool.true_or, Bool.and_true, Bool.or_true])
                        have r0 := cell_laid (i := 0) HOD13.out.br rfl
                        have rf := free_laid (i := 0) HOD13.out.br
                        have HP := hid (HOD13.out.put 320 HORD.out.1 HORD.out.2)
                        gi_wp2
                        exact ⟨(keepsOthers_of_below HBD13.out).trans (KeepsOthers.setCell _ _ _), rfl, ⟨⟨i, hin⟩, by simp, HBAD.out⟩, HP.out⟩
                      · have te : (((pp : Nat) : Int) == ((p : Nat) : Int)) = false := by simp; omega
                        have HPE := hid hpe
                        clear hpe
                        gi_wp2
                        obtain ⟨D13, hD⟩ : ∃ DX, (D11).drew = DX := ⟨_, rfl⟩
                        have hbD : Below D11.heap.size D11 D13 := by rw [← hD]; exact (Below.refl _ _).drew
                        have HD := hid hD
                        have HBD13 := hid (step HBD11.out hbD)
                        clear hD hbD
                        have HOD13 := hid (HO.out.grow HBD13.out)
                        have f0 : ∀ z : Ext D13, z.v.cell? ⟨b, off + i * 4, none⟩ = some (.int .u64 ((p : Nat) : Int)) := fun z => (HCX.out z.v (HOD13.out.below.trans (z.b.mono HOD13.out.below.size))).1
                        have f1 : ∀ z : Ext D13, z.v.cell? ⟨b, off + i * 4 + 1, none⟩ = some (.int .u64 ((pp : Nat) : Int)) := fun z => (HCX.out z.v (HOD13.out.below.trans (z.b.mono HOD13.out.below.size))).2.1
                        have l4 : ∀ z : Ext D13, z.v.cell? ⟨F, 0, none⟩ = some (.func (.func 46) #[] #[.pointer (some ⟨Y, 0, none⟩)]) := fun z => cell_laid (keep_laid HOD13.out.bf z.b) rfl
                        have HRU := hid (runs1_any T Y n c pp (some ⟨b, off, none⟩) G L D13 HOD13.out.by_ HOD13.out.bt (HL.out.grow HOD13.out.below) HN.out hn5)
                        obtain ⟨RB, hRB⟩ : ∃ B, runsB L pp = B := ⟨_, rfl⟩
                        rw [hRB] at HRU
                        have HRB := hid hRB
                        clear hRB
                        try simp only [List.setIfInBounds_toArray, List.set_cons_succ, List.set_cons_zero]
                        refine wpIn_region_mix2 (fun W => ∃ z : Ext D13, W = z.v) 25 (.q 0 (.q 1 (.q 2 (.q 3 (.q 4 (.q 5 (.q 6 (.q 7 (.q 8 (.q 9 (.q 10 (.q 11 (.q 12 (.q 13 (.q 14 (.q 15 (.q 16 (.q 17 (.q 18 (.q 19 (.q 20 (.h 21 (.q 22 (.q 23 (.q 24 (.done)))))))))))))))))))))))))) (by rintro ⟨a, w, h⟩; exact h) (by kernel_rfl) (by kernel_rfl) (by kernel_rfl) (by rw [HD.out]; exact ⟨⟨D13, Below.refl _ _⟩, rfl⟩) ?_
                        rw [HD.out]
                        repeat (refine wpMix2_q rfl rfl ?_; go_big_quiet_step (fail); refine wpQuiet_nil ?_)
                        refine wpMix2_h rfl fun R' hR' hO => ?_
                        go_wp2_with fail
                        refine HRU.out.mono ?_
                        rintro e D14 ⟨rfl, hb14⟩
                        have HBD14 := hid (step HBD13.out hb14)
                        have HOD14 := hid (HOD13.out.grow hb14)
                        go_wp2
                        refine hR' _ _ ⟨⟨D14, hb14⟩, rfl⟩ ?_
                        clear hR' hO R' hb14
                        repeat (refine wpMix2_q rfl rfl ?_; go_big_quiet_step (fail); refine wpQuiet_nil ?_)
                        refine wpMix2_done ?_
                        simp only [List.drop_succ_cons, List.drop_nil]
                        rename_i K hK
                        refine hK _ _ ?_
                        clear hK K
                        clear f0 f1 l4 HRU
                        cases RB with
                        | true =>
                          have HGOOD : Hid (badAt G L i = false) := hid (by unfold badAt; rw [HX.out]; dsimp only; rw [HB1F.out]; unfold bad2; rw [decide_eq_false HPE.out, HRB.out]; simp)
                          gi_wp2
                          exact ⟨keepsOthers_of_below HBD14.out, (fun k hk => HBD14.out.block k (by have := HO.out.sz; rcases hk with rfl | rfl <;> omega)), (fun i' hi' => by
                            rcases List.mem_append.1 hi' with h | h
                            · exact HALL.out i' h
                            · rw [List.mem_singleton] at h
                              subst h
                              exact HGOOD.out), HOD14.out⟩
                        | false =>
                          have HBAD : Hid (badAt G L i = true) := hid (by unfold badAt; rw [HX.out]; dsimp only; unfold bad2; rw [decide_eq_true (by simpa using HP0.out), HRB.out]; simp)
                          have r0 := cell_laid (i := 0) HOD14.out.br rfl
                          have rf := free_laid (i := 0) HOD14.out.br
                          have HP := hid (HOD14.out.put 320 HORD.out.1 HORD.out.2)
                          gi_wp2
                          exact ⟨(keepsOthers_of_below HBD14.out).trans (KeepsOthers.setCell _ _ _), rfl, ⟨⟨i, hin⟩, by simp, HBAD.out⟩, HP.out⟩
                  | false =>
                    by_cases hc0 : pc = 0
                    · have tc : (((pc : Nat) : Int) != 0) = false := by simp; omega
                      have fg : ∀ z : Ext D11, z.v.cell? ⟨X, m, none⟩ = some (.int .i64 gm) := fun z => by rw [← HGM.out]; exact cells16 (keep_laid HOD11.out.bx z.b) m hm16
                      have f0 : ∀ z : Ext D11, z.v.cell? ⟨b, off + i * 4, none⟩ = some (.int .u64 ((p : Nat) : Int)) := fun z => (HCX.out z.v (HOD11.out.below.trans (z.b.mono HOD11.out.below.size))).1
                      have f1 : ∀ z : Ext D11, z.v.cell? ⟨b, off + i * 4 + 1, none⟩ = some (.int .u64 ((pp : Nat) : Int)) := fun z => (HCX.out z.v (HOD11.out.below.trans (z.b.mono HOD11.out.below.size))).2.1
                      have f2 : ∀ z : Ext D11, z.v.cell? ⟨b, off + i * 4 + 2, none⟩ = some (.bool false) := fun z => (HCX.out z.v (HOD11.out.below.trans (z.b.mono HOD11.out.below.size))).2.2.1
                      have f3 : ∀ z : Ext D11, z.v.cell? ⟨b, off + i * 4 + 3, none⟩ = some (.int .u64 ((pc : Nat) : Int)) := fun z => (HCX.out z.v (HOD11.out.below.trans (z.b.mono HOD11.out.below.size))).2.2.2
                      try simp only [List.setIfInBounds_toArray, List.set_cons_succ, List.set_cons_zero]
                      refine wpIn_region_mix2 (fun W => ∃ z : Ext D11, W = z.v) 44 (.q 0 (.q 1 (.q 2 (.q 3 (.q 4 (.q 5 (.q 6 (.q 7 (.q 8 (.q 9 (.q 10 (.q 11 (.q 12 (.q 13 (.q 14 (.q 15 (.q 16 (.q 17 (.q 18 (.q 19 (.q 20 (.q 21 (.q 22 (.q 23 (.q 24 (.q 25 (.q 26 (.q 27 (.q 28 (.q 29 (.q 30 (.q 31 (.q 32 (.q 33 (.q 34 (.q 35 (.q 36 (.q 37 (.q 38 (.q 39 (.q 40 (.q 41 (.q 42 (.q 43 (.done))))))))))))))))))))))))))))))))))))))))))))) (by rintro ⟨a, w, h⟩; exact h) (by kernel_rfl) (by kernel_rfl) (by kernel_rfl) (by rw [HD.out]; exact ⟨⟨D11, Below.refl _ _⟩, rfl⟩) ?_
                      rw [HD.out]
                      repeat (refine wpMix2_q rfl rfl ?_; go_big_quiet_step (fail); refine wpQuiet_nil ?_)
                      refine wpMix2_done ?_
                      simp only [List.drop_succ_cons, List.drop_nil]
                      rename_i K hK
                      refine hK _ _ ?_
                      clear hK K
                      clear f0 f1 f2 f3 fg
                      have HB1F : Hid (bad1 G L i (p, pp, false, pc) = false) := hid (by unfold bad1; dsimp only; rw [HROW.out, HGE.out, decide_eq_false (show ¬ (pc ≠ 0) from fun h => h hc0)]; simp)
                      clear tc
                      by_cases hp0 : pp = 0
                      · have tp : (((pp : Nat) : Int) != 0) = false := by simp; omega
                        have HP0 := hid hp0
                        clear hp0
                        gi_wp2
                        obtain ⟨D13, hD⟩ : ∃ DX, (D11).drew = DX := ⟨_, rfl⟩
                        have hbD : Below D11.heap.size D11 D13 := by rw [← hD]; exact (Below.refl _ _).drew
                        have HD := hid hD
                        have HBD13 := hid (step HBD11.out hbD)
                        clear hD hbD
                        have HOD13 := hid (HO.out.grow HBD13.out)
                        have f0 : ∀ z : Ext D13, z.v.cell? ⟨b, off + i * 4, none⟩ = some (.int .u64 ((p : Nat) : Int)) := fun z => (HCX.out z.v (HOD13.out.below.trans (z.b.mono HOD13.out.below.size))).1
                        have f1 : ∀ z : Ext D13, z.v.cell? ⟨b, off + i * 4 + 1, none⟩ = some (.int .u64 ((pp : Nat) : Int)) := fun z => (HCX.out z.v (HOD13.out.below.trans (z.b.mono HOD13.out.below.size))).2.1
                        try simp only [List.setIfInBounds_toArray, List.set_cons_succ, List.set_cons_zero]
                        refine wpIn_region_mix2 (fun W => ∃ z : Ext D13, W = z.v) 25 (.q 0 (.q 1 (.q 2 (.q 3 (.q 4 (.q 5 (.q 6 (.q 7 (.q 8 (.q 9 (.q 10 (.q 11 (.q 12 (.q 13 (.q 14 (.q 15 (.q 16 (.q 17 (.q 18 (.q 19 (.q 20 (.h 21 (.q 22 (.q 23 (.q 24 (.done)))))))))))))))))))))))))) (by rintro ⟨a, w, h⟩; exact h) (by kernel_rfl) (by kernel_rfl) (by kernel_rfl) (by rw [HD.out]; exact ⟨⟨D13, Below.refl _ _⟩, rfl⟩) ?_
                        rw [HD.out]
                        repeat (refine wpMix2_q rfl rfl ?_; go_big_quiet_step (fail); refine wpQuiet_nil ?_)
                        refine wpMix2_h rfl fun R' hR' hO => ?_
                        go_wp2
                        refine hR' _ _ ⟨⟨D13, Below.refl _ _⟩, rfl⟩ ?_
                        clear hR' hO R'
                        repeat (refine wpMix2_q rfl rfl ?_; go_big_quiet_step (fail); refine wpQuiet_nil ?_)
                        refine wpMix2_done ?_
                        simp only [List.drop_succ_cons, List.drop_nil]
                        rename_i K hK
                        refine hK _ _ ?_
                        clear hK K
                        clear f0 f1
                        have HGOOD : Hid (badAt G L i = false) := hid (by unfold badAt; rw [HX.out]; dsimp only; rw [HB1F.out]; unfold bad2; rw [decide_eq_false (by simpa using HP0.out)]; rfl)
                        gi_wp2
                        exact ⟨keepsOthers_of_below HBD13.out, (fun k hk => HBD13.out.block k (by have := HO.out.sz; rcases hk with rfl | rfl <;> omega)), (fun i' hi' => by
                          rcases List.mem_append.1 hi' with h | h
                          · exact HALL.out i' h
                          · rw [List.mem_singleton] at h
                            subst h
                            exact HGOOD.out), HOD13.out⟩
                      · have tp : (((pp : Nat) : Int) != 0) = true := by simp; omega
                        have HP0 := hid hp0
                        clear hp0
                        by_cases hpe : pp = p
                        · have te : (((pp : Nat) : Int) == ((p : Nat) : Int)) = true := by simp; omega
                          have HPE := hid hpe
                          clear hpe
                          gi_wp2
                          obtain ⟨D13, hD⟩ : ∃ DX, (D11).drew = DX := ⟨_, rfl⟩
                          have hbD : Below D11.heap.size D11 D13 := by rw [← hD]; exact (Below.refl _ _).drew
                          have HD := hid hD
                          have HBD13 := hid (step HBD11.out hbD)
                          clear hD hbD
                          have HOD13 := hid (HO.out.grow HBD13.out)
                          have f0 : ∀ z : Ext D13, z.v.cell? ⟨b, off + i * 4, none⟩ = some (.int .u64 ((p : Nat) : Int)) := fun z => (HCX.out z.v (HOD13.out.below.trans (z.b.mono HOD13.out.below.size))).1
                          have f1 : ∀ z : Ext D13, z.v.cell? ⟨b, off + i * 4 + 1, none⟩ = some (.int .u64 ((pp : Nat) : Int)) := fun z => (HCX.out z.v (HOD13.out.below.trans (z.b.mono HOD13.out.below.size))).2.1
                          try simp only [List.setIfInBounds_toArray, List.set_cons_succ, List.set_cons_zero]
                          refine wpIn_region_mix2 (fun W => ∃ z : Ext D13, W = z.v) 25 (.q 0 (.q 1 (.q 2 (.q 3 (.q 4 (.q 5 (.q 6 (.q 7 (.q 8 (.q 9 (.q 10 (.q 11 (.q 12 (.q 13 (.q 14 (.q 15 (.q 16 (.q 17 (.q 18 (.q 19 (.q 20 (.h 21 (.q 22 (.q 23 (.q 24 (.done)))))))))))))))))))))))))) (by rintro ⟨a, w, h⟩; exact h) (by kernel_rfl) (by kernel_rfl) (by kernel_rfl) (by rw [HD.out]; exact ⟨⟨D13, Below.refl _ _⟩, rfl⟩) ?_
                          rw [HD.out]
                          repeat (refine wpMix2_q rfl rfl ?_; go_big_quiet_step (fail); refine wpQuiet_nil ?_)
                          refine wpMix2_h rfl fun R' hR' hO => ?_
                          go_wp2
                          refine hR' _ _ ⟨⟨D13, Below.refl _ _⟩, rfl⟩ ?_
                          clear hR' hO R'
                          repeat (refine wpMix2_q rfl rfl ?_; go_big_quiet_step (fail); refine wpQuiet_nil ?_)
                          refine wpMix2_done ?_
                          simp only [List.drop_succ_cons, List.drop_nil]
                          rename_i K hK
                          refine hK _ _ ?_
                          clear hK K
                          clear f0 f1
                          have HBAD : Hid (badAt G L i = true) := hid (by unfold badAt; rw [HX.out]; dsimp only; unfold bad2; rw [decide_eq_true (by simpa using HP0.out), decide_eq_true HPE.out, Bool.true_or, Bool.and_true, Bool.or_true])
                          have r0 := cell_laid (i := 0) HOD13.out.br rfl
                          have rf := free_laid (i := 0) HOD13.out.br
                          have HP := hid (HOD13.out.put 320 HORD.out.1 HORD.out.2)
                          gi_wp2
                          exact ⟨(keepsOthers_of_below HBD13.out).trans (KeepsOthers.setCell _ _ _), rfl, ⟨⟨i, hin⟩, by simp, HBAD.out⟩, HP.out⟩
                        · have te : (((pp : Nat) : Int) == ((p : Nat) : Int)) = false := by simp; omega
                          have HPE := hid hpe
                          clear hpe
                          gi_wp2
                          obtain ⟨D13, hD⟩ : ∃ DX, (D11).drew = DX := ⟨_, rfl⟩
                          have hbD : Below D11.heap.size D11 D13 := by rw [← hD]; exact (Below.refl _ _).drew
                          have HD := hid hD
                          have HBD13 := hid (step HBD11.out hbD)
                          clear hD hbD
                          have HOD13 := hid (HO.out.grow HBD13.out)
                          have f0 : ∀ z : Ext D13, z.v.cell? ⟨b, off + i * 4, none⟩ = some (.int .u64 ((p : Nat) : Int)) := fun z => (HCX.out z.v (HOD13.out.below.trans (z.b.mono HOD13.out.below.size))).1
                          have f1 : ∀ z : Ext D13, z.v.cell? ⟨b, off + i * 4 + 1, none⟩ = some (.int .u64 ((pp : Nat) : Int)) := fun z => (HCX.out z.v (HOD13.out.below.trans (z.b.mono HOD13.out.below.size))).2.1
                          have l4 : ∀ z : Ext D13, z.v.cell? ⟨F, 0, none⟩ = some (.func (.func 46) #[] #[.pointer (some ⟨Y, 0, none⟩)]) := fun z => cell_laid (keep_laid HOD13.out.bf z.b) rfl
                          have HRU := hid (runs1_any T Y n c pp (some ⟨b, off, none⟩) G L D13 HOD13.out.by_ HOD13.out.bt (HL.out.grow HOD13.out.below) HN.out hn5)
                          obtain ⟨RB, hRB⟩ : ∃ B, runsB L pp = B := ⟨_, rfl⟩
                          rw [hRB] at HRU
                          have HRB := hid hRB
                          clear hRB
                          try simp only [List.setIfInBounds_toArray, List.set_cons_succ, List.set_cons_zero]
                          refine wpIn_region_mix2 (fun W => ∃ z : Ext D13, W = z.v) 25 (.q 0 (.q 1 (.q 2 (.q 3 (.q 4 (.q 5 (.q 6 (.q 7 (.q 8 (.q 9 (.q 10 (.q 11 (.q 12 (.q 13 (.q 14 (.q 15 (.q 16 (.q 17 (.q 18 (.q 19 (.q 20 (.h 21 (.q 22 (.q 23 (.q 24 (.done)))))))))))))))))))))))))) (by rintro ⟨a, w, h⟩; exact h) (by kernel_rfl) (by kernel_rfl) (by kernel_rfl) (by rw [HD.out]; exact ⟨⟨D13, Below.refl _ _⟩, rfl⟩) ?_
                          rw [HD.out]
                          repeat (refine wpMix2_q rfl rfl ?_; go_big_quiet_step (fail); refine wpQuiet_nil ?_)
                          refine wpMix2_h rfl fun R' hR' hO => ?_
                          go_wp2_with fail
                          refine HRU.out.mono ?_
                          rintro e D14 ⟨rfl, hb14⟩
                          have HBD14 := hid (step HBD13.out hb14)
                          have HOD14 := hid (HOD13.out.grow hb14)
                          go_wp2
                          refine hR' _ _ ⟨⟨D14, hb14⟩, rfl⟩ ?_
                          clear hR' hO R' hb14
                          repeat (refine wpMix2_q rfl rfl ?_; go_big_quiet_step (fail); refine wpQuiet_nil ?_)
                          refine wpMix2_done ?_
                          simp only [List.drop_succ_cons, List.drop_nil]
                          rename_i K hK
                          refine hK _ _ ?_
                          clear hK K
                          clear f0 f1 l4 HRU
                          cases RB with
                          | true =>
                            have HGOOD : Hid (badAt G L i = false) := hid (by unfold badAt; rw [HX.out]; dsimp only; rw [HB1F.out]; unfold bad2; rw [decide_eq_false HPE.out, HRB.out]; simp)
                            gi_wp2
                            exact ⟨keepsOthers_of_below HBD14.out, (fun k hk => HBD14.out.block k (by have := HO.out.sz; rcases hk with rfl | rfl <;> omega)), (fun i' hi' => by
                              rcases List.mem_append.1 hi' with h | h
                              · exact HALL.out i' h
                              · rw [List.mem_singleton] at h
                                subst h
                                exact HGOOD.out), HOD14.out⟩
                          | false =>
                            have HBAD : Hid (badAt G L i = true) := hid (by unfold badAt; rw [HX.out]; dsimp only; unfold bad2; rw [decide_eq_true (by simpa using HP0.out), HRB.out]; simp)
                            have r0 := cell_laid (i := 0) HOD14.out.br rfl
                            have rf := free_laid (i := 0) HOD14.out.br
                            have HP := hid (HOD14.out.put 320 HORD.out.1 HORD.out.2)
                            gi_wp2
                            exact ⟨(keepsOthers_of_below HBD14.out).trans (KeepsOthers.setCell _ _ _), rfl, ⟨⟨i, hin⟩, by simp, HBAD.out⟩, HP.out⟩
                    · have tc : (((pc : Nat) : Int) != 0) = true := by simp; omega
                      have fg : ∀ z : Ext D11, z.v.cell? ⟨X, m, none⟩ = some (.int .i64 gm) := fun z => by rw [← HGM.out]; exact cells16 (keep_laid HOD11.out.bx z.b) m hm16
                      have f0 : ∀ z : Ext D11, z.v.cell? ⟨b, off + i * 4, none⟩ = some (.int .u64 ((p : Nat) : Int)) := fun z => (HCX.out z.v (HOD11.out.below.trans (z.b.mono HOD11.out.below.size))).1
                      have f1 : ∀ z : Ext D11, z.v.cell? ⟨b, off + i * 4 + 1, none⟩ = some (.int .u64 ((pp : Nat) : Int)) := fun z => (HCX.out z.v (HOD11.out.below.trans (z.b.mono HOD11.out.below.size))).2.1
                      have f2 : ∀ z : Ext D11, z.v.cell? ⟨b, off + i * 4 + 2, none⟩ = some (.bool false) := fun z => (HCX.out z.v (HOD11.out.below.trans (z.b.mono HOD11.out.below.size))).2.2.1
                      have f3 : ∀ z : Ext D11, z.v.cell? ⟨b, off + i * 4 + 3, none⟩ = some (.int .u64 ((pc : Nat) : Int)) := fun z => (HCX.out z.v (HOD11.out.below.trans (z.b.mono HOD11.out.below.size))).2.2.2
                      try simp only [List.setIfInBounds_toArray, List.set_cons_succ, List.set_cons_zero]
                      refine wpIn_region_mix2 (fun W => ∃ z : Ext D11, W = z.v) 44 (.q 0 (.q 1 (.q 2 (.q 3 (.q 4 (.q 5 (.q 6 (.q 7 (.q 8 (.q 9 (.q 10 (.q 11 (.q 12 (.q 13 (.q 14 (.q 15 (.q 16 (.q 17 (.q 18 (.q 19 (.q 20 (.q 21 (.q 22 (.q 23 (.q 24 (.q 25 (.q 26 (.q 27 (.q 28 (.q 29 (.q 30 (.q 31 (.q 32 (.q 33 (.q 34 (.q 35 (.q 36 (.q 37 (.q 38 (.q 39 (.q 40 (.q 41 (.q 42 (.q 43 (.done))))))))))))))))))))))))))))))))))))))))))))) (by rintro ⟨a, w, h⟩; exact h) (by kernel_rfl) (by kernel_rfl) (by kernel_rfl) (by rw [HD.out]; exact ⟨⟨D11, Below.refl _ _⟩, rfl⟩) ?_
                      rw [HD.out]
                      repeat (refine wpMix2_q rfl rfl ?_; go_big_quiet_step (fail); refine wpQuiet_nil ?_)
                      refine wpMix2_done ?_
                      simp only [List.drop_succ_cons, List.drop_nil]
                      rename_i K hK
                      refine hK _ _ ?_
                      clear hK K
                      clear f0 f1 f2 f3 fg
                      have HBAD : Hid (badAt G L i = true) := hid (by unfold badAt; rw [HX.out]; dsimp only; unfold bad1; rw [decide_eq_true (show pc ≠ 0 from hc0)]; simp)
                      have r0 := cell_laid (i := 0) HOD11.out.br rfl
                      have rf := free_laid (i := 0) HOD11.out.br
                      have HP := hid (HOD11.out.put 320 HORD.out.1 HORD.out.2)
                      gi_wp2
                      exact ⟨(keepsOthers_of_below HBD11.out).trans (KeepsOthers.setCell _ _ _), rfl, ⟨⟨i, hin⟩, by simp, HBAD.out⟩, HP.out⟩
                · have tg : ((((dv : Nat) : Int) + 1) != gm) = true := by simp; omega
                  have fg : ∀ z : Ext D11, z.v.cell? ⟨X, m, none⟩ = some (.int .i64 gm) := fun z => by rw [← HGM.out]; exact cells16 (keep_laid HOD11.out.bx z.b) m hm16
                  have f0 : ∀ z : Ext D11, z.v.cell? ⟨b, off + i * 4, none⟩ = some (.int .u64 ((p : Nat) : Int)) := fun z => (HCX.out z.v (HOD11.out.below.trans (z.b.mono HOD11.out.below.size))).1
                  have f1 : ∀ z : Ext D11, z.v.cell? ⟨b, off + i * 4 + 1, none⟩ = some (.int .u64 ((pp : Nat) : Int)) := fun z => (HCX.out z.v (HOD11.out.below.trans (z.b.mono HOD11.out.below.size))).2.1
                  have f2 : ∀ z : Ext D11, z.v.cell? ⟨b, off + i * 4 + 2, none⟩ = some (.bool dd) := fun z => (HCX.out z.v (HOD11.out.below.trans (z.b.mono HOD11.out.below.size))).2.2.1
                  have f3 : ∀ z : Ext D11, z.v.cell? ⟨b, off + i * 4 + 3, none⟩ = some (.int .u64 ((pc : Nat) : Int)) := fun z => (HCX.out z.v (HOD11.out.below.trans (z.b.mono HOD11.out.below.size))).2.2.2
                  try simp only [List.setIfInBounds_toArray, List.set_cons_succ, List.set_cons_zero]
                  refine wpIn_region_mix2 (fun W => ∃ z : Ext D11, W = z.v) 44 (.q 0 (.q 1 (.q 2 (.q 3 (.q 4 (.q 5 (.q 6 (.q 7 (.q 8 (.q 9 (.q 10 (.q 11 (.q 12 (.q 13 (.q 14 (.q 15 (.q 16 (.q 17 (.q 18 (.q 19 (.q 20 (.q 21 (.q 22 (.q 23 (.q 24 (.q 25 (.q 26 (.q 27 (.q 28 (.q 29 (.q 30 (.q 31 (.q 32 (.q 33 (.q 34 (.q 35 (.q 36 (.q 37 (.q 38 (.q 39 (.q 40 (.q 41 (.q 42 (.q 43 (.done))))))))))))))))))))))))))))))))))))))))))))) (by rintro ⟨a, w, h⟩; exact h) (by kernel_rfl) (by kernel_rfl) (by kernel_rfl) (by rw [HD.out]; exact ⟨⟨D11, Below.refl _ _⟩, rfl⟩) ?_
                  rw [HD.out]
                  repeat (refine wpMix2_q rfl rfl ?_; go_big_quiet_step (fail); refine wpQuiet_nil ?_)
                  refine wpMix2_done ?_
                  simp only [List.drop_succ_cons, List.drop_nil]
                  rename_i K hK
                  refine hK _ _ ?_
                  clear hK K
                  clear f0 f1 f2 f3 fg
                  have HBAD : Hid (badAt G L i = true) := hid (by unfold badAt; rw [HX.out]; dsimp only; unfold bad1; rw [decide_eq_true (by rw [HQM.out, HGM.out, HDV.out]; exact fun h => hge (by omega))]; simp)
                  have r0 := cell_laid (i := 0) HOD11.out.br rfl
                  have rf := free_laid (i := 0) HOD11.out.br
                  have HP := hid (HOD11.out.put 320 HORD.out.1 HORD.out.2)
                  gi_wp2
                  exact ⟨(keepsOthers_of_below HBD11.out).trans (KeepsOthers.setCell _ _ _), rfl, ⟨⟨i, hin⟩, by simp, HBAD.out⟩, HP.out⟩
              · have ti : (((i : Nat) : Int) == 0) = false := by simp; omega
                obtain ⟨j, hj⟩ : ∃ j, i = j + 1 := ⟨i - 1, by omega⟩
                have hij : ((i : Nat) : Int) - 1 = ((j : Nat) : Int) := by omega
                have hjn : j < n := by omega
                obtain ⟨⟨r0, r1, r2, r3⟩, hr⟩ : ∃ x, L[j]? = some x := ⟨_, List.getElem?_eq_getElem (by rw [HN.out]; exact hjn)⟩
                have hro := HLO.out _ (List.mem_of_getElem? hr)
                obtain ⟨b2, off2, hab, -, hcr⟩ := HL.out.pr hjn hr
                simp only [Option.some.injEq, Addr.mk.injEq, and_true] at hab
                obtain ⟨rfl, rfl⟩ := hab
                have HO1 := hid (HO.out.grow HB1.out)
                obtain ⟨e0, -, -, -⟩ := hcr W1 HO1.out.below
                dsimp only at e0
                have hx16 := cell_laid (i := 16) HO1.out.bx rfl
                obtain ⟨s, hs⟩ : ∃ s, r0 % 64 = s := ⟨_, rfl⟩
                have hs64 : s < 64 := by omega
                have HIX2 := hid (index_any r0 W1 hro.1)
                rw [hs] at HIX2
                have HROW0 : Hid (rowB L i (p, pp, dd, pc) = decide (s < q)) := hid (by unfold rowB; dsimp only; rw [HQ.out, decide_eq_true (by omega : 1 ≤ q), decide_eq_true h16, decide_eq_false hi0, hj, Nat.add_sub_cancel, List.getD_eq_getElem?_getD, hr, ← hs]; rfl)
                clear hj hr hcr hs hi0
                gi_wp2_with fail
                refine ⟨trivial, ?_⟩
                refine (CallsIn.inRound l (callsIn_wide.2 HIX2.out)).mono ?_
                rintro e W2 ⟨rfl, hb2⟩
                have HBW2 := hid (step HB1.out hb2)
                clear hb2 hx16 e0 HIX2 HO1
                by_cases hsq : s < q
                · have ts : decide (((s : Nat) : Int) < ((q : Nat) : Int)) = true := decide_eq_true (by omega)
                  have HROW : Hid (rowB L i (p, pp, dd, pc) = true) := hid (by rw [HROW0.out]; exact decide_eq_true hsq)
                  clear HROW0
                  gi_wp2
                  obtain ⟨m, hm⟩ : ∃ m, q = m + 1 := ⟨q - 1, by omega⟩
                  have hqm : ((q : Nat) : Int) - 1 = ((m : Nat) : Int) := by omega
                  have hm16 : m < 16 := by omega
                  have HQM : Hid (p % 64 - 1 = m) := hid (by have := HQ.out; omega)
                  clear hm
                  have hG0 := HGW.out m hm16
                  obtain ⟨gm, hgm⟩ : ∃ g, G m = g := ⟨_, rfl⟩
                  have HGM := hid hgm
                  rw [hgm] at hG0
                  have hwg : IntKind.u64.wrap gm = gm := u64_wrap hG0.1 (by omega)
                  clear hgm
                  obtain ⟨D11, hD⟩ : ∃ DX, (W2).drew = DX := ⟨_, rfl⟩
                  have hbD : Below W2.heap.size W2 D11 := by rw [← hD]; exact (Below.refl _ _).drew
                  have HD := hid hD
                  have HBD11 := hid (step HBW2.out hbD)
                  clear hD hbD
                  have HOD11 := hid (HO.out.grow HBD11.out)
                  by_cases hge : ((dv : Nat) : Int) + 1 = gm
                  · skip
                    have tg : ((((dv : Nat) : Int) + 1) != gm) = false := by simp; omega
                    have HGE : Hid (((p / 64 + 1 : Nat) : Int) = G (p % 64 - 1)) := hid (by rw [HQM.out, HGM.out, HDV.out]; omega)
                    clear hge
                    cases dd with
                    | true =>
                      by_cases hp0 : pp = 0
                      · have tp : (((pp : Nat) : Int) == 0) = true := by simp; omega
                        have fg : ∀ z : Ext D11, z.v.cell? ⟨X, m, none⟩ = some (.int .i64 gm) := fun z => by rw [← HGM.out]; exact cells16 (keep_laid HOD11.out.bx z.b) m hm16
                        have f0 : ∀ z : Ext D11, z.v.cell? ⟨b, off + i * 4, none⟩ = some (.int .u64 ((p : Nat) : Int)) := fun z => (HCX.out z.v (HOD11.out.below.trans (z.b.mono HOD11.out.below.size))).1
                        have f1 : ∀ z : Ext D11, z.v.cell? ⟨b, off + i * 4 + 1, none⟩ = some (.int .u64 ((pp : Nat) : Int)) := fun z => (HCX.out z.v (HOD11.out.below.trans (z.b.mono HOD11.out.below.size))).2.1
                        have f2 : ∀ z : Ext D11, z.v.cell? ⟨b, off + i * 4 + 2, none⟩ = some (.bool true) := fun z => (HCX.out z.v (HOD11.out.below.trans (z.b.mono HOD11.out.below.size))).2.2.1
                        have f3 : ∀ z : Ext D11, z.v.cell? ⟨b, off + i * 4 + 3, none⟩ = some (.int .u64 ((pc : Nat) : Int)) := fun z => (HCX.out z.v (HOD11.out.below.trans (z.b.mono HOD11.out.below.size))).2.2.2
                        try simp only [List.setIfInBounds_toArray, List.set_cons_succ, List.set_cons_zero]
                        refine wpIn_region_mix2 (fun W => ∃ z : Ext D11, W = z.v) 44 (.q 0 (.q 1 (.q 2 (.q 3 (.q 4 (.q 5 (.q 6 (.q 7 (.q 8 (.q 9 (.q 10 (.q 11 (.q 12 (.q 13 (.q 14 (.q 15 (.q 16 (.q 17 (.q 18 (.q 19 (.q 20 (.q 21 (.q 22 (.q 23 (.q 24 (.q 25 (.q 26 (.q 27 (.q 28 (.q 29 (.q 30 (.q 31 (.q 32 (.q 33 (.q 34 (.q 35 (.q 36 (.q 37 (.q 38 (.q 39 (.q 40 (.q 41 (.q 42 (.q 43 (.done))))))))))))))))))))))))))))))))))))))))))))) (by rintro ⟨a, w, h⟩; exact h) (by kernel_rfl) (by kernel_rfl) (by kernel_rfl) (by rw [HD.out]; exact ⟨⟨D11, Below.refl _ _⟩, rfl⟩) ?_
                        rw [HD.out]
                        repeat (refine wpMix2_q rfl rfl ?_; go_big_quiet_step (fail); refine wpQuiet_nil ?_)
                        refine wpMix2_done ?_
                        simp only [List.drop_succ_cons, List.drop_nil]
                        rename_i K hK
                        refine hK _ _ ?_
                        clear hK K
                        clear f0 f1 f2 f3 fg
                        have HBAD : Hid (badAt G L i = true) := hid (by unfold badAt; rw [HX.out]; dsimp only; unfold bad1; rw [decide_eq_true hp0]; simp)
                        have r0 := cell_laid (i := 0) HOD11.out.br rfl
                        have rf := free_laid (i := 0) HOD11.out.br
                        have HP := hid (HOD11.out.put 320 HORD.out.1 HORD.out.2)
                        gi_wp2
                        exact ⟨(keepsOthers_of_below HBD11.out).trans (KeepsOthers.setCell _ _ _), rfl, ⟨⟨i, hin⟩, by simp, HBAD.out⟩, HP.out⟩
                      · have tp : (((pp : Nat) : Int) == 0) = false := by simp; omega
                        have fg : ∀ z : Ext D11, z.v.cell? ⟨X, m, none⟩ = some (.int .i64 gm) := fun z => by rw [← HGM.out]; exact cells16 (keep_laid HOD11.out.bx z.b) m hm16
                        have f0 : ∀ z : Ext D11, z.v.cell? ⟨b, off + i * 4, none⟩ = some (.int .u64 ((p : Nat) : Int)) := fun z => (HCX.out z.v (HOD11.out.below.trans (z.b.mono HOD11.out.below.size))).1
                        have f1 : ∀ z : Ext D11, z.v.cell? ⟨b, off + i * 4 + 1, none⟩ = some (.int .u64 ((pp : Nat) : Int)) := fun z => (HCX.out z.v (HOD11.out.below.trans (z.b.mono HOD11.out.below.size))).2.1
                        have f2 : ∀ z : Ext D11, z.v.cell? ⟨b, off + i * 4 + 2, none⟩ = some (.bool true) := fun z => (HCX.out z.v (HOD11.out.below.trans (z.b.mono HOD11.out.below.size))).2.2.1
                        have f3 : ∀ z : Ext D11, z.v.cell? ⟨b, off + i * 4 + 3, none⟩ = some (.int .u64 ((pc : Nat) : Int)) := fun z => (HCX.out z.v (HOD11.out.below.trans (z.b.mono HOD11.out.below.size))).2.2.2
                        try simp only [List.setIfInBounds_toArray, List.set_cons_succ, List.set_cons_zero]
                        refine wpIn_region_mix2 (fun W => ∃ z : Ext D11, W = z.v) 44 (.q 0 (.q 1 (.q 2 (.q 3 (.q 4 (.q 5 (.q 6 (.q 7 (.q 8 (.q 9 (.q 10 (.q 11 (.q 12 (.q 13 (.q 14 (.q 15 (.q 16 (.q 17 (.q 18 (.q 19 (.q 20 (.q 21 (.q 22 (.q 23 (.q 24 (.q 25 (.q 26 (.q 27 (.q 28 (.q 29 (.q 30 (.q 31 (.q 32 (.q 33 (.q 34 (.q 35 (.q 36 (.q 37 (.q 38 (.q 39 (.q 40 (.q 41 (.q 42 (.q 43 (.done))))))))))))))))))))))))))))))))))))))))))))) (by rintro ⟨a, w, h⟩; exact h) (by kernel_rfl) (by kernel_rfl) (by kernel_rfl) (by rw [HD.out]; exact ⟨⟨D11, Below.refl _ _⟩, rfl⟩) ?_
                        rw [HD.out]
                        repeat (refine wpMix2_q rfl rfl ?_; go_big_quiet_step (fail); refine wpQuiet_nil ?_)
                        refine wpMix2_done ?_
                        simp only [List.drop_succ_cons, List.drop_nil]
                        rename_i K hK
                        refine hK _ _ ?_
                        clear hK K
                        clear f0 f1 f2 f3 fg
                        have HB1F : Hid (bad1 G L i (p, pp, true, pc) = false) := hid (by unfold bad1; dsimp only; rw [HROW.out, HGE.out, decide_eq_false hp0]; simp)
                        clear tp
                        have tp : (((pp : Nat) : Int) != 0) = true := by simp; omega
                        have HP0 := hid hp0
                        clear hp0
                        by_cases hpe : pp = p
                        · have te : (((pp : Nat) : Int) == ((p : Nat) : Int)) = true := by simp; omega
                          have HPE := hid hpe
                          clear hpe
                          gi_wp2
                          obtain ⟨D13, hD⟩ : ∃ DX, (D11).drew = DX := ⟨_, rfl⟩
                          have hbD : Below D11.heap.size D11 D13 := by rw [← hD]; exact (Below.refl _ _).drew
                          have HD := hid hD
                          have HBD13 := hid (step HBD11.out hbD)
                          clear hD hbD
                          have HOD13 := hid (HO.out.grow HBD13.out)
                          have f0 : ∀ z : Ext D13, z.v.cell? ⟨b, off + i * 4, none⟩ = some (.int .u64 ((p : Nat) : Int)) := fun z => (HCX.out z.v (HOD13.out.below.trans (z.b.mono HOD13.out.below.size))).1
                          have f1 : ∀ z : Ext D13, z.v.cell? ⟨b, off + i * 4 + 1, none⟩ = some (.int .u64 ((pp : Nat) : Int)) := fun z => (HCX.out z.v (HOD13.out.below.trans (z.b.mono HOD13.out.below.size))).2.1
                          try simp only [List.setIfInBounds_toArray, List.set_cons_succ, List.set_cons_zero]
                          refine wpIn_region_mix2 (fun W => ∃ z : Ext D13, W = z.v) 25 (.q 0 (.q 1 (.q 2 (.q 3 (.q 4 (.q 5 (.q 6 (.q 7 (.q 8 (.q 9 (.q 10 (.q 11 (.q 12 (.q 13 (.q 14 (.q 15 (.q 16 (.q 17 (.q 18 (.q 19 (.q 20 (.h 21 (.q 22 (.q 23 (.q 24 (.done)))))))))))))))))))))))))) (by rintro ⟨a, w, h⟩; exact h) (by kernel_rfl) (by kernel_rfl) (by kernel_rfl) (by rw [HD.out]; exact ⟨⟨D13, Below.refl _ _⟩, rfl⟩) ?_
                          rw [HD.out]
                          repeat (refine wpMix2_q rfl rfl ?_; go_big_quiet_step (fail); refine wpQuiet_nil ?_)
                          refine wpMix2_h rfl fun R' hR' hO => ?_
                          go_wp2
                          refine hR' _ _ ⟨⟨D13, Below.refl _ _⟩, rfl⟩ ?_
                          clear hR' hO R'
                          repeat (refine wpMix2_q rfl rfl ?_; go_big_quiet_step (fail); refine wpQuiet_nil ?_)
                          refine wpMix2_done ?_
                          simp only [List.drop_succ_cons, List.drop_nil]
                          rename_i K hK
                          refine hK _ _ ?_
                          clear hK K
                          clear f0 f1
                          have HBAD : Hid (badAt G L i = true) := hid (by unfold badAt; rw [HX.out]; dsimp only; unfold bad2; rw [decide_eq_true (by simpa using HP0.out), decide_eq_true HPE.out, Bool.true_or, Bool.and_true, Bool.or_true])
                          have r0 := cell_laid (i := 0) HOD13.out.br rfl
                          have rf := free_laid (i := 0) HOD13.out.br
                          have HP := hid (HOD13.out.put 320 HORD.out.1 HORD.out.2)
                          gi_wp2
                          exact ⟨(keepsOthers_of_below HBD13.out).trans (KeepsOthers.setCell _ _ _), rfl, ⟨⟨i, hin⟩, by simp, HBAD.out⟩, HP.out⟩
                        · have te : (((pp : Nat) : Int) == ((p : Nat) : Int)) = false := by simp; omega
                          have HPE := hid hpe
                          clear hpe
                          gi_wp2
                          obtain ⟨D13, hD⟩ : ∃ DX, (D11).drew = DX := ⟨_, rfl⟩
                          have hbD : Below D11.heap.size D11 D13 := by rw [← hD]; exact (Below.refl _ _).drew
                          have HD := hid hD
                          have HBD13 := hid (step HBD11.out hbD)
                          clear hD hbD
                          have HOD13 := hid (HO.out.grow HBD13.out)
                          have f0 : ∀ z : Ext D13, z.v.cell? ⟨b, off + i * 4, none⟩ = some (.int .u64 ((p : Nat) : Int)) := fun z => (HCX.out z.v (HOD13.out.below.trans (z.b.mono HOD13.out.below.size))).1
                          have f1 : ∀ z : Ext D13, z.v.cell? ⟨b, off + i * 4 + 1, none⟩ = some (.int .u64 ((pp : Nat) : Int)) := fun z => (HCX.out z.v (HOD13.out.below.trans (z.b.mono HOD13.out.below.size))).2.1
                          have l4 : ∀ z : Ext D13, z.v.cell? ⟨F, 0, none⟩ = some (.func (.func 46) #[] #[.pointer (some ⟨Y, 0, none⟩)]) := fun z => cell_laid (keep_laid HOD13.out.bf z.b) rfl
                          have HRU := hid (runs1_any T Y n c pp (some ⟨b, off, none⟩) G L D13 HOD13.out.by_ HOD13.out.bt (HL.out.grow HOD13.out.below) HN.out hn5)
                          obtain ⟨RB, hRB⟩ : ∃ B, runsB L pp = B := ⟨_, rfl⟩
                          rw [hRB] at HRU
                          have HRB := hid hRB
                          clear hRB
                          try simp only [List.setIfInBounds_toArray, List.set_cons_succ, List.set_cons_zero]
                          refine wpIn_region_mix2 (fun W => ∃ z : Ext D13, W = z.v) 25 (.q 0 (.q 1 (.q 2 (.q 3 (.q 4 (.q 5 (.q 6 (.q 7 (.q 8 (.q 9 (.q 10 (.q 11 (.q 12 (.q 13 (.q 14 (.q 15 (.q 16 (.q 17 (.q 18 (.q 19 (.q 20 (.h 21 (.q 22 (.q 23 (.q 24 (.done)))))))))))))))))))))))))) (by rintro ⟨a, w, h⟩; exact h) (by kernel_rfl) (by kernel_rfl) (by kernel_rfl) (by rw [HD.out]; exact ⟨⟨D13, Below.refl _ _⟩, rfl⟩) ?_
                          rw [HD.out]
                          repeat (refine wpMix2_q rfl rfl ?_; go_big_quiet_step (fail); refine wpQuiet_nil ?_)
                          refine wpMix2_h rfl fun R' hR' hO => ?_
                          go_wp2_with fail
                          refine HRU.out.mono ?_
                          rintro e D14 ⟨rfl, hb14⟩
                          have HBD14 := hid (step HBD13.out hb14)
                          have HOD14 := hid (HOD13.out.grow hb14)
                          go_wp2
                          refine hR' _ _ ⟨⟨D14, hb14⟩, rfl⟩ ?_
                          clear hR' hO R' hb14
                          repeat (refine wpMix2_q rfl rfl ?_; go_big_quiet_step (fail); refine wpQuiet_nil ?_)
                          refine wpMix2_done ?_
                          simp only [List.drop_succ_cons, List.drop_nil]
                          rename_i K hK
                          refine hK _ _ ?_
                          clear hK K
                          clear f0 f1 l4 HRU
                          cases RB with
                          | true =>
                            have HGOOD : Hid (badAt G L i = false) := hid (by unfold badAt; rw [HX.out]; dsimp only; rw [HB1F.out]; unfold bad2; rw [decide_eq_false HPE.out, HRB.out]; simp)
                            gi_wp2
                            exact ⟨keepsOthers_of_below HBD14.out, (fun k hk => HBD14.out.block k (by have := HO.out.sz; rcases hk with rfl | rfl <;> omega)), (fun i' hi' => by
                              rcases List.mem_append.1 hi' with h | h
                              · exact HALL.out i' h
                              · rw [List.mem_singleton] at h
                                subst h
                                exact HGOOD.out), HOD14.out⟩
                          | false =>
                            have HBAD : Hid (badAt G L i = true) := hid (by unfold badAt; rw [HX.out]; dsimp only; unfold bad2; rw [decide_eq_true (by simpa using HP0.out), HRB.out]; simp)
                            have r0 := cell_laid (i := 0) HOD14.out.br rfl
                            have rf := free_laid (i := 0) HOD14.out.br
                            have HP := hid (HOD14.out.put 320 HORD.out.1 HORD.out.2)
                            gi_wp2
                            exact ⟨(keepsOthers_of_below HBD14.out).trans (KeepsOthers.setCell _ _ _), rfl, ⟨⟨i, hin⟩, by simp, HBAD.out⟩, HP.out⟩
                    | false =>
                      by_cases hc0 : pc = 0
                      · have tc : (((pc : Nat) : Int) != 0) = false := by simp; omega
                        have fg : ∀ z : Ext D11, z.v.cell? ⟨X, m, none⟩ = some (.int .i64 gm) := fun z => by rw [← HGM.out]; exact cells16 (keep_laid HOD11.out.bx z.b) m hm16
                        have f0 : ∀ z : Ext D11, z.v.cell? ⟨b, off + i * 4, none⟩ = some (.int .u64 ((p : Nat) : Int)) := fun z => (HCX.out z.v (HOD11.out.below.trans (z.b.mono HOD11.out.below.size))).1
                        have f1 : ∀ z : Ext D11, z.v.cell? ⟨b, off + i * 4 + 1, none⟩ = some (.int .u64 ((pp : Nat) : Int)) := fun z => (HCX.out z.v (HOD11.out.below.trans (z.b.mono HOD11.out.below.size))).2.1
                        have f2 : ∀ z : Ext D11, z.v.cell? ⟨b, off + i * 4 + 2, none⟩ = some (.bool false) := fun z => (HCX.out z.v (HOD11.out.below.trans (z.b.mono HOD11.out.below.size))).2.2.1
                        have f3 : ∀ z : Ext D11, z.v.cell? ⟨b, off + i * 4 + 3, none⟩ = some (.int .u64 ((pc : Nat) : Int)) := fun z => (HCX.out z.v (HOD11.out.below.trans (z.b.mono HOD11.out.below.size))).2.2.2
                        try simp only [List.setIfInBounds_toArray, List.set_cons_succ, List.set_cons_zero]
                        refine wpIn_region_mix2 (fun W => ∃ z : Ext D11, W = z.v) 44 (.q 0 (.q 1 (.q 2 (.q 3 (.q 4 (.q 5 (.q 6 (.q 7 (.q 8 (.q 9 (.q 10 (.q 11 (.q 12 (.q 13 (.q 14 (.q 15 (.q 16 (.q 17 (.q 18 (.q 19 (.q 20 (.q 21 (.q 22 (.q 23 (.q 24 (.q 25 (.q 26 (.q 27 (.q 28 (.q 29 (.q 30 (.q 31 (.q 32 (.q 33 (.q 34 (.q 35 (.q 36 (.q 37 (.q 38 (.q 39 (.q 40 (.q 41 (.q 42 (.q 43 (.done))))))))))))))))))))))))))))))))))))))))))))) (by rintro ⟨a, w, h⟩; exact h) (by kernel_rfl) (by kernel_rfl) (by kernel_rfl) (by rw [HD.out]; exact ⟨⟨D11, Below.refl _ _⟩, rfl⟩) ?_
                        rw [HD.out]
                        repeat (refine wpMix2_q rfl rfl ?_; go_big_quiet_step (fail); refine wpQuiet_nil ?_)
                        refine wpMix2_done ?_
                        simp only [List.drop_succ_cons, List.drop_nil]
                        rename_i K hK
                        refine hK _ _ ?_
                        clear hK K
                        clear f0 f1 f2 f3 fg
                        have HB1F : Hid (bad1 G L i (p, pp, false, pc) = false) := hid (by unfold bad1; dsimp only; rw [HROW.out, HGE.out, decide_eq_false (show ¬ (pc ≠ 0) from fun h => h hc0)]; simp)
                        clear tc
                        by_cases hp0 : pp = 0
                        · have tp : (((pp : Nat) : Int) != 0) = false := by simp; omega
                          have HP0 := hid hp0
                          clear hp0
                          gi_wp2
                          obtain ⟨D13, hD⟩ : ∃ DX, (D11).drew = DX := ⟨_, rfl⟩
                          have hbD : Below D11.heap.size D11 D13 := by rw [← hD]; exact (Below.refl _ _).drew
                          have HD := hid hD
                          have HBD13 := hid (step HBD11.out hbD)
                          clear hD hbD
                          have HOD13 := hid (HO.out.grow HBD13.out)
                          have f0 : ∀ z : Ext D13, z.v.cell? ⟨b, off + i * 4, none⟩ = some (.int .u64 ((p : Nat) : Int)) := fun z => (HCX.out z.v (HOD13.out.below.trans (z.b.mono HOD13.out.below.size))).1
                          have f1 : ∀ z : Ext D13, z.v.cell? ⟨b, off + i * 4 + 1, none⟩ = some (.int .u64 ((pp : Nat) : Int)) := fun z => (HCX.out z.v (HOD13.out.below.trans (z.b.mono HOD13.out.below.size))).2.1
                          try simp only [List.setIfInBounds_toArray, List.set_cons_succ, List.set_cons_zero]
                          refine wpIn_region_mix2 (fun W => ∃ z : Ext D13, W = z.v) 25 (.q 0 (.q 1 (.q 2 (.q 3 (.q 4 (.q 5 (.q 6 (.q 7 (.q 8 (.q 9 (.q 10 (.q 11 (.q 12 (.q 13 (.q 14 (.q 15 (.q 16 (.q 17 (.q 18 (.q 19 (.q 20 (.h 21 (.q 22 (.q 23 (.q 24 (.done)))))))))))))))))))))))))) (by rintro ⟨a, w, h⟩; exact h) (by kernel_rfl) (by kernel_rfl) (by kernel_rfl) (by rw [HD.out]; exact ⟨⟨D13, Below.refl _ _⟩, rfl⟩) ?_
                          rw [HD.out]
                          repeat (refine wpMix2_q rfl rfl ?_; go_big_quiet_step (fail); refine wpQuiet_nil ?_)
                          refine wpMix2_h rfl fun R' hR' hO => ?_
                          go_wp2
                          refine hR' _ _ ⟨⟨D13, Below.refl _ _⟩, rfl⟩ ?_
                          clear hR' hO R'
                          repeat (refine wpMix2_q rfl rfl ?_; go_big_quiet_step (fail); refine wpQuiet_nil ?_)
                          refine wpMix2_done ?_
                          simp only [List.drop_succ_cons, List.drop_nil]
                          rename_i K hK
                          refine hK _ _ ?_
                          clear hK K
                          clear f0 f1
                          have HGOOD : Hid (badAt G L i = false) := hid (by unfold badAt; rw [HX.out]; dsimp only; rw [HB1F.out]; unfold bad2; rw [decide_eq_false (by simpa using HP0.out)]; rfl)
                          gi_wp2
                          exact ⟨keepsOthers_of_below HBD13.out, (fun k hk => HBD13.out.block k (by have := HO.out.sz; rcases hk with rfl | rfl <;> omega)), (fun i' hi' => by
                            rcases List.mem_append.1 hi' with h | h
                            · exact HALL.out i' h
                            · rw [List.mem_singleton] at h
                              subst h
                              exact HGOOD.out), HOD13.out⟩
                        · have tp : (((pp : Nat) : Int) != 0) = true := by simp; omega
                          have HP0 := hid hp0
                          clear hp0
                          by_cases hpe : pp = p
                          · have te : (((pp : Nat) : Int) == ((p : Nat) : Int)) = true := by simp; omega
                            have HPE := hid hpe
                            clear hpe
                            gi_wp2
                            obtain ⟨D13, hD⟩ : ∃ DX, (D11).drew = DX := ⟨_, rfl⟩
                            have hbD : Below D11.heap.size D11 D13 := by rw [← hD]; exact (Below.refl _ _).drew
                            have HD := hid hD
                            have HBD13 := hid (step HBD11.out hbD)
                            clear hD hbD
                            have HOD13 := hid (HO.out.grow HBD13.out)
                            have f0 : ∀ z : Ext D13, z.v.cell? ⟨b, off + i * 4, none⟩ = some (.int .u64 ((p : Nat) : Int)) := fun z => (HCX.out z.v (HOD13.out.below.trans (z.b.mono HOD13.out.below.size))).1
                            have f1 : ∀ z : Ext D13, z.v.cell? ⟨b, off + i * 4 + 1, none⟩ = some (.int .u64 ((pp : Nat) : Int)) := fun z => (HCX.out z.v (HOD13.out.below.trans (z.b.mono HOD13.out.below.size))).2.1
                            try simp only [List.setIfInBounds_toArray, List.set_cons_succ, List.set_cons_zero]
                            refine wpIn_region_mix2 (fun W => ∃ z : Ext D13, W = z.v) 25 (.q 0 (.q 1 (.q 2 (.q 3 (.q 4 (.q 5 (.q 6 (.q 7 (.q 8 (.q 9 (.q 10 (.q 11 (.q 12 (.q 13 (.q 14 (.q 15 (.q 16 (.q 17 (.q 18 (.q 19 (.q 20 (.h 21 (.q 22 (.q 23 (.q 24 (.done)))))))))))))))))))))))))) (by rintro ⟨a, w, h⟩; exact h) (by kernel_rfl) (by kernel_rfl) (by kernel_rfl) (by rw [HD.out]; exact ⟨⟨D13, Below.refl _ _⟩, rfl⟩) ?_
                            rw [HD.out]
                            repeat (refine wpMix2_q rfl rfl ?_; go_big_quiet_step (fail); refine wpQuiet_nil ?_)
                            refine wpMix2_h rfl fun R' hR' hO => ?_
                            go_wp2
                            refine hR' _ _ ⟨⟨D13, Below.refl _ _⟩, rfl⟩ ?_
                            clear hR' hO R'
                            repeat (refine wpMix2_q rfl rfl ?_; go_big_quiet_step (fail); refine wpQuiet_nil ?_)
                            refine wpMix2_done ?_
                            simp only [List.drop_succ_cons, List.drop_nil]
                            rename_i K hK
                            refine hK _ _ ?_
                            clear hK K
                            clear f0 f1
                            have HBAD : Hid (badAt G L i = true) := hid (by unfold badAt; rw [HX.out]; dsimp only; unfold bad2; rw [decide_eq_true (by simpa using HP0.out), decide_eq_true HPE.out, Bool.true_or, Bool.and_true, Bool.or_true])
                            have r0 := cell_laid (i := 0) HOD13.out.br rfl
                            have rf := free_laid (i := 0) HOD13.out.br
                            have HP := hid (HOD13.out.put 320 HORD.out.1 HORD.out.2)
                            gi_wp2
                            exact ⟨(keepsOthers_of_below HBD13.out).trans (KeepsOthers.setCell _ _ _), rfl, ⟨⟨i, hin⟩, by simp, HBAD.out⟩, HP.out⟩
                          · have te : (((pp : Nat) : Int) == ((p : Nat) : Int)) = false := by simp; omega
                            have HPE := hid hpe
                            clear hpe
                            gi_wp2
                            obtain ⟨D13, hD⟩ : ∃ DX, (D11).drew = DX := ⟨_, rfl⟩
                            have hbD : Below D11.heap.size D11 D13 := by rw [← hD]; exact (Below.refl _ _).drew
                            have HD := hid hD
                            have HBD13 := hid (step HBD11.out hbD)
                            clear hD hbD
                            have HOD13 := hid (HO.out.grow HBD13.out)
                            have f0 : ∀ z : Ext D13, z.v.cell? ⟨b, off + i * 4, none⟩ = some (.int .u64 ((p : Nat) : Int)) := fun z => (HCX.out z.v (HOD13.out.below.trans (z.b.mono HOD13.out.below.size))).1
                            have f1 : ∀ z : Ext D13, z.v.cell? ⟨b, off + i * 4 + 1, none⟩ = some (.int .u64 ((pp : Nat) : Int)) := fun z => (HCX.out z.v (HOD13.out.below.trans (z.b.mono HOD13.out.below.size))).2.1
                            have l4 : ∀ z : Ext D13, z.v.cell? ⟨F, 0, none⟩ = some (.func (.func 46) #[] #[.pointer (some ⟨Y, 0, none⟩)]) := fun z => cell_laid (keep_laid HOD13.out.bf z.b) rfl
                            have HRU := hid (runs1_any T Y n c pp (some ⟨b, off, none⟩) G L D13 HOD13.out.by_ HOD13.out.bt (HL.out.grow HOD13.out.below) HN.out hn5)
                            obtain ⟨RB, hRB⟩ : ∃ B, runsB L pp = B := ⟨_, rfl⟩
                            rw [hRB] at HRU
                            have HRB := hid hRB
                            clear hRB
                            try simp only [List.setIfInBounds_toArray, List.set_cons_succ, List.set_cons_zero]
                            refine wpIn_region_mix2 (fun W => ∃ z : Ext D13, W = z.v) 25 (.q 0 (.q 1 (.q 2 (.q 3 (.q 4 (.q 5 (.q 6 (.q 7 (.q 8 (.q 9 (.q 10 (.q 11 (.q 12 (.q 13 (.q 14 (.q 15 (.q 16 (.q 17 (.q 18 (.q 19 (.q 20 (.h 21 (.q 22 (.q 23 (.q 24 (.done)))))))))))))))))))))))))) (by rintro ⟨a, w, h⟩; exact h) (by kernel_rfl) (by kernel_rfl) (by kernel_rfl) (by rw [HD.out]; exact ⟨⟨D13, Below.refl _ _⟩, rfl⟩) ?_
                            rw [HD.out]
                            repeat (refine wpMix2_q rfl rfl ?_; go_big_quiet_step (fail); refine wpQuiet_nil ?_)
                            refine wpMix2_h rfl fun R' hR' hO => ?_
                            go_wp2_with fail
                            refine HRU.out.mono ?_
                            rintro e D14 ⟨rfl, hb14⟩
                            have HBD14 := hid (step HBD13.out hb14)
                            have HOD14 := hid (HOD13.out.grow hb14)
                            go_wp2
                            refine hR' _ _ ⟨⟨D14, hb14⟩, rfl⟩ ?_
                            clear hR' hO R' hb14
                            repeat (refine wpMix2_q rfl rfl ?_; go_big_quiet_step (fail); refine wpQuiet_nil ?_)
                            refine wpMix2_done ?_
                            simp only [List.drop_succ_cons, List.drop_nil]
                            rename_i K hK
                            refine hK _ _ ?_
                            clear hK K
                            clear f0 f1 l4 HRU
                            cases RB with
                            | true =>
                              have HGOOD : Hid (badAt G L i = false) := hid (by unfold badAt; rw [HX.out]; dsimp only; rw [HB1F.out]; unfold bad2; rw [decide_eq_false HPE.out, HRB.out]; simp)
                              gi_wp2
                              exact ⟨keepsOthers_of_below HBD14.out, (fun k hk => HBD14.out.block k (by have := HO.out.sz; rcases hk with rfl | rfl <;> omega)), (fun i' hi' => by
                                rcases List.mem_append.1 hi' with h | h
                                · exact HALL.out i' h
                                · rw [List.mem_singleton] at h
                                  subst h
                                  exact HGOOD.out), HOD14.out⟩
                            | false =>
                              have HBAD : Hid (badAt G L i = true) := hid (by unfold badAt; rw [HX.out]; dsimp only; unfold bad2; rw [decide_eq_true (by simpa using HP0.out), HRB.out]; simp)
                              have r0 := cell_laid (i := 0) HOD14.out.br rfl
                              have rf := free_laid (i := 0) HOD14.out.br
                              have HP := hid (HOD14.out.put 320 HORD.out.1 HORD.out.2)
                              gi_wp2
                              exact ⟨(keepsOthers_of_below HBD14.out).trans (KeepsOthers.setCell _ _ _), rfl, ⟨⟨i, hin⟩, by simp, HBAD.out⟩, HP.out⟩
                      · have tc : (((pc : Nat) : Int) != 0) = true := by simp; omega
                        have fg : ∀ z : Ext D11, z.v.cell? ⟨X, m, none⟩ = some (.int .i64 gm) := fun z => by rw [← HGM.out]; exact cells16 (keep_laid HOD11.out.bx z.b) m hm16
                        have f0 : ∀ z : Ext D11, z.v.cell? ⟨b, off + i * 4, none⟩ = some (.int .u64 ((p : Nat) : Int)) := fun z => (HCX.out z.v (HOD11.out.below.trans (z.b.mono HOD11.out.below.size))).1
                        have f1 : ∀ z : Ext D11, z.v.cell? ⟨b, off + i * 4 + 1, none⟩ = some (.int .u64 ((pp : Nat) : Int)) := fun z => (HCX.out z.v (HOD11.out.below.trans (z.b.mono HOD11.out.below.size))).2.1
                        have f2 : ∀ z : Ext D11, z.v.cell? ⟨b, off + i * 4 + 2, none⟩ = some (.bool false) := fun z => (HCX.out z.v (HOD11.out.below.trans (z.b.mono HOD11.out.below.size))).2.2.1
                        have f3 : ∀ z : Ext D11, z.v.cell? ⟨b, off + i * 4 + 3, none⟩ = some (.int .u64 ((pc : Nat) : Int)) := fun z => (HCX.out z.v (HOD11.out.below.trans (z.b.mono HOD11.out.below.size))).2.2.2
                        try simp only [List.setIfInBounds_toArray, List.set_cons_succ, List.set_cons_zero]
                        refine wpIn_region_mix2 (fun W => ∃ z : Ext D11, W = z.v) 44 (.q 0 (.q 1 (.q 2 (.q 3 (.q 4 (.q 5 (.q 6 (.q 7 (.q 8 (.q 9 (.q 10 (.q 11 (.q 12 (.q 13 (.q 14 (.q 15 (.q 16 (.q 17 (.q 18 (.q 19 (.q 20 (.q 21 (.q 22 (.q 23 (.q 24 (.q 25 (.q 26 (.q 27 (.q 28 (.q 29 (.q 30 (.q 31 (.q 32 (.q 33 (.q 34 (.q 35 (.q 36 (.q 37 (.q 38 (.q 39 (.q 40 (.q 41 (.q 42 (.q 43 (.done))))))))))))))))))))))))))))))))))))))))))))) (by rintro ⟨a, w, h⟩; exact h) (by kernel_rfl) (by kernel_rfl) (by kernel_rfl) (by rw [HD.out]; exact ⟨⟨D11, Below.refl _ _⟩, rfl⟩) ?_
                        rw [HD.out]
                        repeat (refine wpMix2_q rfl rfl ?_; go_big_quiet_step (fail); refine wpQuiet_nil ?_)
                        refine wpMix2_done ?_
                        simp only [List.drop_succ_cons, List.drop_nil]
                        rename_i K hK
                        refine hK _ _ ?_
                        clear hK K
                        clear f0 f1 f2 f3 fg
                        have HBAD : Hid (badAt G L i = true) := hid (by unfold badAt; rw [HX.out]; dsimp only; unfold bad1; rw [decide_eq_true (show pc ≠ 0 from hc0)]; simp)
                        have r0 := cell_laid (i := 0) HOD11.out.br rfl
                        have rf := free_laid (i := 0) HOD11.out.br
                        have HP := hid (HOD11.out.put 320 HORD.out.1 HORD.out.2)
                        gi_wp2
                        exact ⟨(keepsOthers_of_below HBD11.out).trans (KeepsOthers.setCell _ _ _), rfl, ⟨⟨i, hin⟩, by simp, HBAD.out⟩, HP.out⟩
                  · have tg : ((((dv : Nat) : Int) + 1) != gm) = true := by simp; omega
                    have fg : ∀ z : Ext D11, z.v.cell? ⟨X, m, none⟩ = some (.int .i64 gm) := fun z => by rw [← HGM.out]; exact cells16 (keep_laid HOD11.out.bx z.b) m hm16
                    have f0 : ∀ z : Ext D11, z.v.cell? ⟨b, off + i * 4, none⟩ = some (.int .u64 ((p : Nat) : Int)) := fun z => (HCX.out z.v (HOD11.out.below.trans (z.b.mono HOD11.out.below.size))).1
                    have f1 : ∀ z : Ext D11, z.v.cell? ⟨b, off + i * 4 + 1, none⟩ = some (.int .u64 ((pp : Nat) : Int)) := fun z => (HCX.out z.v (HOD11.out.below.trans (z.b.mono HOD11.out.below.size))).2.1
                    have f2 : ∀ z : Ext D11, z.v.cell? ⟨b, off + i * 4 + 2, none⟩ = some (.bool dd) := fun z => (HCX.out z.v (HOD11.out.below.trans (z.b.mono HOD11.out.below.size))).2.2.1
                    have f3 : ∀ z : Ext D11, z.v.cell? ⟨b, off + i * 4 + 3, none⟩ = some (.int .u64 ((pc : Nat) : Int)) := fun z => (HCX.out z.v (HOD11.out.below.trans (z.b.mono HOD11.out.below.size))).2.2.2
                    try simp only [List.setIfInBounds_toArray, List.set_cons_succ, List.set_cons_zero]
                    refine wpIn_region_mix2 (fun W => ∃ z : Ext D11, W = z.v) 44 (.q 0 (.q 1 (.q 2 (.q 3 (.q 4 (.q 5 (.q 6 (.q 7 (.q 8 (.q 9 (.q 10 (.q 11 (.q 12 (.q 13 (.q 14 (.q 15 (.q 16 (.q 17 (.q 18 (.q 19 (.q 20 (.q 21 (.q 22 (.q 23 (.q 24 (.q 25 (.q 26 (.q 27 (.q 28 (.q 29 (.q 30 (.q 31 (.q 32 (.q 33 (.q 34 (.q 35 (.q 36 (.q 37 (.q 38 (.q 39 (.q 40 (.q 41 (.q 42 (.q 43 (.done))))))))))))))))))))))))))))))))))))))))))))) (by rintro ⟨a, w, h⟩; exact h) (by kernel_rfl) (by kernel_rfl) (by kernel_rfl) (by rw [HD.out]; exact ⟨⟨D11, Below.refl _ _⟩, rfl⟩) ?_
                    rw [HD.out]
                    repeat (refine wpMix2_q rfl rfl ?_; go_big_quiet_step (fail); refine wpQuiet_nil ?_)
                    refine wpMix2_done ?_
                    simp only [List.drop_succ_cons, List.drop_nil]
                    rename_i K hK
                    refine hK _ _ ?_
                    clear hK K
                    clear f0 f1 f2 f3 fg
                    have HBAD : Hid (badAt G L i = true) := hid (by unfold badAt; rw [HX.out]; dsimp only; unfold bad1; rw [decide_eq_true (by rw [HQM.out, HGM.out, HDV.out]; exact fun h => hge (by omega))]; simp)
                    have r0 := cell_laid (i := 0) HOD11.out.br rfl
                    have rf := free_laid (i := 0) HOD11.out.br
                    have HP := hid (HOD11.out.put 320 HORD.out.1 HORD.out.2)
                    gi_wp2
                    exact ⟨(keepsOthers_of_below HBD11.out).trans (KeepsOthers.setCell _ _ _), rfl, ⟨⟨i, hin⟩, by simp, HBAD.out⟩, HP.out⟩
                · have ts : decide (((s : Nat) : Int) < ((q : Nat) : Int)) = false := decide_eq_false (by omega)
                  have HROW : Hid (rowB L i (p, pp, dd, pc) = false) := hid (by rw [HROW0.out]; exact decide_eq_false hsq)
                  clear HROW0
                  gi_wp2
                  obtain ⟨D11, hD⟩ : ∃ DX, (W2).drew = DX := ⟨_, rfl⟩
                  have hbD : Below W2.heap.size W2 D11 := by rw [← hD]; exact (Below.refl _ _).drew
                  have HD := hid hD
                  have HBD11 := hid (step HBW2.out hbD)
                  clear hD hbD
                  have HOD11 := hid (HO.out.grow HBD11.out)
                  try simp only [List.setIfInBounds_toArray, List.set_cons_succ, List.set_cons_zero]
                  refine wpIn_region_mix2 (fun W => ∃ z : Ext D11, W = z.v) 44 (.q 0 (.q 1 (.q 2 (.q 3 (.q 4 (.q 5 (.q 6 (.q 7 (.q 8 (.q 9 (.q 10 (.q 11 (.q 12 (.q 13 (.q 14 (.q 15 (.q 16 (.q 17 (.q 18 (.q 19 (.q 20 (.q 21 (.q 22 (.q 23 (.q 24 (.q 25 (.q 26 (.q 27 (.q 28 (.q 29 (.q 30 (.q 31 (.q 32 (.q 33 (.q 34 (.q 35 (.q 36 (.q 37 (.q 38 (.q 39 (.q 40 (.q 41 (.q 42 (.q 43 (.done))))))))))))))))))))))))))))))))))))))))))))) (by rintro ⟨a, w, h⟩; exact h) (by kernel_rfl) (by kernel_rfl) (by kernel_rfl) (by rw [HD.out]; exact ⟨⟨D11, Below.refl _ _⟩, rfl⟩) ?_
                  rw [HD.out]
                  repeat (refine wpMix2_q rfl rfl ?_; go_big_quiet_step (fail); refine wpQuiet_nil ?_)
                  refine wpMix2_done ?_
                  simp only [List.drop_succ_cons, List.drop_nil]
                  rename_i K hK
                  refine hK _ _ ?_
                  clear hK K
                  have HBAD : Hid (badAt G L i = true) := hid (by unfold badAt; rw [HX.out]; dsimp only; unfold bad1; rw [HROW.out]; rfl)
                  have r0 := cell_laid (i := 0) HOD11.out.br rfl
                  have rf := free_laid (i := 0) HOD11.out.br
                  have HP := hid (HOD11.out.put 320 HORD.out.1 HORD.out.2)
                  gi_wp2
                  exact ⟨(keepsOthers_of_below HBD11.out).trans (KeepsOthers.setCell _ _ _), rfl, ⟨⟨i, hin⟩, by simp, HBAD.out⟩, HP.out⟩
            · have t16 : decide (((q : Nat) : Int) ≤ 16) = false := decide_eq_false (by omega)
              have HROW : Hid (rowB L i (p, pp, dd, pc) = false) := hid (by unfold rowB; dsimp only; rw [HQ.out, decide_eq_false h16, Bool.false_and, Bool.and_false])
              gi_wp2
              all_goals (first | (rename_i hu _; cases hu; done) | skip)
              first | refine ⟨trivial, ?_⟩ | refine ⟨(fun f hf => nomatch hf), ?_⟩
              gi_wp2
              obtain ⟨D11, hD⟩ : ∃ DX, (W1).drew = DX := ⟨_, rfl⟩
              have hbD : Below W1.heap.size W1 D11 := by rw [← hD]; exact (Below.refl _ _).drew
              have HD := hid hD
              have HBD11 := hid (step HBW1.out hbD)
              clear hD hbD
              have HOD11 := hid (HO.out.grow HBD11.out)
              try simp only [List.setIfInBounds_toArray, List.set_cons_succ, List.set_cons_zero]
              refine wpIn_region_mix2 (fun W => ∃ z : Ext D11, W = z.v) 44 (.q 0 (.q 1 (.q 2 (.q 3 (.q 4 (.q 5 (.q 6 (.q 7 (.q 8 (.q 9 (.q 10 (.q 11 (.q 12 (.q 13 (.q 14 (.q 15 (.q 16 (.q 17 (.q 18 (.q 19 (.q 20 (.q 21 (.q 22 (.q 23 (.q 24 (.q 25 (.q 26 (.q 27 (.q 28 (.q 29 (.q 30 (.q 31 (.q 32 (.q 33 (.q 34 (.q 35 (.q 36 (.q 37 (.q 38 (.q 39 (.q 40 (.q 41 (.q 42 (.q 43 (.done))))))))))))))))))))))))))))))))))))))))))))) (by rintro ⟨a, w, h⟩; exact h) (by kernel_rfl) (by kernel_rfl) (by kernel_rfl) (by rw [HD.out]; exact ⟨⟨D11, Below.refl _ _⟩, rfl⟩) ?_
              rw [HD.out]
              repeat (refine wpMix2_q rfl rfl ?_; go_big_quiet_step (fail); refine wpQuiet_nil ?_)
              refine wpMix2_done ?_
              simp only [List.drop_succ_cons, List.drop_nil]
              rename_i K hK
              refine hK _ _ ?_
              clear hK K
              have HBAD : Hid (badAt G L i = true) := hid (by unfold badAt; rw [HX.out]; dsimp only; unfold bad1; rw [HROW.out]; rfl)
              have r0 := cell_laid (i := 0) HOD11.out.br rfl
              have rf := free_laid (i := 0) HOD11.out.br
              have HP := hid (HOD11.out.put 320 HORD.out.1 HORD.out.2)
              gi_wp2
              exact ⟨(keepsOthers_of_below HBD11.out).trans (KeepsOthers.setCell _ _ _), rfl, ⟨⟨i, hin⟩, by simp, HBAD.out⟩, HP.out⟩
    · skip
      rw [decide_eq_false hy] at heq
      have HY := hid hy
      clear hy
      refine wp_region_mix2 (fun W => ∃ z : Ext D0, W = z.v) 18 (.q 0 (.q 1 (.q 2 (.q 3 (.q 4 (.q 5 (.q 6 (.q 7 (.q 8 (.q 9 (.q 10 (.q 11 (.q 12 (.q 13 (.q 14 (.q 15 (.h 16 (.q 17 (.done))))))))))))))))))) (by kernel_rfl) (by kernel_rfl) (by rw [HD.out]; exact ⟨⟨D0, Below.refl _ _⟩, rfl⟩) ?_
      rw [HD.out]
      repeat (refine wpMix2_q rfl rfl ?_; go_big_quiet_step (fail); refine wpQuiet_nil ?_)
      refine wpMix2_h rfl fun R' hR' hO => ?_
      go_wp2
      refine hR' _ _ ⟨⟨D0, Below.refl _ _⟩, rfl⟩ ?_
      clear hR' hO R'
      repeat (refine wpMix2_q rfl rfl ?_; go_big_quiet_step (fail); refine wpQuiet_nil ?_)
      refine wpMix2_done ?_
      simp only [List.drop_succ_cons, List.drop_nil]
      have HE : Hid (okP G L = false) := hid (by unfold okP; rw [HL0.out, decide_eq_false (fun e => HY.out (Option.some.inj e))]; rfl)
      have kr := HCD.out.br
      have r0 := cell_laid (i := 0) kr rfl
      have rf := free_laid (i := 0) kr
      have HP := hid (HCD.out.put 320 HORD.out.1 HORD.out.2)
      clear kr
      go_wp2
      refine leaves_none (Check_result HP.out.br rfl) ⟨?_, HP.out.below⟩
      rw [← HRV.out, HE.out]
      rfl
end Go.Proofs.YtmnbkhmphhgdiaaDoor
