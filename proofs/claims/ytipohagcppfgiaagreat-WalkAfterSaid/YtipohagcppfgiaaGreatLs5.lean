/- Lists (printed by gen_ls5.py): Nodes. -/
import Derived.Test.YtipohagcppfgiaaGreatLs4
namespace Go.Proofs.YtipohagcppfgiaaGreat
open Go.RowKit
open Go.Proofs
set_option linter.unusedVariables false
attribute [local go_sem] Oper.semAt_some
theorem nod_result {W : World} {a b : Nat} {v0 v1 : Value} {tmps : Array Value} (h0 : W.heap[a]? = some (.cells #[v0] 36 (0, 0))) (h1 : W.heap[b]? = some (.cells #[v1] 34 (0, 0)))
  (q0 : tmps[4]?.getD undef = .pointer (some ⟨a, 0, none⟩)) (q1 : tmps[5]?.getD undef = .pointer (some ⟨b, 0, none⟩)) :
  (results Tryz.f65 tmps).run Tryz.prog W = .ok (.tuple #[v0, v1]) W := by
 have c0 := clD (i := 0) (v := v0) h0 rfl
 have c1 := clD (i := 0) (v := v1) h1 rfl
 simp [results, Tryz.results65, go_sem, q0, q1, c0, c1]
/-- What the loop over nodes has made. -/
structure Nk (V : World) (Z4 Z5 Z7 base : Nat) (pre : List Nd) (v : Value) (ok : Bool) (W : World) : Prop where
 b4 : W.heap[Z4]? = some (.cells #[v] 36 (0, 0))
 b5 : W.heap[Z5]? = some (.cells #[.int .i64 0] 34 (0, 0))
 b7 : W.heap[Z7]? = some (.cells #[.bool ok] 4 (0, 0))
 row : W.ownsRow base 42 4 v pre.length (ndcells pre)
 below : Below V.heap.size V W
 sz : base ≤ W.heap.size
theorem Nk.abide {V A B : World} {Z4 Z5 Z7 base Bs : Nat} {pre : List Nd} {v : Value} {ok : Bool} {row : Option Nat} (h : Nk V Z4 Z5 Z7 base pre v ok A) (hg : A.grownBy B row)
  (hr : ∀ r, row = some r → r = Bs ∨ (base ≤ r ∧ ∃ o, A.heap[r]? = some o ∧ o.isCells = false)) (h4 : Z4 ≠ Bs) (h5 : Z5 ≠ Bs) (h6 : Z7 ≠ Bs) (hb : Bs < base) (hw : V.heap.size ≤ Bs) : Nk V Z4 Z5 Z7 base pre v ok B :=
 ⟨cells_abide h.b4 hg hr h4, cells_abide h.b5 hg hr h5, cells_abide h.b7 hg hr h6, own_abide h.row hg hr hb, below_abide h.below hg hr hw (by omega), Nat.le_trans h.sz hg.size⟩
theorem Nk.grow {V A B : World} {Z4 Z5 Z7 base : Nat} {pre : List Nd} {v : Value} {ok : Bool} (h : Nk V Z4 Z5 Z7 base pre v ok A) (hb : Below A.heap.size A B) : Nk V Z4 Z5 Z7 base pre v ok B :=
 ⟨klD h.b4 hb, klD h.b5 hb, klD h.b7 hb, ogr h.row hb, h.below.trans (hb.mono h.below.size), Nat.le_trans h.sz hb.size⟩
theorem nod1_invoke (Z4 Z5 : Nat) (W : World) : (invoke (Target.fn (Fn.func 77) #[.pointer (some ⟨Z4, 0, none⟩), .pointer (some ⟨Z5, 0, none⟩)]) #[]).run Tryz.prog W = .ok (.enter 77 #[.pointer (some ⟨Z4, 0, none⟩), .pointer (some ⟨Z5, 0, none⟩)]) W := by
 simp [invoke, go_sem]
abbrev nodDefs (D Z4 Z5 : Nat) : List Deferred := [{ target := .collected D, args := #[] }, { target := .fn (.func 77) #[.pointer (some ⟨Z4, 0, none⟩), .pointer (some ⟨Z5, 0, none⟩)], args := #[] }]
theorem leaves_caughtN {V W : World} {Z4 Z5 D : Nat} {v0 v1 : Value} {tmps : Array Value} {R : Ending → World → Prop} (hD : V.heap.size ≤ D) (c4 : W.heap[Z4]? = some (.cells #[v0] 36 (0, 0))) (c5 : W.heap[Z5]? = some (.cells #[v1] 34 (0, 0))) (hbl : Below V.heap.size V W) (hK : W.heap[D]? = some (.deferred (some []))) (h4 : V.heap.size ≤ Z4) (h5 : V.heap.size ≤ Z5)
  (q0 : tmps[4]?.getD undef = .pointer (some ⟨Z4, 0, none⟩)) (q1 : tmps[5]?.getD undef = .pointer (some ⟨Z5, 0, none⟩))
  (hR : ∀ W', Below V.heap.size V W' → ∀ e, e = Ending.returned (.tuple #[.slice none 0 0, .int .i64 250]) → R e W') :
  LeavesInM Fence.wide 5 Tryz.prog Tryz.f65 tmps R (nodDefs D Z4 Z5) (.panicking brk) W := by
 refine ⟨by simp, .inl ⟨D, _, rfl, run_takeDeferred hK, ⟨by simp, .inr ⟨(fun h => by cases h), _, _, _, _, rfl, nod1_invoke _ _ _, fun _ _ => trivial, ?_⟩⟩⟩⟩
 have k : ∀ {b : Nat} {cs : Array Value} {T : TypeId}, W.heap[b]? = some (.cells cs T (0, 0)) → (W.putObj D (.deferred none)).heap[b]? = some (.cells cs T (0, 0)) := by
  intro b cs T hb
  refine (World.putObj_heap_other ?_).trans hb
  rintro rfl
  rw [hb] at hK
  cases hK
 refine (nod1_caught Z4 Z5 v0 v1 [] _ (k c4) (k c5)).mono ?_
 rintro e u W' ⟨rfl, rfl, d4, d5, hB⟩
 exact ⟨_, nod_result d4 d5 q0 q1, hR _ (hB _ _ h4 h5 (below_mark hbl hD hK)) _ rfl⟩
theorem leaves_idleN {V W : World} {Z4 Z5 D : Nat} {v0 v1 : Value} {tmps : Array Value} {R : Ending → World → Prop} (hD : V.heap.size ≤ D) (hK : W.heap[D]? = some (.deferred (some []))) (hbl : Below V.heap.size V W)
  (c4 : W.heap[Z4]? = some (.cells #[v0] 36 (0, 0))) (c5 : W.heap[Z5]? = some (.cells #[v1] 34 (0, 0)))
  (q0 : tmps[4]?.getD undef = .pointer (some ⟨Z4, 0, none⟩)) (q1 : tmps[5]?.getD undef = .pointer (some ⟨Z5, 0, none⟩))
  (hR : Below V.heap.size V (W.putObj D (.deferred none)) → ∀ e, e = Ending.returned (.tuple #[v0, v1]) → R e (W.putObj D (.deferred none))) :
  LeavesInM Fence.wide 5 Tryz.prog Tryz.f65 tmps R (nodDefs D Z4 Z5) .returning W := by
 refine ⟨by simp, .inl ⟨D, _, rfl, run_takeDeferred hK, ⟨by simp, .inr ⟨(fun h => by cases h), _, _, _, _, rfl, nod1_invoke _ _ _, fun _ _ => trivial, ?_⟩⟩⟩⟩
 have k : ∀ {b : Nat} {cs : Array Value} {T : TypeId}, W.heap[b]? = some (.cells cs T (0, 0)) → (W.putObj D (.deferred none)).heap[b]? = some (.cells cs T (0, 0)) := by
  intro b cs T hb
  refine (World.putObj_heap_other ?_).trans hb
  rintro rfl
  rw [hb] at hK
  cases hK
 refine (nod1_idle Z4 Z5 _).mono ?_
 rintro e u W' ⟨rfl, rfl, rfl⟩
 exact ⟨_, nod_result (k c4) (k c5) q0 q1, hR (below_mark hbl hD hK) _ rfl⟩
theorem goW_ok {M : Mem} (hW : ∀ x ∈ M.W, x < 18446744073709551616) : ∀ (f p : Nat) (met : List Nat) (out xs : List Nd), p < 18446744073709551616 → (∀ t ∈ out, t.Ok) → goW M f p met out = some xs → ∀ t ∈ xs, t.Ok
 | 0, p, met, out, xs, hp, ho, h => by unfold goW at h; cases h
 | f + 1, p, met, out, xs, hp, ho, h => by
  by_cases h0 : p = 0
  ·subst h0; rw [goW_zero] at h; cases h; exact ho
  ·cases ht : takeP M p (List.range 4) met with
   | none => rw [goW_none h0 ht] at h; cases h
   | some m2 =>
    rw [goW_some h0 ht] at h
    refine goW_ok hW f _ _ _ _ (wAt_lt hW _ _) ?_ h
    intro t ht'
    rcases List.mem_append.1 ht' with h1 | h1
    ·exact ho t h1
    ·rw [List.mem_singleton] at h1
     subst h1
     exact ⟨hp, wAt_lt hW _ _, wAt_lt hW _ _, wAt_lt hW _ _⟩
theorem nodesW_ok {M : Mem} {head : Nat} {xs : List Nd} (hW : ∀ x ∈ M.W, x < 18446744073709551616) (h : nodesW M head = some xs) : ∀ t ∈ xs, t.Ok := by
 cases ht : takeP M head [0] [] with
 | none => rw [nodesW_none ht] at h; cases h
 | some m0 => rw [nodesW_some ht] at h; exact goW_ok hW _ _ _ _ _ (wAt_lt hW _ _) (by simp) h
def GivesNd (R : List Nd × Nat) (V : World) (e : Ending) (W : World) : Prop := ∃ v, e = .returned (.tuple #[v, .int .i64 R.2]) ∧ W.ownsRow V.heap.size 42 4 v R.1.length (ndcells R.1) ∧ Below V.heap.size V W
set_option maxRecDepth 100000 in
set_option maxHeartbeats 8000000 in
theorem Nodes_any (M : Mem) (wa la : Option Addr) (wc lc head : Nat) (V : World) (h : MemL V wa wc la lc M) (hh : head < 18446744073709551616) (hW : ∀ x ∈ M.W, x < 18446744073709551616) :
  Calls Tryz.prog 65 #[memV wa wc la lc M, .int .u64 head] V (GivesNd (nodesP M head) V) := by
 obtain ⟨V1, hV1, hb1, hs1, hl1⟩ := laid V #[.slice wa M.W.length wc, .slice la M.L.length lc, .bool M.F] 25
 obtain ⟨V2, hV2, hb2, hs2, hl2⟩ := laid V1 #[.slice none 0 0] 36
 obtain ⟨V3, hV3, hb3, hs3, hl3⟩ := laid V2 #[.int .i64 0] 34
 obtain ⟨X0, hX0⟩ := nm (V.heap.size)
 obtain ⟨Z4, hZ4⟩ := nm (V1.heap.size)
 obtain ⟨Z5, hZ5⟩ := nm (V2.heap.size)
 rw [hX0] at hl1
 rw [hZ4] at hl2
 rw [hZ5] at hl3
 have K0 := hid (klD hl1 (step hb2 hb3))
 have K4 := hid (klD hl2 hb3)
 have K5 := hid hl3
 have HB3 := hid (step (step hb1 hb2) hb3)
 have hX4 : X0 < Z4 := by omega
 have h45 : Z4 < Z5 := by omega
 have HX := hid hX0
 have HM := hid (h.grow HB3.out)
 have HCK := hid (Check_any M wa la wc lc V3 HM.out)
 have HL0 := hid h
 obtain ⟨x0, x1, x2⟩ := cells3 K0.out
 unfold memV at HCK
 have hwl := h.w.len
 have hll := h.l.len
 unfold memV
 have hmf : ∀ (fn : Fn) (first cap : Array Value) (w : World), (Instr.makeFunc fn first cap).run Tryz.prog w = .ok (.func fn first cap) w := fun _ _ _ _ => rfl
 have HW := hid hW
 have h5s : V3.heap.size = Z5 + 1 := by omega
 have HS3 := hid h5s
 clear hb1 hs1 hl1 hb2 hs2 hl2 hb3 hs3 hl3 hW h5s
 cases hok : okM M with
 | false =>
  rw [hok, if_neg (by decide)] at HCK
  have HR : Hid (nodesP M head = ([], 120)) := hid (by unfold nodesP; rw [hok]; rfl)
  clear hok h
  refine calls_of_wp_marks Tryz.func65 rfl ?_
  simp only [Tryz.ntmps65, List.size_toArray, List.length_cons, List.length_nil, Nat.reduceAdd, Nat.reduceSub, Array.replicate_succ, Array.replicate_zero, List.push_toArray, List.append_toArray, List.nil_append, List.cons_append]
  go_wp2
  go_step3
  go_wp2_with fail
  refine HCK.out.mono ?_
  rintro e V5 ⟨rfl, hb5⟩
  have k4 := klD K4.out hb5
  have k5 := klD K5.out hb5
  have f0 := flD (i := 0) k4
  have f1 := flD (i := 0) k5
  have c0 := clD (i := 0) k4 rfl
  have c1 := clD (i := 0) k5 rfl
  have n45 : Z4 ≠ Z5 := by omega
  have n54 : Z5 ≠ Z4 := by omega
  have H4 := hid (olD (i := 0) (slD (i := 0) k4 (.slice none 0 0)) n45 (.int .i64 120))
  have H5 := hid (slD (i := 0) (olD (i := 0) k5 n54 (.slice none 0 0)) (.int .i64 120))
  have HB := hid (((step HB3.out hb5).setCell (p := ⟨Z4, 0, none⟩) (by show V.heap.size ≤ Z4; omega) (.slice none 0 0)).setCell (p := ⟨Z5, 0, none⟩) (by show V.heap.size ≤ Z5; omega) (.int .i64 120))
  clear k4 k5 hb5 x0 x1 x2
  go_wp2
  refine leaves_none (nod_result H4.out H5.out rfl rfl) ?_
  rw [HR.out]
  exact ⟨_, rfl, World.ownsRow_nil _ _ _ _, HB.out⟩
 | true =>
  rw [hok, if_pos rfl] at HCK
  obtain ⟨hn1, hn4, hmn, -⟩ := okM_spec hok
  have HOK := hid hok
  have HN1 := hid hn1
  have HN4 := hid hn4
  have HMN := hid hmn
  clear hok hn1 hn4 hmn h
  refine calls_of_wp_marks Tryz.func65 rfl ?_
  simp only [Tryz.ntmps65, List.size_toArray, List.length_cons, List.length_nil, Nat.reduceAdd, Nat.reduceSub, Array.replicate_succ, Array.replicate_zero, List.push_toArray, List.append_toArray, List.nil_append, List.cons_append]
  go_wp2
  go_step3
  go_wp2_with fail
  refine HCK.out.mono ?_
  rintro e V4 ⟨rfl, hb4⟩
  obtain ⟨V5, hV5, hb5, hs5, hl5⟩ := laid V4 #[.bool true] 4
  obtain ⟨Z7, hZ7⟩ := nm (V4.heap.size)
  rw [hZ7] at hl5
  obtain ⟨V6, hV6, hb6, hs6, hl6⟩ := laid V5 #[.slice wa M.W.length wc, .slice la M.L.length lc, .bool M.F] 25
  obtain ⟨V7, hV7, hb7, hs7, hl7⟩ := laid V6 #[.int .u64 head] 26
  obtain ⟨X, hX⟩ := nm (V5.heap.size)
  rw [hX] at hl6
  have e7 : V6.heap.size = X + 1 := by omega
  rw [e7] at hl7
  obtain ⟨x0', x1', x2'⟩ := cells3 (klD K0.out (step hb4 hb5))
  have h57 : Z5 < Z7 := by have := hb4.size; have := HS3.out; omega
  have h7X : Z7 < X := by omega
  have HSZ : Hid (V7.heap.size = X + 2) := hid (by omega)
  have HB37 := hid (step (step (step hb4 hb5) hb6) hb7)
  have HB7 := hid (step HB3.out HB37.out)
  have HI7 : Hid (Itr X (X + 1) wa wc la lc M.W.length head M V7) := hid ⟨by have := klD hl6 hb7; rw [HMN.out] at this; exact this, hl7, HM.out.grow HB37.out⟩
  have K47 := hid (klD K4.out HB37.out)
  have K57 := hid (klD K5.out HB37.out)
  have K77 := hid (klD hl5 (step hb6 hb7))
  have HNA := hid (nodes_any M wa la wc lc head V5 V7 (by rw [hV6, hV7]) hwl.1 hll.1)
  rw [hX] at HNA
  unfold memV at HNA
  clear hb4 hb5 hb6 hb7 hs5 hs6 hs7 hl5 hl6 hl7 hV6 hV7 hX e7 x0 x1 x2
  go_wp2
  go_step3
  go_wp2_with fail
  refine HNA.out.mono ?_
  rintro e w' ⟨rfl, hw'⟩
  subst hw'
  clear x0' x1' x2'
  go_wp2
  have hkw : ∀ b off, wa = some ⟨b, off, none⟩ → b < X0 := by
   rintro b off rfl
   obtain ⟨_, _, ⟨q, _⟩ | ⟨b', o', q, q2, _⟩⟩ := HL0.out.w
   ·have := HN1.out; omega
   ·cases q; rw [HX.out] at q2; exact q2
  have hkl : ∀ b off, la = some ⟨b, off, none⟩ → b < X0 := by
   rintro b off rfl
   obtain ⟨_, _, ⟨q, _⟩ | ⟨b', o', q, q2, _⟩⟩ := HL0.out.l
   ·have := HN1.out; have := HMN.out; omega
   ·cases q; rw [HX.out] at q2; exact q2
  have HKW := hid hkw
  have HKL := hid hkl
  clear hkw hkl
  have hsz : w'.heap.size = X + 2 := HSZ.out
  have HVX : Hid (V.heap.size ≤ X0) := hid (by rw [HX.out]; exact Nat.le_refl _)
  refine wp_rangeQ (Bs := X0) (gf := 97) (lb := #[.pointer (some ⟨X, 0, none⟩), .pointer (some ⟨X + 1, 0, none⟩)]) rfl (enters_of Tryz.func97 (by kernel_rfl) rfl)
   (nodes_seq X (X + 1) X0 (w'.heap.size + 2) head M.W.length wa wc la lc M (fun k => k < w'.heap.size ∧ k ≠ Z4 ∧ k ≠ Z7) rfl HMN.out HN1.out HN4.out hh HW.out ⟨by omega, by omega, by omega⟩ ⟨by omega, by omega, by omega⟩ (fun b off e => by have := HKW.out b off e; exact ⟨by omega, by omega, by omega⟩) (fun b off e => by have := HKL.out b off e; exact ⟨by omega, by omega, by omega⟩))
   (fun k hk => hk.1) (by omega) (fun o o' => ?hR) (fun _ => rfl)
   (fun pre W => (∃ v, Nk V Z4 Z5 Z7 w'.heap.size pre v true W) ∧ incr pre = true)
   (fun c pre W => c = .exit 0 ∧ incr pre = false ∧ ∃ v pre0, Nk V Z4 Z5 Z7 w'.heap.size pre0 v false W) ?hI ?hIx ?h0
   (fun t pre p a' W => ((∃ v, Nk V Z4 Z5 Z7 w'.heap.size pre v true W) ∧ incr pre = true) ∧ ∃ B, a' = { tmps := (t.setIfInBounds 19 (ndV p)).setIfInBounds 8 (.pointer (some ⟨B, 0, none⟩)), defers := [] } ∧ w'.heap.size ≤ B ∧ W.heap[B]? = some (.cells #[.int .u64 ((p.1 : Nat) : Int), .int .u64 ((p.2.1 : Nat) : Int), .int .u64 ((p.2.2.1 : Nat) : Int), .int .u64 ((p.2.2.2 : Nat) : Int)] 42 (0, 0))) ?hAx ?assign ?body ?done ?stop ?panic
  case hR =>
   have g1 := (Below.refl w'.heap.size w').alloc (Nat.le_refl _) o
   have g2 : Below w'.heap.size w' ((w'.alloc o).alloc o') := g1.alloc (Nat.le_of_lt (by simp)) o'
   exact ⟨HI7.out.grow g2, by simp⟩
  case hI => exact fun s A B row ⟨⟨v, hs⟩, h2⟩ hg hr => ⟨⟨v, hs.abide hg hr (by omega) (by omega) (by omega) (by omega) (by have := HVX.out; omega)⟩, h2⟩
  case hIx => exact fun c s A B row ⟨h1, h2, v, p0, hs⟩ hg hr => ⟨h1, h2, v, p0, hs.abide hg hr (by omega) (by omega) (by omega) (by omega) (by have := HVX.out; omega)⟩
  case h0 => exact ⟨⟨_, K47.out, K57.out, K77.out, World.ownsRow_nil _ _ _ _, HB7.out, Nat.le_refl _⟩, rfl⟩
  case hAx =>
   rintro t pre p a' A B row ⟨⟨⟨v, hU⟩, h2⟩, b, e, hb, hc⟩ hg hr
   refine ⟨⟨⟨v, hU.abide (Bs := X0) hg (fun r e => .inr (hr r e)) (by omega) (by omega) (by omega) (by omega) (by have := HVX.out; omega)⟩, h2⟩, b, e, hb, cells_abide (Bs := X0) (B0 := w'.heap.size) hc hg (fun r e => .inr (hr r e)) (by omega)⟩
  case assign =>
   rintro l pre ⟨p1, p2, p3, p4⟩ W K ⟨⟨v, hI⟩, hI2⟩ hlen hK
   obtain ⟨wb, hwb, hbb, hsb, hlb⟩ := laid W #[.int .u64 p1, .int .u64 p2, .int .u64 p3, .int .u64 p4] 42
   have HLB := hid hlb
   have HU := hid (hI.grow hbb)
   have HI := hid hI.sz
   have HI2 := hid hI2
   clear hlb hsb hI hI2
   unfold ndV
   gi_wp2
   refine hK _ _ hbb ⟨⟨⟨_, HU.out⟩, HI2.out⟩, W.heap.size, rfl, HI.out, HLB.out⟩
  case body =>
   rintro l pre ⟨p1, p2, p3, p4⟩ a' W ⟨⟨⟨v, hLk⟩, hinc⟩, B, rfl, hB, hc⟩ hlen
   obtain ⟨m, hm⟩ := nm (pre.length)
   obtain ⟨va, vc, hv, hlv⟩ := Leads.of_own hLk.row
   subst hv
   have hvl := hlv.len
   rw [hm] at hlv hvl hlen
   have HLK : Hid (Nk V Z4 Z5 Z7 w'.heap.size pre (.slice va m vc) true W) := hid (by have := hLk; rw [hm] at this; exact this)
   have HC := hid hc
   have HINC := hid hinc
   have c4 := clD (i := 0) HLK.out.b4 rfl
   have hWs : w'.heap.size ≤ W.heap.size := HLK.out.sz
   have HMM := hid hm
   clear hLk hinc hc
   obtain ⟨D, hD⟩ := nm (W.drew)
   have hbD : Below W.heap.size W D := by rw [← hD]; exact (Below.refl _ _).drew
   have HD := hid hD
   have HBD := hid hbD
   have r4 : ∀ z : Ext D, z.v.cell? ⟨Z4, 0, none⟩ = some (.slice va m vc) := fun z => clD (klD (klD HLK.out.b4 HBD.out) z.b) rfl
   have b0 : ∀ z : Ext D, z.v.cell? ⟨B, 0, none⟩ = some (.int .u64 p1) := fun z => clD (klD (klD HC.out HBD.out) z.b) rfl
   have b1 : ∀ z : Ext D, z.v.cell? ⟨B, 1, none⟩ = some (.int .u64 p2) := fun z => clD (klD (klD HC.out HBD.out) z.b) rfl
   have b2 : ∀ z : Ext D, z.v.cell? ⟨B, 2, none⟩ = some (.int .u64 p3) := fun z => clD (klD (klD HC.out HBD.out) z.b) rfl
   have b3 : ∀ z : Ext D, z.v.cell? ⟨B, 3, none⟩ = some (.int .u64 p4) := fun z => clD (klD (klD HC.out HBD.out) z.b) rfl
   clear hD hbD
   rcases nil_or_snoc pre with rfl | ⟨L, t, rfl⟩
   ·obtain rfl : m = 0 := by rw [← hm]; rfl
    have HIN2 : Hid (incr ([] ++ [(p1, p2, p3, p4)]) = true) := hid rfl
    gi_wp2
    refine wpIn_region_mix2 (fun V => ∃ z : Ext D, V = z.v) 11 (.q 0 (.q 1 (.q 2 (.q 3 (.q 4 (.q 5 (.q 6 (.q 7 (.h 8 (.q 9 (.q 10 (.done)))))))))))) (fun hq => hq.elim fun a h => h.elim fun w h => h) (by kernel_rfl) (by kernel_rfl) (by kernel_rfl) (by rw [HD.out]; exact ⟨⟨D, Below.refl _ _⟩, rfl⟩) ?_
    rw [HD.out]
    repeat (refine m2q rfl rfl ?_; go_big_quiet_step (fail); refine wpQuiet_nil ?_)
    refine m2h rfl fun R' hR' hO => ?_
    go_wp2
    refine hR' _ _ ⟨⟨D, Below.refl _ _⟩, rfl⟩ ?_
    clear hR' hO R'
    repeat (refine m2q rfl rfl ?_; go_big_quiet_step (fail); refine wpQuiet_nil ?_)
    refine m2d ?_
    simp only [List.drop_succ_cons, List.drop_nil]
    have HBW := HBD
    clear r4 b0 b1 b2 b3 c4
    obtain ⟨W3, hW3, hb7, hs7, hl7⟩ := laid D #[.int .u64 p1, .int .u64 p2, .int .u64 p3, .int .u64 p4] 42
    have HLK2 := hid (HLK.out.grow HBW.out)
    have HLK3 := hid (HLK2.out.grow hb7)
    have HB7' := hid (step HBW.out hb7)
    have HL7 := hid hl7
    have c4 := clD (i := 0) HLK2.out.b4 rfl
    have kB := klD HC.out HBW.out
    have q0 := clD (i := 0) kB rfl
    have q1 := clD (i := 1) kB rfl
    have q2 := clD (i := 2) kB rfl
    have q3 := clD (i := 3) kB rfl
    have hW3s : w'.heap.size ≤ W3.heap.size := HLK3.out.sz
    have HRW : Hid (W3.ownsRow w'.heap.size 42 4 (.slice va 0 vc) 0 (ndcells [])) := hid (by have := HLK3.out.row; rw [HMM.out] at this; exact this)
    have hm6 : 0 ≤ 1000000 := by omega
    clear kB hl7 hs7 hb7
    go_wp2
    gi_wp2_with (gi_at_builtin; refine wpIn_append1 elemNd rfl (.tmp 34) (.tmp 36) rfl w'.heap.size (.slice va 0 vc) 0 (ndcells []) rfl HRW.out D.heap.size (nd4 (p1, p2, p3, p4)) rfl rfl ?c1 ?c2 ?c3 ?c4 ?c5)
    case c1 =>
     intro j u hj
     exact clD HL7.out (by simpa [nd4] using hj)
    case c2 => first | (intro u hu; simp [nd4] at hu; rcases hu with rfl | rfl | rfl | rfl <;> rfl) | rfl | exact hm6
    try (case c3 => exact hm6)
    try (case c4 => omega)
    case c5 =>
     intro v' W4 hown' hb8 hg8
     have n4 := (hb8.block Z4 (by omega)).trans HLK3.out.b4
     have hc10 := clD (i := 0) n4 rfl
     have hf10 := flD (i := 0) n4
     have N4 := hid n4
     have N5 := hid ((hb8.block Z5 (by omega)).trans HLK3.out.b5)
     have N7 := hid ((hb8.block Z7 (by omega)).trans HLK3.out.b7)
     obtain ⟨a', cap', rfl, -⟩ := Leads.of_own hown'
     have HO' := hid hown'
     clear n4 hown'
     gi_wp2
     have hK4 : KeepsOthers W3 W4 := KeepsOthers.of_grownBy hg8 fun j o hj ho => by
      rcases HRW.out.2 with ⟨e, _⟩ | ⟨g, cap, cur, e, _, hh, _⟩
      ·rw [e] at hj; cases hj
      ·rw [e] at hj; cases hj; rw [hh] at ho; cases ho; rfl
     have hKO := ((keepsOthers_of_below HB7'.out).trans hK4).trans (KeepsOthers.setCell W4 ⟨Z4, 0, none⟩ (.slice a' (0 + 1) cap'))
     refine ⟨hKO, ⟨?_, fun k o q1 q2 q3 => hKO.same k o q2 q3⟩, ⟨.slice a' (0 + 1) cap', slD N4.out _, olD N5.out (by omega) _, olD N7.out (by omega) _, ?_, ?_, ?_⟩, HIN2.out⟩
     ·rintro k ⟨hk, hk4, hk7⟩
      exact (Below.heap_setCell W4 ⟨Z4, 0, none⟩ _ _ (by show k ≠ Z4; omega)).trans ((hb8.block _ (by omega)).trans (HB7'.out.block _ (by omega)))
     ·rw [List.length_append, ndcells_snoc, HMM.out, hsz]
      exact ownsRow_setCell_below (a := ⟨Z4, 0, none⟩) HO'.out (by show Z4 < _; omega) _
     ·exact (HLK3.out.below.trans (hb8.mono (by have := HVX.out; omega))).setCell (by show V.heap.size ≤ Z4; have := HVX.out; omega) _
     ·exact Nat.le_trans hW3s (Nat.le_trans hb8.size (by simp [World.setCell]))
   ·obtain ⟨j, hj⟩ := nm (L.length)
    obtain rfl : m = j + 1 := by rw [← hm, List.length_append, hj]; rfl
    obtain ⟨t1, t2, t3, t4⟩ := t
    obtain ⟨vb, vo, rfl, hcc⟩ : ∃ b o, va = some ⟨b, o, none⟩ ∧ ∀ i v, (ndcells (L ++ [(t1, t2, t3, t4)]))[i]? = some v → W.cell? ⟨b, o + i, none⟩ = some v := by
     obtain ⟨_, _, ⟨h, _⟩ | ⟨b, off, e, hb, h4⟩⟩ := hlv
     ·omega
     ·exact ⟨b, off, e, h4⟩
    have hat : ∀ i v, (nd4 (t1, t2, t3, t4))[i]? = some v → (ndcells (L ++ [(t1, t2, t3, t4)]))[j * 4 + i]? = some v := fun i v hv => by
     rw [ndcells_snoc, List.getElem?_append_right (by rw [ndcells_len, hj]; omega), ndcells_len, hj, show j * 4 + i - 4 * j = i by omega]
     exact hv
    have hgl : ∀ (z : Ext D) i v, (nd4 (t1, t2, t3, t4))[i]? = some v → z.v.cell? ⟨vb, vo + (j * 4 + i), none⟩ = some v := fun z i v hv => by
     obtain ⟨a2, c2, e2, hl2⟩ := Leads.of_own (ogr (ogr HLK.out.row HBD.out) z.b)
     simp only [Value.slice.injEq] at e2
     obtain ⟨_, _, ⟨h, _⟩ | ⟨b, off, e, hb, h4⟩⟩ := hl2
     ·rw [HMM.out] at h; omega
     ·rw [← e2.1] at e
      simp only [Option.some.injEq, Addr.mk.injEq, and_true] at e
      obtain ⟨rfl, rfl⟩ := e
      exact h4 _ _ (hat i v hv)
    have g0 : ∀ z : Ext D, z.v.cell? ⟨vb, vo + j * 4, none⟩ = some (.int .u64 t1) := fun z => hgl z 0 _ rfl
    have g1 : ∀ z : Ext D, z.v.cell? ⟨vb, vo + j * 4 + 1, none⟩ = some (.int .u64 t2) := fun z => by rw [Nat.add_assoc]; exact hgl z 1 _ rfl
    have g2 : ∀ z : Ext D, z.v.cell? ⟨vb, vo + j * 4 + 2, none⟩ = some (.int .u64 t3) := fun z => by rw [Nat.add_assoc]; exact hgl z 2 _ rfl
    have g3 : ∀ z : Ext D, z.v.cell? ⟨vb, vo + j * 4 + 3, none⟩ = some (.int .u64 t4) := fun z => by rw [Nat.add_assoc]; exact hgl z 3 _ rfl
    have HAH := hid (fun V => ahead_any (t1, t2, t3, t4) (p1, p2, p3, p4) V)
    obtain ⟨bo, hbo⟩ := nm (aheadN (t1, t2, t3, t4) (p1, p2, p3, p4))
    rw [hbo] at HAH
    have HIN2 : Hid (incr ((L ++ [(t1, t2, t3, t4)]) ++ [(p1, p2, p3, p4)]) = bo) := hid (by rw [incr_snoc, HINC.out]; simp [hbo])
    unfold ndV at HAH
    clear hcc hat hgl hlv hbo
    gi_wp2
    refine wpIn_region_mix2 (fun V => ∃ z : Ext D, V = z.v) 11 (.q 0 (.q 1 (.q 2 (.q 3 (.q 4 (.q 5 (.q 6 (.q 7 (.h 8 (.q 9 (.q 10 (.done)))))))))))) (fun hq => hq.elim fun a h => h.elim fun w h => h) (by kernel_rfl) (by kernel_rfl) (by kernel_rfl) (by rw [HD.out]; exact ⟨⟨D, Below.refl _ _⟩, rfl⟩) ?_
    rw [HD.out]
    repeat (refine m2q rfl rfl ?_; go_big_quiet_step (fail); refine wpQuiet_nil ?_)
    refine m2h rfl fun R' hR' hO => ?_
    go_wp2_with fail
    refine (HAH.out D).mono ?_
    rintro e W2 ⟨rfl, hb2⟩
    have HB2 := hid hb2
    have HBW := hid (step HBD.out hb2)
    clear hb2
    go_wp2
    refine hR' _ _ ⟨⟨W2, HB2.out⟩, rfl⟩ ?_
    clear hR' hO R'
    repeat (refine m2q rfl rfl ?_; go_big_quiet_step (fail); refine wpQuiet_nil ?_)
    refine m2d ?_
    simp only [List.drop_succ_cons, List.drop_nil]
    clear r4 b0 b1 b2 b3 c4 g0 g1 g2 g3 HAH
    cases bo
    case' true =>
     obtain ⟨W3, hW3, hb7, hs7, hl7⟩ := laid W2 #[.int .u64 p1, .int .u64 p2, .int .u64 p3, .int .u64 p4] 42
     have HLK2 := hid (HLK.out.grow HBW.out)
     have HLK3 := hid (HLK2.out.grow hb7)
     have HB7' := hid (step HBW.out hb7)
     have HL7 := hid hl7
     have c4 := clD (i := 0) HLK2.out.b4 rfl
     have kB := klD HC.out HBW.out
     have q0 := clD (i := 0) kB rfl
     have q1 := clD (i := 1) kB rfl
     have q2 := clD (i := 2) kB rfl
     have q3 := clD (i := 3) kB rfl
     have hW3s : w'.heap.size ≤ W3.heap.size := HLK3.out.sz
     have HRW : Hid (W3.ownsRow w'.heap.size 42 4 (.slice (some ⟨vb, vo, none⟩) (j + 1) vc) (j + 1) (ndcells (L ++ [(t1, t2, t3, t4)]))) := hid (by have := HLK3.out.row; rw [HMM.out] at this; exact this)
     have hm6 : (j + 1) ≤ 1000000 := by omega
     clear kB hl7 hs7 hb7
     go_wp2
     gi_wp2_with (gi_at_builtin; refine wpIn_append1 elemNd rfl (.tmp 34) (.tmp 36) rfl w'.heap.size (.slice (some ⟨vb, vo, none⟩) (j + 1) vc) (j + 1) (ndcells (L ++ [(t1, t2, t3, t4)])) rfl HRW.out W2.heap.size (nd4 (p1, p2, p3, p4)) rfl rfl ?c1 ?c2 ?c3 ?c4 ?c5)
     case c1 =>
      intro j u hj
      exact clD HL7.out (by simpa [nd4] using hj)
     case c2 => first | (intro u hu; simp [nd4] at hu; rcases hu with rfl | rfl | rfl | rfl <;> rfl) | rfl | exact hm6
     try (case c3 => exact hm6)
     try (case c4 => omega)
     case c5 =>
      intro v' W4 hown' hb8 hg8
      have n4 := (hb8.block Z4 (by omega)).trans HLK3.out.b4
      have hc10 := clD (i := 0) n4 rfl
      have hf10 := flD (i := 0) n4
      have N4 := hid n4
      have N5 := hid ((hb8.block Z5 (by omega)).trans HLK3.out.b5)
      have N7 := hid ((hb8.block Z7 (by omega)).trans HLK3.out.b7)
      obtain ⟨a', cap', rfl, -⟩ := Leads.of_own hown'
      have HO' := hid hown'
      clear n4 hown'
      gi_wp2
      have hK4 : KeepsOthers W3 W4 := KeepsOthers.of_grownBy hg8 fun j o hj ho => by
       rcases HRW.out.2 with ⟨e, _⟩ | ⟨g, cap, cur, e, _, hh, _⟩
       ·rw [e] at hj; cases hj
       ·rw [e] at hj; cases hj; rw [hh] at ho; cases ho; rfl
      have hKO := ((keepsOthers_of_below HB7'.out).trans hK4).trans (KeepsOthers.setCell W4 ⟨Z4, 0, none⟩ (.slice a' ((j + 1) + 1) cap'))
      refine ⟨hKO, ⟨?_, fun k o q1 q2 q3 => hKO.same k o q2 q3⟩, ⟨.slice a' ((j + 1) + 1) cap', slD N4.out _, olD N5.out (by omega) _, olD N7.out (by omega) _, ?_, ?_, ?_⟩, HIN2.out⟩
      ·rintro k ⟨hk, hk4, hk7⟩
       exact (Below.heap_setCell W4 ⟨Z4, 0, none⟩ _ _ (by show k ≠ Z4; omega)).trans ((hb8.block _ (by omega)).trans (HB7'.out.block _ (by omega)))
      ·rw [List.length_append, ndcells_snoc, HMM.out, hsz]
       exact ownsRow_setCell_below (a := ⟨Z4, 0, none⟩) HO'.out (by show Z4 < _; omega) _
      ·exact (HLK3.out.below.trans (hb8.mono (by have := HVX.out; omega))).setCell (by show V.heap.size ≤ Z4; have := HVX.out; omega) _
      ·exact Nat.le_trans hW3s (Nat.le_trans hb8.size (by simp [World.setCell]))
    case' false =>
     have k7 := klD HLK.out.b7 HBW.out
     have c7 := clD (i := 0) k7 rfl
     have f7 := flD (i := 0) k7
     have HLK2 := hid (HLK.out.grow HBW.out)
     have K7 := hid k7
     clear k7
     go_wp2
     gi_wp2
     refine ⟨(keepsOthers_of_below HBW.out).trans (KeepsOthers.setCell _ _ _), rfl, HIN2.out, _, _, olD HLK2.out.b4 (by omega) _, olD HLK2.out.b5 (by omega) _, slD K7.out _, ownsRow_setCell_below (a := ⟨Z7, 0, none⟩) HLK2.out.row (by show Z7 < _; omega) _, HLK2.out.below.setCell (by show V.heap.size ≤ Z7; have := HVX.out; omega) _, Nat.le_trans HLK2.out.sz (by simp [World.setCell])⟩
  case done =>
   rintro D xs W hD hn ⟨⟨v, hLk⟩, hinc⟩ hK
   have HR : Hid (nodesP M head = (xs, 0)) := hid (by unfold nodesP nodesR; rw [HOK.out, if_neg (by decide), hn]; dsimp only; rw [if_pos hinc])
   obtain ⟨va, vc, hv, -⟩ := Leads.of_own hLk.row
   subst hv
   have c4 := clD (i := 0) hLk.b4 rfl
   have c5 := clD (i := 0) hLk.b5 rfl
   have c7 := clD (i := 0) hLk.b7 rfl
   have f4 := flD (i := 0) hLk.b4
   have f5 := flD (i := 0) hLk.b5
   have n45 : Z4 ≠ Z5 := by omega
   have n54 : Z5 ≠ Z4 := by omega
   have n4D : Z4 ≠ D := by omega
   have n5D : Z5 ≠ D := by omega
   have HK2 := hid (olD (i := 0) (olD (i := 0) hK n4D.symm (.slice va xs.length vc)) n5D.symm (.int .i64 0))
   have H4 := hid (olD (i := 0) (slD (i := 0) hLk.b4 (.slice va xs.length vc)) n45 (.int .i64 0))
   have H5 := hid (slD (i := 0) (olD (i := 0) hLk.b5 n54 (.slice va xs.length vc)) (.int .i64 0))
   have HB := hid ((hLk.below.setCell (p := ⟨Z4, 0, none⟩) (by show V.heap.size ≤ Z4; have := HVX.out; omega) (.slice va xs.length vc)).setCell (p := ⟨Z5, 0, none⟩) (by show V.heap.size ≤ Z5; have := HVX.out; omega) (.int .i64 0))
   have HO := hid (ownsRow_setCell_below (a := ⟨Z5, 0, none⟩) (ownsRow_setCell_below (a := ⟨Z4, 0, none⟩) hLk.row (by show Z4 < _; omega) (.slice va xs.length vc)) (by show Z5 < _; omega) (.int .i64 0))
   have HXX := HVX
   clear hLk hK hn hinc
   go_wp2
   rw [Exit.noGoto_ret]
   refine leaves_idleN (V := V) (by have := HVX.out; omega) HK2.out HB.out H4.out H5.out rfl rfl fun hb e he => ?_
   rw [HR.out]
   refine ⟨_, he, ?_, hb⟩
   refine own_mark (own_base HO.out (by have := HVX.out; omega)) HK2.out _
  case stop =>
   rintro D c pre W hD hn ⟨rfl, hinc, v, pre0, hLk⟩ hK
   have HR : Hid (nodesP M head = ([], 250)) := hid (by
    unfold nodesP nodesR
    rw [HOK.out, if_neg (by decide)]
    cases hq : nodesW M head with
    | none => rfl
    | some xs =>
     dsimp only
     have := hn xs hq
     rw [if_neg (fun h => by rw [incr_prefix this h] at hinc; cases hinc)])
   have c4 := clD (i := 0) hLk.b4 rfl
   have c5 := clD (i := 0) hLk.b5 rfl
   have c7 := clD (i := 0) hLk.b7 rfl
   have f4 := flD (i := 0) hLk.b4
   have f5 := flD (i := 0) hLk.b5
   have n45 : Z4 ≠ Z5 := by omega
   have n54 : Z5 ≠ Z4 := by omega
   have n4D : Z4 ≠ D := by omega
   have n5D : Z5 ≠ D := by omega
   have HK2 := hid (olD (i := 0) (olD (i := 0) hK n4D.symm (.slice none 0 0)) n5D.symm (.int .i64 250))
   have H4 := hid (olD (i := 0) (slD (i := 0) hLk.b4 (.slice none 0 0)) n45 (.int .i64 250))
   have H5 := hid (slD (i := 0) (olD (i := 0) hLk.b5 n54 (.slice none 0 0)) (.int .i64 250))
   have HB := hid ((hLk.below.setCell (p := ⟨Z4, 0, none⟩) (by show V.heap.size ≤ Z4; have := HVX.out; omega) (.slice none 0 0)).setCell (p := ⟨Z5, 0, none⟩) (by show V.heap.size ≤ Z5; have := HVX.out; omega) (.int .i64 250))
   clear hLk hK hn hinc
   go_wp2
   rw [Exit.noGoto_ret]
   refine leaves_idleN (V := V) (by have := HVX.out; omega) HK2.out HB.out H4.out H5.out rfl rfl fun hb e he => ?_
   rw [HR.out]
   exact ⟨_, he, World.ownsRow_nil _ _ _ _, hb⟩
  case panic =>
   rintro D c pre W hD ⟨hn, rfl⟩ ⟨⟨v, hLk⟩, -⟩ hK
   have HR : Hid (nodesP M head = ([], 250)) := hid (by unfold nodesP nodesR; rw [HOK.out, if_neg (by decide), hn])
   refine leaves_caughtN (V := V) (by have := HVX.out; omega) hLk.b4 hLk.b5 hLk.below hK (by have := HVX.out; omega) (by have := HVX.out; omega) rfl rfl fun W' hb e he => ?_
   rw [HR.out]
   exact ⟨_, he, World.ownsRow_nil _ _ _ _, hb⟩
end Go.Proofs.YtipohagcppfgiaaGreat
