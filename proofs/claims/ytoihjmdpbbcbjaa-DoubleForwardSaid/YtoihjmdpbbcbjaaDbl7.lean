/- Lists linked both ways: look. -/
import Derived.Test.YtoihjmdpbbcbjaaDbl6
import Derived.Test.YtoihjmdpbbcbjaaRegion4
namespace Go.Proofs.Ytoihjmdpbbcbjaa
open Go.RowKit
open Go.Proofs
set_option linter.unusedVariables false
attribute [local go_sem] Oper.semAt_some

theorem elemTw : Elem Try.prog 32 28 3 24 := Elem.mk' (z := .agg #[.int .u64 0, .int .u64 0, .int .u64 0]) Try.underlying32 (by kernel_rfl) rfl (by decide) (by decide)
def tw3 (t : Tw) : List Value := [.int .u64 ((t.1 : Nat) : Int), .int .u64 ((t.2.1 : Nat) : Int), .int .u64 ((t.2.2 : Nat) : Int)]
def twcells (xs : List Tw) : List Value := xs.flatMap tw3
theorem twcells_snoc (xs : List Tw) (t : Tw) : twcells (xs ++ [t]) = twcells xs ++ tw3 t := by simp [twcells]
/-- What look comes to. -/
def LookP (M : Mem) (head : Nat) (V : World) (e : Ending) (W : World) : Prop := Below V.heap.size V W ∧
  ((okM M = false ∧ e = .returned (.tuple #[.slice none 0 0, .map none, .int .i64 120])) ∨
   (okM M = true ∧ nodesN M head = none ∧ e = .returned (.tuple #[.slice none 0 0, .map none, .int .i64 260])) ∨
   (okM M = true ∧ ∃ (xs : List Tw) (met : List Nat) (v : Value) (mb : Nat), nodesN M head = some (xs, met) ∧ e = .returned (.tuple #[v, .map (some mb), .int .i64 0]) ∧ W.ownsRow V.heap.size 28 3 v xs.length (twcells xs) ∧ IdsJ W mb (ones met)))
theorem look_result {W : World} {a b c : Nat} {v0 v1 v2 : Value} {tmps : Array Value} (h0 : W.heap[a]? = some (.cells #[v0] 32 (0, 0))) (h1 : W.heap[b]? = some (.cells #[v1] 72 (0, 0))) (h2 : W.heap[c]? = some (.cells #[v2] 33 (0, 0)))
    (q0 : tmps[4]?.getD undef = .pointer (some ⟨a, 0, none⟩)) (q1 : tmps[5]?.getD undef = .pointer (some ⟨b, 0, none⟩)) (q2 : tmps[6]?.getD undef = .pointer (some ⟨c, 0, none⟩)) :
    (results Try.f31 tmps).run Try.prog W = .ok (.tuple #[v0, v1, v2]) W := by
  have c0 := cell_laid (i := 0) (v := v0) h0 rfl
  have c1 := cell_laid (i := 0) (v := v1) h1 rfl
  have c2 := cell_laid (i := 0) (v := v2) h2 rfl
  simp [results, Try.results31, go_sem, q0, q1, q2, c0, c1, c2]
/-- What the loop over nodes has made. -/
structure Lk (V : World) (Z4 Z5 Z6 base : Nat) (pre : List Tw) (v : Value) (W : World) : Prop where
  b4 : W.heap[Z4]? = some (.cells #[v] 32 (0, 0))
  b5 : W.heap[Z5]? = some (.cells #[.map none] 72 (0, 0))
  b6 : W.heap[Z6]? = some (.cells #[.int .i64 0] 33 (0, 0))
  row : W.ownsRow base 28 3 v pre.length (twcells pre)
  below : Below V.heap.size V W
  sz : base ≤ W.heap.size
theorem Lk.abide {V A B : World} {Z4 Z5 Z6 base Bs : Nat} {pre : List Tw} {v : Value} {row : Option Nat} (h : Lk V Z4 Z5 Z6 base pre v A) (hg : A.grownBy B row)
    (hr : ∀ r, row = some r → r = Bs ∨ (base ≤ r ∧ ∃ o, A.heap[r]? = some o ∧ o.isCells = false)) (h4 : Z4 ≠ Bs) (h5 : Z5 ≠ Bs) (h6 : Z6 ≠ Bs) (hb : Bs < base) (hw : V.heap.size ≤ Bs) : Lk V Z4 Z5 Z6 base pre v B :=
  ⟨cells_abide h.b4 hg hr h4, cells_abide h.b5 hg hr h5, cells_abide h.b6 hg hr h6, own_abide h.row hg hr hb, below_abide h.below hg hr hw (by omega), Nat.le_trans h.sz hg.size⟩
theorem Lk.grow {V A B : World} {Z4 Z5 Z6 base : Nat} {pre : List Tw} {v : Value} (h : Lk V Z4 Z5 Z6 base pre v A) (hb : Below A.heap.size A B) : Lk V Z4 Z5 Z6 base pre v B :=
  ⟨keep_laid h.b4 hb, keep_laid h.b5 hb, keep_laid h.b6 hb, own_grow h.row hb, h.below.trans (hb.mono h.below.size), Nat.le_trans h.sz hb.size⟩
/-- What look's last part reads. -/
structure RE (Z4 Lb mb : Nat) (v : Value) where
  w : World
  z4 : w.cell? ⟨Z4, 0, none⟩ = some v
  b4 : w.cell? ⟨Lb, 4, none⟩ = some (.map (some mb))

theorem nodes_any (Lb : Nat) (V : World) : Calls Try.prog 48 #[.pointer (some ⟨Lb, 0, none⟩)] V (fun e W => e = .returned (.func (.func 63) #[] #[.pointer (some ⟨V.heap.size, 0, none⟩)]) ∧ W = V.alloc (.cells #[.pointer (some ⟨Lb, 0, none⟩)] 102)) := by
  have hmf : ∀ (fn : Fn) (first cap : Array Value) (w : World), (Instr.makeFunc fn first cap).run Try.prog w = .ok (.func fn first cap) w := fun _ _ _ _ => rfl
  go_enter Try.func48, Try.ntmps48
  go_wp2
  go_ret
  exact ⟨rfl, rfl⟩

theorem look1_invoke (Z4 Z5 Z6 : Nat) (W : World) : (invoke (Target.fn (Fn.func 47) #[.pointer (some ⟨Z4, 0, none⟩), .pointer (some ⟨Z5, 0, none⟩), .pointer (some ⟨Z6, 0, none⟩)]) #[]).run Try.prog W = .ok (.enter 47 #[.pointer (some ⟨Z4, 0, none⟩), .pointer (some ⟨Z5, 0, none⟩), .pointer (some ⟨Z6, 0, none⟩)]) W := by
  simp [invoke, go_sem]
theorem leaves_caught {V W : World} {Z4 Z5 Z6 base D : Nat} {pre : List Tw} {v : Value} {tmps : Array Value} {R : Ending → World → Prop} (hD : base ≤ D) (h : Lk V Z4 Z5 Z6 base pre v W) (hK : W.heap[D]? = some (.deferred (some []))) (h4 : V.heap.size ≤ Z4) (h5 : V.heap.size ≤ Z5) (h6 : V.heap.size ≤ Z6) (hb : V.heap.size ≤ base)
    (q0 : tmps[4]?.getD undef = .pointer (some ⟨Z4, 0, none⟩)) (q1 : tmps[5]?.getD undef = .pointer (some ⟨Z5, 0, none⟩)) (q2 : tmps[6]?.getD undef = .pointer (some ⟨Z6, 0, none⟩))
    (hR : ∀ W', Below V.heap.size V W' → ∀ e, e = Ending.returned (.tuple #[.slice none 0 0, .map none, .int .i64 260]) → R e W') :
    LeavesInM Fence.wide 5 Try.prog Try.f31 tmps R [{ target := .collected D, args := #[] }, { target := .fn (.func 47) #[.pointer (some ⟨Z4, 0, none⟩), .pointer (some ⟨Z5, 0, none⟩), .pointer (some ⟨Z6, 0, none⟩)], args := #[] }] (.panicking brk) W := by
  refine ⟨by simp, .inl ⟨D, _, rfl, run_takeDeferred hK, ⟨by simp, .inr ⟨(fun h => by cases h), _, _, _, _, rfl, look1_invoke _ _ _ _, fun _ _ => trivial, ?_⟩⟩⟩⟩
  have k : ∀ {b : Nat} {cs : Array Value} {T : TypeId}, W.heap[b]? = some (.cells cs T (0, 0)) → (W.putObj D (.deferred none)).heap[b]? = some (.cells cs T (0, 0)) := by
    intro b cs T hb
    refine (World.putObj_heap_other ?_).trans hb
    rintro rfl
    rw [hb] at hK
    cases hK
  refine (look1_caught Z4 Z5 Z6 v _ _ [] _ (k h.b4) (k h.b5) (k h.b6)).mono ?_
  rintro e u W' ⟨rfl, rfl, c4, c5, c6, hB⟩
  exact ⟨_, look_result c4 c5 c6 q0 q1 q2, hR _ (hB _ _ h4 h5 h6 (below_mark h.below (Nat.le_trans hb hD) hK)) _ rfl⟩
theorem leaves_idle {V W : World} {Z4 Z5 Z6 D : Nat} {v0 v1 v2 : Value} {tmps : Array Value} {R : Ending → World → Prop} (hD : V.heap.size ≤ D) (hK : W.heap[D]? = some (.deferred (some []))) (hbl : Below V.heap.size V W)
    (c4 : W.heap[Z4]? = some (.cells #[v0] 32 (0, 0))) (c5 : W.heap[Z5]? = some (.cells #[v1] 72 (0, 0))) (c6 : W.heap[Z6]? = some (.cells #[v2] 33 (0, 0)))
    (q0 : tmps[4]?.getD undef = .pointer (some ⟨Z4, 0, none⟩)) (q1 : tmps[5]?.getD undef = .pointer (some ⟨Z5, 0, none⟩)) (q2 : tmps[6]?.getD undef = .pointer (some ⟨Z6, 0, none⟩))
    (hR : Below V.heap.size V (W.putObj D (.deferred none)) → ∀ e, e = Ending.returned (.tuple #[v0, v1, v2]) → R e (W.putObj D (.deferred none))) :
    LeavesInM Fence.wide 5 Try.prog Try.f31 tmps R [{ target := .collected D, args := #[] }, { target := .fn (.func 47) #[.pointer (some ⟨Z4, 0, none⟩), .pointer (some ⟨Z5, 0, none⟩), .pointer (some ⟨Z6, 0, none⟩)], args := #[] }] .returning W := by
  refine ⟨by simp, .inl ⟨D, _, rfl, run_takeDeferred hK, ⟨by simp, .inr ⟨(fun h => by cases h), _, _, _, _, rfl, look1_invoke _ _ _ _, fun _ _ => trivial, ?_⟩⟩⟩⟩
  have k : ∀ {b : Nat} {cs : Array Value} {T : TypeId}, W.heap[b]? = some (.cells cs T (0, 0)) → (W.putObj D (.deferred none)).heap[b]? = some (.cells cs T (0, 0)) := by
    intro b cs T hb
    refine (World.putObj_heap_other ?_).trans hb
    rintro rfl
    rw [hb] at hK
    cases hK
  refine (look1_idle Z4 Z5 Z6 _).mono ?_
  rintro e u W' ⟨rfl, rfl, rfl⟩
  exact ⟨_, look_result (k c4) (k c5) (k c6) q0 q1 q2, hR (below_mark hbl hD hK) _ rfl⟩

set_option maxRecDepth 100000 in
set_option maxHeartbeats 4000000 in
theorem look_any (M : Mem) (wa la : Option Addr) (wc lc head : Nat) (V : World) (h : MemL V wa wc la lc M) (hh : head < 18446744073709551616) (hW : ∀ x ∈ M.W, x < 18446744073709551616) :
    Calls Try.prog 31 #[memV wa wc la lc M, .int .u64 ((head : Nat) : Int)] V (LookP M head V) := by
  obtain ⟨V1, hV1, hb1, hs1, hl1⟩ := laid V #[.slice wa M.W.length wc, .slice la M.L.length lc, .bool M.F] 25
  obtain ⟨V2, hV2, hb2, hs2, hl2⟩ := laid V1 #[.slice none 0 0] 32
  obtain ⟨V3, hV3, hb3, hs3, hl3⟩ := laid V2 #[.map none] 72
  obtain ⟨V4, hV4, hb4, hs4, hl4⟩ := laid V3 #[.int .i64 0] 33
  obtain ⟨X0, hX0⟩ : ∃ X, V.heap.size = X := ⟨_, rfl⟩
  obtain ⟨Z4, hZ4⟩ : ∃ X, V1.heap.size = X := ⟨_, rfl⟩
  obtain ⟨Z5, hZ5⟩ : ∃ X, V2.heap.size = X := ⟨_, rfl⟩
  obtain ⟨Z6, hZ6⟩ : ∃ X, V3.heap.size = X := ⟨_, rfl⟩
  rw [hX0] at hl1
  rw [hZ4] at hl2
  rw [hZ5] at hl3
  rw [hZ6] at hl4
  have K0 := hid (keep_laid hl1 (step (step hb2 hb3) hb4))
  have K4 := hid (keep_laid hl2 (step hb3 hb4))
  have K5 := hid (keep_laid hl3 hb4)
  have K6 := hid hl4
  have HB4 := hid (step (step (step hb1 hb2) hb3) hb4)
  have hX4 : X0 < Z4 := by omega
  have h45 : Z4 < Z5 := by omega
  have h56 : Z5 < Z6 := by omega
  have HX := hid hX0
  have HM := hid (h.grow HB4.out)
  have HCK := hid (Check_any M wa la wc lc V4 HM.out)
  have HL0 := hid h
  have HSZ4 : Hid (V4.heap.size = Z6 + 1) := hid (by rw [hs4, hZ6])
  obtain ⟨x0, x1, x2⟩ := cells3 K0.out
  unfold memV at HCK
  have hwl := h.w.len
  have hll := h.l.len
  unfold memV
  have hmf : ∀ (fn : Fn) (first cap : Array Value) (w : World), (Instr.makeFunc fn first cap).run Try.prog w = .ok (.func fn first cap) w := fun _ _ _ _ => rfl
  have hmm := @run_makeMap Try.prog
  obtain ⟨n, hn⟩ : ∃ n, M.W.length = n := ⟨_, rfl⟩
  obtain ⟨m, hm⟩ : ∃ n, M.L.length = n := ⟨_, rfl⟩
  obtain ⟨F, hF⟩ : ∃ n, M.F = n := ⟨_, rfl⟩
  rw [hn] at hV1 x0 hwl HCK ⊢
  rw [hm] at hV1 x1 hll HCK ⊢
  rw [hF] at hV1 x2 HCK ⊢
  have HN := hid hn
  have HMM := hid hm
  have HF := hid hF
  have HW := hid hW
  clear hb1 hs1 hl1 hb2 hs2 hl2 hb3 hs3 hl3 hb4 hs4 hl4 hW hn hm hF
  cases hok : okM M with
  | false =>
    rw [hok, if_neg (by decide)] at HCK
    have HOK := hid hok
    clear hok h hmm
    refine calls_of_wp_marks Try.func31 rfl ?_
    simp only [Try.ntmps31, List.size_toArray, List.length_cons, List.length_nil, Nat.reduceAdd, Nat.reduceSub, Array.replicate_succ, Array.replicate_zero, List.push_toArray, List.append_toArray, List.nil_append, List.cons_append]
    go_wp2_with fail
    refine HCK.out.mono ?_
    rintro e V5 ⟨rfl, hb5⟩
    have k4 := keep_laid K4.out hb5
    have k5 := keep_laid K5.out hb5
    have k6 := keep_laid K6.out hb5
    have f0 := free_laid (i := 0) k4
    have f1 := free_laid (i := 0) k5
    have f2 := free_laid (i := 0) k6
    have c0 := cell_laid (i := 0) k4 rfl
    have c1 := cell_laid (i := 0) k5 rfl
    have c2 := cell_laid (i := 0) k6 rfl
    have n45 : Z4 ≠ Z5 := by omega
    have n54 : Z5 ≠ Z4 := by omega
    have n46 : Z4 ≠ Z6 := by omega
    have n64 : Z6 ≠ Z4 := by omega
    have n56 : Z5 ≠ Z6 := by omega
    have n65 : Z6 ≠ Z5 := by omega
    have H4 := hid (other_laid (i := 0) (other_laid (i := 0) (set_laid (i := 0) k4 (.slice none 0 0)) n45 (.map none)) n46 (.int .i64 120))
    have H5 := hid (other_laid (i := 0) (set_laid (i := 0) (other_laid (i := 0) k5 n54 (.slice none 0 0)) (.map none)) n56 (.int .i64 120))
    have H6 := hid (set_laid (i := 0) (other_laid (i := 0) (other_laid (i := 0) k6 n64 (.slice none 0 0)) n65 (.map none)) (.int .i64 120))
    have HB := hid ((((step HB4.out hb5).setCell (p := ⟨Z4, 0, none⟩) (by show V.heap.size ≤ Z4; omega) (.slice none 0 0)).setCell (p := ⟨Z5, 0, none⟩) (by show V.heap.size ≤ Z5; omega) (.map none)).setCell (p := ⟨Z6, 0, none⟩) (by show V.heap.size ≤ Z6; omega) (.int .i64 120))
    clear k4 k5 k6 hb5 x0 x1 x2
    go_wp2
    exact leaves_none (look_result H4.out H5.out H6.out rfl rfl rfl) ⟨HB.out, .inl ⟨HOK.out, rfl⟩⟩
  | true =>
    rw [hok, if_pos rfl] at HCK
    obtain ⟨hn1, hn4, hmn, -⟩ := okM_spec hok
    have hnm : m = n := by rw [← HN.out, ← HMM.out]; exact hmn
    subst hnm
    have HOK := hid hok
    have hn4' : m ≤ 4096 := by rw [← HN.out]; exact hn4
    clear hok hn1 hn4 hmn
    refine calls_of_wp_marks Try.func31 rfl ?_
    simp only [Try.ntmps31, List.size_toArray, List.length_cons, List.length_nil, Nat.reduceAdd, Nat.reduceSub, Array.replicate_succ, Array.replicate_zero, List.push_toArray, List.append_toArray, List.nil_append, List.cons_append]
    go_wp2_with fail
    refine HCK.out.mono ?_
    rintro e V5 ⟨rfl, hb5⟩
    obtain ⟨V6, hV6⟩ : ∃ V6, V5.alloc (.map #[] 0) = V6 := ⟨_, rfl⟩
    have hb6 : Below V5.heap.size V5 V6 := by rw [← hV6]; exact (Below.refl _ _).alloc (Nat.le_refl _) _
    have hi6 : IdsJ V6 V5.heap.size (ones []) := by rw [← hV6]; exact IdsJ.made V5
    have hs6 : V6.heap.size = V5.heap.size + 1 := by rw [← hV6]; simp
    obtain ⟨mb, hmb⟩ : ∃ X, V5.heap.size = X := ⟨_, rfl⟩
    obtain ⟨V7, hV7, hb7, hs7, hl7⟩ := laid V6 #[.slice wa m wc, .slice la m lc, .bool F, .int .u64 ((head : Nat) : Int), .map (some mb)] 104
    obtain ⟨Lb, hLb⟩ : ∃ X, V6.heap.size = X := ⟨_, rfl⟩
    obtain ⟨V8, hV8, hb8, hs8, hl8⟩ := laid V7 #[.pointer (some ⟨Lb, 0, none⟩)] 102
    obtain ⟨X, hX⟩ : ∃ X, V7.heap.size = X := ⟨_, rfl⟩
    rw [hmb] at hi6
    rw [hLb] at hl7
    rw [hX] at hl8
    obtain ⟨x0, x1, x2⟩ := cells3 (keep_laid K0.out hb5)
    rw [HN.out] at x0
    rw [HMM.out] at x1
    rw [HF.out] at x2
    have HV7 := hid hV7
    have HV6 := hid hV6
    have HSZ5 := hid (show Z6 + 1 ≤ mb from by have := hb5.size; have := HSZ4.out; omega)
    have HSZ : Hid (mb + 1 = Lb ∧ Lb + 1 = X ∧ V8.heap.size = X + 1) := hid ⟨by omega, by omega, by omega⟩
    have HB48 := hid (step hb5 (step (step hb6 hb7) hb8))
    have HB8 := hid (step HB4.out HB48.out)
    have HLst : Hid (Lst Lb mb wa wc la lc m head M [] V8) := hid (by
      refine ⟨?_, HM.out.grow HB48.out, hi6.grow (step hb7 hb8)⟩
      rw [HF.out]
      exact keep_laid hl7 hb8)
    have HX8 := hid hl8
    have K48 := hid (keep_laid K4.out HB48.out)
    have K58 := hid (keep_laid K5.out HB48.out)
    have K68 := hid (keep_laid K6.out HB48.out)
    have e8 := hV8
    have e7 := hX
    clear h hb5 hb6 hb7 hb8 hs6 hs7 hs8 hi6 hl7 hl8 hV8 hX hwl hll
    go_wp2_with (go_at_call 48; refine (nodes_any Lb _).mono ?_; rintro e w' ⟨rfl, rfl⟩)
    clear e8 e7 x0 x1 x2
    have hkw : ∀ b off, wa = some ⟨b, off, none⟩ → b < X0 := by
      rintro b off rfl
      obtain ⟨_, _, ⟨q, _⟩ | ⟨b', o', q, q2, _⟩⟩ := HL0.out.w
      · have := (okM_spec HOK.out).1; omega
      · cases q; rw [HX.out] at q2; exact q2
    have hkl : ∀ b off, la = some ⟨b, off, none⟩ → b < X0 := by
      rintro b off rfl
      obtain ⟨_, _, ⟨q, _⟩ | ⟨b', o', q, q2, _⟩⟩ := HL0.out.l
      · have := okM_spec HOK.out; omega
      · cases q; rw [HX.out] at q2; exact q2
    have HKW := hid hkw
    have HKL := hid hkl
    have qs1 : mb < Lb := by have := HSZ.out; omega
    have qs2 : Lb < X := by have := HSZ.out; omega
    have qs3 : X < V8.heap.size := by have := HSZ.out; omega
    have qs0 := HSZ5.out
    have HV8 : Hid (V.heap.size ≤ X0) := hid (by rw [HX.out]; exact Nat.le_refl _)
    clear hkw hkl
    refine wp_rangeP (Bs := mb) (gf := 63) (lb := #[.pointer (some ⟨X, 0, none⟩)]) rfl (enters_of Try.func63 (by kernel_rfl) rfl)
      (nodes_seq Lb mb X (V8.heap.size + 2) head m wa wc la lc M (fun k => k < V8.heap.size ∧ k ≠ Z4) HN.out HMM.out hn4' hh HW.out ⟨by omega, by omega⟩ ⟨by omega, by omega⟩ ⟨by omega, by omega⟩ (fun b off e => by have := HKW.out b off e; exact ⟨by omega, by omega⟩) (fun b off e => by have := HKL.out b off e; exact ⟨by omega, by omega⟩) (by omega))
      (fun k hk => hk.1) (by omega) (fun o o' => ?hR) (fun _ => rfl)
      (fun pre W => ∃ v, Lk V Z4 Z5 Z6 V8.heap.size pre v W) ?hI ?h0
      (fun t pre p a' W => (∃ v, Lk V Z4 Z5 Z6 V8.heap.size pre v W) ∧ ∃ B, a' = { tmps := (t.setIfInBounds 23 (twV p)).setIfInBounds 9 (.pointer (some ⟨B, 0, none⟩)), defers := [] } ∧ V8.heap.size ≤ B ∧ W.heap[B]? = some (.cells #[.int .u64 ((p.1 : Nat) : Int), .int .u64 ((p.2.1 : Nat) : Int), .int .u64 ((p.2.2 : Nat) : Int)] 28 (0, 0))) ?hAx ?assign ?body ?done ?panic ?sput
    case hR =>
      have g1 := (Below.refl V8.heap.size V8).alloc (Nat.le_refl _) o
      have g2 : Below V8.heap.size V8 ((V8.alloc o).alloc o') := g1.alloc (Nat.le_of_lt (by simp)) o'
      exact ⟨HLst.out.grow g2, keep_laid HX8.out g2⟩
    case hI => exact fun s A B row ⟨v, hs⟩ hg hr => ⟨v, hs.abide hg hr (by omega) (by omega) (by omega) (by omega) (by omega)⟩
    case h0 => exact ⟨_, K48.out, K58.out, K68.out, World.ownsRow_nil _ _ _ _, HB8.out, Nat.le_refl _⟩
    case hAx =>
      rintro t pre p a' A B row ⟨⟨v, hU⟩, b, e, hb, hc⟩ hg hr
      refine ⟨⟨v, hU.abide (Bs := mb) hg (fun r e => .inr (hr r e)) (by omega) (by omega) (by omega) (by omega) (by omega)⟩, b, e, hb, cells_abide (Bs := mb) (B0 := V8.heap.size) hc hg (fun r e => .inr (hr r e)) (by omega)⟩
    case assign =>
      rintro l pre ⟨p1, p2, p3⟩ W K ⟨v, hI⟩ hlen hK
      obtain ⟨wb, hwb, hbb, hsb, hlb⟩ := laid W #[.int .u64 ((p1 : Nat) : Int), .int .u64 ((p2 : Nat) : Int), .int .u64 ((p3 : Nat) : Int)] 28
      have HLB := hid hlb
      have HU := hid (hI.grow hbb)
      have HI := hid hI.sz
      clear hlb hsb hI
      unfold twV
      gi_wp2
      refine hK _ _ hbb ⟨⟨_, HU.out⟩, W.heap.size, rfl, HI.out, HLB.out⟩
    case body =>
      rintro l pre ⟨p1, p2, p3⟩ a' W ⟨⟨v, hLk⟩, B, rfl, hB, hc⟩ hlen
      have hc5 := cell_laid (i := 0) (v := v) hLk.b4 rfl
      obtain ⟨hcB0, hcB1, hcB2⟩ := cells3 hc
      obtain ⟨W3, hW3, hb7, hs7, hl7⟩ := laid W #[.int .u64 ((p1 : Nat) : Int), .int .u64 ((p2 : Nat) : Int), .int .u64 ((p3 : Nat) : Int)] 28
      have hWs : V8.heap.size ≤ W.heap.size := hLk.sz
      have HLK := hid (hLk.grow hb7)
      have HL7 := hid hl7
      have hW3s : V8.heap.size ≤ W3.heap.size := HLK.out.sz
      have hlen' : pre.length ≤ 1000000 := by omega
      have HB7 := hid hb7
      clear hLk hc hl7 hs7 hb7
      gi_wp2_with (gi_at_builtin; refine wpIn_append1 elemTw rfl (.tmp 24) (.tmp 26) rfl V8.heap.size v pre.length (twcells pre) rfl HLK.out.row W.heap.size (tw3 (p1, p2, p3)) rfl rfl ?c1 ?c2 ?c3 ?c4 ?c5)
      case c1 =>
        intro j u hj
        exact cell_laid HL7.out (by simpa [tw3] using hj)
      case c2 => first | (intro u hu; simp [tw3] at hu; rcases hu with rfl | rfl | rfl <;> rfl) | rfl | exact hlen'
      try (case c3 => exact hlen')
      try (case c4 => omega)
      case c5 =>
        intro v' W4 hown' hb8 hg8
        have n4 := (hb8.block Z4 (by omega)).trans HLK.out.b4
        have hc10 := cell_laid (i := 0) (v := v) n4 rfl
        have hf10 := free_laid (i := 0) n4
        have N4 := hid n4
        have N5 := hid ((hb8.block Z5 (by omega)).trans HLK.out.b5)
        have N6 := hid ((hb8.block Z6 (by omega)).trans HLK.out.b6)
        obtain ⟨a', cap', rfl, -⟩ := Leads.of_own hown'
        have HO' := hid hown'
        clear n4 hown'
        gi_wp2
        have hK4 : KeepsOthers W3 W4 := KeepsOthers.of_grownBy hg8 fun j o hj ho => by
          rcases HLK.out.row.2 with ⟨e, _⟩ | ⟨g, cap, cur, e, _, hh, _⟩
          · rw [e] at hj; cases hj
          · rw [e] at hj; cases hj; rw [hh] at ho; cases ho; rfl
        refine ⟨((keepsOthers_of_below HB7.out).trans hK4).trans (KeepsOthers.setCell _ _ _), ?_, .slice a' (pre.length + 1) cap', set_laid N4.out _, other_laid N5.out (by omega) _, other_laid N6.out (by omega) _, ?_, ?_, ?_⟩
        · rintro k ⟨hk, hk4⟩
          exact (Below.heap_setCell W4 ⟨Z4, 0, none⟩ _ _ (by show k ≠ Z4; omega)).trans ((hb8.block _ (by omega)).trans (HB7.out.block _ (by omega)))
        · rw [List.length_append, twcells_snoc]
          exact ownsRow_setCell_below (a := ⟨Z4, 0, none⟩) HO'.out (by show Z4 < _; omega) _
        · exact (HLK.out.below.trans (hb8.mono (by omega))).setCell (by show V.heap.size ≤ Z4; omega) _
        · exact Nat.le_trans hW3s (Nat.le_trans hb8.size (by simp [World.setCell]))
    case done =>
      rintro D xs W hD ⟨met, hn, hL⟩ ⟨v, hLk⟩ hK
      have KK := hid hK
      have HLK := hid hLk
      have HL := hid hL
      have HNN := hid hn
      have hdr : ∃ z : RE Z4 Lb mb v, W.drew = z.w := ⟨⟨W.drew, cell_laid (keep_laid hLk.b4 (Below.refl _ _).drew) rfl, cell_laid (keep_laid hL.blk (Below.refl _ _).drew) rfl⟩, rfl⟩
      haveI : Nonempty (RE Z4 Lb mb v) := hdr.elim fun z _ => ⟨z⟩
      have r0 : ∀ z : RE Z4 Lb mb v, z.w.cell? ⟨Z4, 0, none⟩ = some v := fun z => z.z4
      have r1 : ∀ z : RE Z4 Lb mb v, z.w.cell? ⟨Lb, 4, none⟩ = some (.map (some mb)) := fun z => z.b4
      obtain ⟨va, vc, hv, -⟩ := Leads.of_own hLk.row
      subst hv
      have k4 := keep_laid hLk.b4 (Below.refl _ _).drew
      have k5 := keep_laid hLk.b5 (Below.refl _ _).drew
      have k6 := keep_laid hLk.b6 (Below.refl _ _).drew
      have kl := keep_laid hL.blk (Below.refl _ _).drew
      have n45 : Z4 ≠ Z5 := by omega
      have n54 : Z5 ≠ Z4 := by omega
      have n46 : Z4 ≠ Z6 := by omega
      have n64 : Z6 ≠ Z4 := by omega
      have n56 : Z5 ≠ Z6 := by omega
      have n65 : Z6 ≠ Z5 := by omega
      have nl4 : Lb ≠ Z4 := by omega
      have nl5 : Lb ≠ Z5 := by omega
      have nl6 : Lb ≠ Z6 := by omega
      obtain ⟨w1, hw1⟩ : ∃ w1, W.drew.setCell ⟨Z4, 0, none⟩ (.slice va xs.length vc) = w1 := ⟨_, rfl⟩
      have a4 : w1.heap[Z4]? = some (.cells #[.slice va xs.length vc] 32 (0, 0)) := by rw [← hw1]; exact set_laid (i := 0) k4 (.slice va xs.length vc)
      have a5 : w1.heap[Z5]? = some (.cells #[.map none] 72 (0, 0)) := by rw [← hw1]; exact other_laid (i := 0) k5 n54 (.slice va xs.length vc)
      have a6 : w1.heap[Z6]? = some (.cells #[.int .i64 0] 33 (0, 0)) := by rw [← hw1]; exact other_laid (i := 0) k6 n64 (.slice va xs.length vc)
      have al : w1.heap[Lb]? = some (.cells #[.slice wa m wc, .slice la m lc, .bool M.F, .int .u64 ((head : Nat) : Int), .map (some mb)] 104 (0, 0)) := by rw [← hw1]; exact other_laid (i := 0) kl nl4 (.slice va xs.length vc)
      obtain ⟨w2, hw2⟩ : ∃ w2, w1.setCell ⟨Z5, 0, none⟩ (.map (some mb)) = w2 := ⟨_, rfl⟩
      have b4 : w2.heap[Z4]? = some (.cells #[.slice va xs.length vc] 32 (0, 0)) := by rw [← hw2]; exact other_laid (i := 0) a4 n45 (.map (some mb))
      have b5 : w2.heap[Z5]? = some (.cells #[.map (some mb)] 72 (0, 0)) := by rw [← hw2]; exact set_laid (i := 0) a5 (.map (some mb))
      have b6 : w2.heap[Z6]? = some (.cells #[.int .i64 0] 33 (0, 0)) := by rw [← hw2]; exact other_laid (i := 0) a6 n65 (.map (some mb))
      have bl : w2.heap[Lb]? = some (.cells #[.slice wa m wc, .slice la m lc, .bool M.F, .int .u64 ((head : Nat) : Int), .map (some mb)] 104 (0, 0)) := by rw [← hw2]; exact other_laid (i := 0) al nl5 (.map (some mb))
      obtain ⟨w3, hw3⟩ : ∃ w3, w2.setCell ⟨Z6, 0, none⟩ (.int .i64 0) = w3 := ⟨_, rfl⟩
      have c4 : w3.heap[Z4]? = some (.cells #[.slice va xs.length vc] 32 (0, 0)) := by rw [← hw3]; exact other_laid (i := 0) b4 n46 (.int .i64 0)
      have c5 : w3.heap[Z5]? = some (.cells #[.map (some mb)] 72 (0, 0)) := by rw [← hw3]; exact other_laid (i := 0) b5 n56 (.int .i64 0)
      have c6 : w3.heap[Z6]? = some (.cells #[.int .i64 0] 33 (0, 0)) := by rw [← hw3]; exact set_laid (i := 0) b6 (.int .i64 0)
      have cl : w3.heap[Lb]? = some (.cells #[.slice wa m wc, .slice la m lc, .bool M.F, .int .u64 ((head : Nat) : Int), .map (some mb)] 104 (0, 0)) := by rw [← hw3]; exact other_laid (i := 0) bl nl6 (.int .i64 0)
      have k3 : ∀ {k : Nat} {o : Obj}, W.heap[k]? = some o → k ≠ Z4 → k ≠ Z5 → k ≠ Z6 → w3.heap[k]? = some o := fun h q4 q5 q6 => by
        rw [← hw3, ← hw2, ← hw1]
        exact other_laid (other_laid (other_laid (keep_laid h (Below.refl _ _).drew) q4 _) q5 _) q6 _
      have B3 : Below V.heap.size V w3 := by
        rw [← hw3, ← hw2, ← hw1]
        exact (((step hLk.below (Below.refl _ _).drew).setCell (p := ⟨Z4, 0, none⟩) (by show V.heap.size ≤ Z4; omega) _).setCell (p := ⟨Z5, 0, none⟩) (by show V.heap.size ≤ Z5; omega) _).setCell (p := ⟨Z6, 0, none⟩) (by show V.heap.size ≤ Z6; omega) _
      have kD : w3.heap[D]? = some (.deferred (some [])) := k3 hK (by omega) (by omega) (by omega)
      have O3 : (w3.putObj D (.deferred none)).ownsRow V.heap.size 28 3 (.slice va xs.length vc) xs.length (twcells xs) := by
        refine own_mark (own_keep (own_base hLk.row (by omega)) fun k o hk ho => ?_) kD _
        obtain ⟨cur, hcur⟩ := own_type hLk.row k hk
        have q : V8.heap.size ≤ k := (hLk.row.lt k hk).1
        exact k3 ho (by omega) (by omega) (by omega)
      have I3 : IdsJ (w3.putObj D (.deferred none)) mb (ones met) := by
        obtain ⟨es, clock, hb, F', hs, hD'⟩ := hL.ids
        exact ⟨es, clock, (World.putObj_heap_other (by omega)).trans (k3 hb (by omega) (by omega) (by omega)), F', hs, hD'⟩
      have f4 := free_laid (i := 0) k4
      have f5 := free_laid (i := 0) a5
      have f6 := free_laid (i := 0) b6
      have l4 := lt_laid k4
      have l5 := lt_laid a5
      have l6 := lt_laid b6
      have g4 := cell_laid (i := 0) k4 rfl
      have g5 := cell_laid (i := 0) a5 rfl
      have g6 := cell_laid (i := 0) b6 rfl
      have C1 : Hid (∃ z : RE Z4 Lb mb (.slice va xs.length vc), w1 = z.w) := hid ⟨⟨w1, cell_laid a4 rfl, cell_laid al rfl⟩, rfl⟩
      have C2 : Hid (∃ z : RE Z4 Lb mb (.slice va xs.length vc), w2 = z.w) := hid ⟨⟨w2, cell_laid b4 rfl, cell_laid bl rfl⟩, rfl⟩
      have C3 : Hid (∃ z : RE Z4 Lb mb (.slice va xs.length vc), w3 = z.w) := hid ⟨⟨w3, cell_laid c4 rfl, cell_laid cl rfl⟩, rfl⟩
      have HC := hid (⟨c4, c5, c6, B3, kD, O3, I3⟩ : _ ∧ _ ∧ _ ∧ _ ∧ _ ∧ _ ∧ _)
      clear hK hLk hL hn k4 k5 k6 kl a4 a5 a6 al b4 b5 b6 bl c4 c5 c6 cl k3 B3 kD O3 I3
      go_wp2_with fail
      refine wp_region_mix2 (fun V => ∃ z : RE Z4 Lb mb _, V = z.w) 8 (.q 0 (.q 1 (.q 2 (.q 3 (.q 4 (.h 5 (.h 6 (.h 7 .done)))))))) (by kernel_rfl) (by kernel_rfl) hdr ?_
      clear hdr
      repeat (refine wpMix2_q rfl rfl ?_; go_big_quiet_step (fail); refine wpQuiet_nil ?_)
      refine wpMix2_h rfl fun R' hR' hO => ?_
      go_wp2
      refine hR' _ _ C1.out ?_
      clear hR' hO R'
      refine wpMix2_h rfl fun R' hR' hO => ?_
      go_wp2
      refine hR' _ _ C2.out ?_
      clear hR' hO R'
      refine wpMix2_h rfl fun R' hR' hO => ?_
      go_wp2
      refine hR' _ _ C3.out ?_
      clear hR' hO R'
      refine wpMix2_done ?_
      simp only [List.drop_succ_cons, List.drop_zero]
      go_wp2
      obtain ⟨c4, c5, c6, B3, kD, O3, I3⟩ := HC.out
      refine leaves_idle (V := V) (by omega) kD B3 c4 c5 c6 rfl rfl rfl fun hb e he => ⟨hb, .inr (.inr ⟨HOK.out, xs, met, _, mb, HNN.out, he, O3, I3⟩)⟩
    case panic =>
      rintro D c pre W hD ⟨hn, rfl⟩ ⟨v, hLk⟩ hK
      refine leaves_caught hD hLk hK (by omega) (by omega) (by omega) (by omega) rfl rfl rfl fun W' hb e1 he1 => ⟨hb, .inr (.inl ⟨HOK.out, hn, he1⟩)⟩
    case sput =>
      rintro xs A l o o' hl ho h1 h2 ⟨met, hn, hL⟩
      refine ⟨met, hn, hL.keeps (kept := fun k => k < V8.heap.size) (fun k hk => World.putObj_heap_other (by omega)) (by omega) (by omega) (fun b off e => by have := HKW.out b off e; omega) (fun b off e => by have := HKL.out b off e; omega)⟩
end Go.Proofs.Ytoihjmdpbbcbjaa
