/- Lists: where a node stands in a row; a row without one of its nodes. -/
import Derived.Test.YtdkkjcflcegeoaaLsEq
import Derived.Test.YtdkkjcflcegeoaaLsClone
import Derived.Lib.SliceRun
import Derived.Deep.RegionLaw
import Derived.Shelf.RegionOpenPlain
namespace Go.Proofs.Ytdkkjcflcegeoaa
open Go.RowKit
open Go.Proofs
set_option linter.unusedVariables false
attribute [local go_sem] Oper.semAt_some

/-- Many cells of a block are written: the block, and all others, behind it. -/
theorem setCells_at {e : TypeId} {g : Nat} : ∀ (vs : List Value) (o : Nat) (W : World) (cur : Array Value), W.heap[g]? = some (.cells cur e (0, 0)) →
    ∃ cur', (W.setCells g o vs).heap[g]? = some (.cells cur' e (0, 0)) ∧ cur'.size = cur.size ∧ (∀ i, (i < o ∨ o + vs.length ≤ i) → cur'[i]? = cur[i]?) ∧ (∀ j v, vs[j]? = some v → o + j < cur.size → cur'[o + j]? = some v) ∧
      (∀ b ob, b ≠ g → W.heap[b]? = some ob → (W.setCells g o vs).heap[b]? = some ob) ∧ (∀ B w, B ≤ g → Below B w W → Below B w (W.setCells g o vs))
  | [], o, W, cur, h => ⟨cur, h, rfl, fun _ _ => rfl, fun j v h => by simp at h, fun _ _ _ h => h, fun _ _ _ h => h⟩
  | v :: r, o, W, cur, h => by
    obtain ⟨cur', h1, h2, h3, h4, h5, h6⟩ := setCells_at r (o + 1) (W.setCell ⟨g, o, none⟩ v) _ (set_laid (i := o) h v)
    refine ⟨cur', h1, by rw [h2]; simp, fun i hi => ?_, fun j u hj ho => ?_, fun b ob hb hob => h5 b ob hb (other_laid hob hb v), fun B w hB hw => h6 B w hB (hw.setCell (p := ⟨g, o, none⟩) hB v)⟩
    · have hl : (v :: r).length = r.length + 1 := rfl
      rw [h3 i (by omega), Array.getElem?_setIfInBounds]
      rw [if_neg (by omega)]
    · rcases j with _ | j
      · rw [h3 _ (by omega)]
        simp only [List.getElem?_cons_zero, Option.some.injEq] at hj
        subst hj
        rw [Nat.add_zero, Array.getElem?_setIfInBounds, if_pos rfl, if_pos (by simpa using ho)]
      · have := h4 j u (by simpa using hj) (by simp; omega)
        rw [show o + (j + 1) = o + 1 + j by omega]
        exact this

/-- 'clear' at one node. -/
theorem run_clear_nd (w : World) (ty : TypeId) (g o c : Nat) (hc : ∀ j, j < 4 → (w.cell? ⟨g, o + j, none⟩).isSome = true) (hf : ∀ j, j < 4 → w.frozen? ⟨g, o + j, none⟩ = false) :
    (Builtin.clear_ #[27] ty #[.slice (some ⟨g, o, none⟩) 1 c]).run Try.prog w = .ok (.tuple #[]) (w.setCells g o [.int .u64 0, .int .u64 0, .int .u64 0, .int .u64 0]) := by
  have hst := run_storeCells_cells (P := Try.prog) g o [.int .u64 0, .int .u64 0, .int .u64 0, .int .u64 0] 0 w (by simpa using hc) (by simpa using hf) (by intro v hv; simp at hv; subst hv; rfl)
  simp only [Nat.add_zero] at hst
  have hz : (Builtin.zeroCells (Value.agg #[.int .u64 0, .int .u64 0, .int .u64 0, .int .u64 0]).cells 1).toList = [.int .u64 0, .int .u64 0, .int .u64 0, .int .u64 0] := by kernel_rfl
  have hu := run_underlying (P := Try.prog) Try.underlying27 (w := w)
  simp [Builtin.clear_, hu, hz, hst]

set_option maxRecDepth 100000 in
set_option maxHeartbeats 2000000 in
/-- Where the first node stands of which a closure holds. -/
theorem IdxKeeps_any (xs l1 l2 : List Nd) (t : Nd) (q : Nd → Bool) (a : Option Addr) (n cap X : Nat) (V : World) (h : Leads V a n cap (ndcells xs)) (hn : xs.length = n) (hn4 : n ≤ 10000)
    (hq : ∀ (t : Nd) (W : World), Below V.heap.size V W → Calls Try.prog 34 #[ndV t, .pointer (some ⟨X, 0, none⟩)] W (Ret (.bool (q t)) W)) (hx : xs = l1 ++ t :: l2) (h1 : ∀ x ∈ l1, q x = false) (ht : q t = true) :
    Calls Try.prog 29 #[.slice a n cap, .func (.func 34) #[] #[.pointer (some ⟨X, 0, none⟩)]] V (Ret (.int .i64 ((l1.length : Nat) : Int)) V) := by
  have hl := h.len
  have hlt1 : l1.length < n := by have := congrArg List.length hx; simp at this; omega
  obtain ⟨m, hm⟩ : ∃ m, l1.length = m := ⟨_, rfl⟩
  rw [hm] at hlt1 ⊢
  have H := hid h
  have HN := hid hn
  have HQ := hid hq
  have HX : Hid (∀ k, k < m → ∃ x, xs[k]? = some x ∧ q x = false) := hid (fun k hk => ⟨l1[k]'(by omega), by rw [hx, List.getElem?_append_left (by omega), List.getElem?_eq_getElem (by omega)], h1 _ (List.getElem_mem _)⟩)
  have HT : Hid (xs[m]? = some t ∧ q t = true) := hid ⟨by rw [hx, ← hm, List.getElem?_append_right (Nat.le_refl _), Nat.sub_self]; rfl, ht⟩
  clear h hn hq hx h1 ht hm
  go_enter Try.func29, Try.ntmps29
  go_wp2
  go_loopg [8] n (fun g i wr => ∃ k : Nat, g + k = n ∧ i = .int .i64 (k : Nat) ∧ k ≤ m ∧ Hid (Below V.heap.size V wr))
  case atStart => exact ⟨0, rfl, rfl, Nat.zero_le _, hid (Below.refl _ _)⟩
  case round =>
    obtain ⟨k, hk, rfl, hkm, hb⟩ := hrel
    have HK := hid hk
    have HKM := hid hkm
    clear hk
    have hlt : k < n := by omega
    clear hkm
    by_cases hkl : k < m
    · obtain ⟨⟨x0, x1, x2, x3⟩, hx, hqx⟩ := HX.out k hkl
      obtain ⟨b, off, rfl, -, hcc⟩ := H.out.nd hlt hx
      obtain ⟨f0, f1, f2, f3⟩ := hcc _ hb.out
      have HI := hid (HQ.out (x0, x1, x2, x3) wr hb.out)
      rw [hqx] at HI
      unfold ndV at HI
      have HKL := hid hkl
      clear hcc hx hqx hkl
      go_wp2_with fail
      refine HI.out.mono ?_
      rintro e w2 ⟨rfl, hb2⟩
      have HB2 := hid (hb.out.trans (hb2.mono hb.out.size))
      clear hb2
      go_wp2
      go_roundg (gk - 1)
      case measure => have := HK.out; omega
      case rel => exact ⟨k + 1, by have := HK.out; omega, by go_num, HKL.out, HB2⟩
    · have hkm' : k = m := by have := HKM.out; omega
      subst hkm'
      obtain ⟨hx, hqx⟩ := HT.out
      obtain ⟨x0, x1, x2, x3⟩ := t
      obtain ⟨b, off, rfl, -, hcc⟩ := H.out.nd hlt hx
      obtain ⟨f0, f1, f2, f3⟩ := hcc _ hb.out
      have HI := hid (HQ.out (x0, x1, x2, x3) wr hb.out)
      rw [hqx] at HI
      unfold ndV at HI
      clear hcc hx hqx hkl HKM HT HX
      go_wp2_with fail
      refine HI.out.mono ?_
      rintro e w2 ⟨rfl, hb2⟩
      have HB2 := hid (hb.out.trans (hb2.mono hb.out.size))
      clear hb2
      go_wp2
      go_ret
      exact ⟨rfl, HB2.out⟩

set_option maxRecDepth 100000 in
set_option maxHeartbeats 2000000 in
/-- Where the first node stands of which a closure holds. -/
theorem IdxLast_any (xs l1 l2 : List Nd) (t : Nd) (q : Nd → Bool) (a : Option Addr) (n cap X : Nat) (V : World) (h : Leads V a n cap (ndcells xs)) (hn : xs.length = n) (hn4 : n ≤ 10000)
    (hq : ∀ (t : Nd) (W : World), Below V.heap.size V W → Calls Try.prog 30 #[ndV t, .pointer (some ⟨X, 0, none⟩)] W (Ret (.bool (q t)) W)) (hx : xs = l1 ++ t :: l2) (h1 : ∀ x ∈ l1, q x = false) (ht : q t = true) :
    Calls Try.prog 29 #[.slice a n cap, .func (.func 30) #[] #[.pointer (some ⟨X, 0, none⟩)]] V (Ret (.int .i64 ((l1.length : Nat) : Int)) V) := by
  have hl := h.len
  have hlt1 : l1.length < n := by have := congrArg List.length hx; simp at this; omega
  obtain ⟨m, hm⟩ : ∃ m, l1.length = m := ⟨_, rfl⟩
  rw [hm] at hlt1 ⊢
  have H := hid h
  have HN := hid hn
  have HQ := hid hq
  have HX : Hid (∀ k, k < m → ∃ x, xs[k]? = some x ∧ q x = false) := hid (fun k hk => ⟨l1[k]'(by omega), by rw [hx, List.getElem?_append_left (by omega), List.getElem?_eq_getElem (by omega)], h1 _ (List.getElem_mem _)⟩)
  have HT : Hid (xs[m]? = some t ∧ q t = true) := hid ⟨by rw [hx, ← hm, List.getElem?_append_right (Nat.le_refl _), Nat.sub_self]; rfl, ht⟩
  clear h hn hq hx h1 ht hm
  go_enter Try.func29, Try.ntmps29
  go_wp2
  go_loopg [8] n (fun g i wr => ∃ k : Nat, g + k = n ∧ i = .int .i64 (k : Nat) ∧ k ≤ m ∧ Hid (Below V.heap.size V wr))
  case atStart => exact ⟨0, rfl, rfl, Nat.zero_le _, hid (Below.refl _ _)⟩
  case round =>
    obtain ⟨k, hk, rfl, hkm, hb⟩ := hrel
    have HK := hid hk
    have HKM := hid hkm
    clear hk
    have hlt : k < n := by omega
    clear hkm
    by_cases hkl : k < m
    · obtain ⟨⟨x0, x1, x2, x3⟩, hx, hqx⟩ := HX.out k hkl
      obtain ⟨b, off, rfl, -, hcc⟩ := H.out.nd hlt hx
      obtain ⟨f0, f1, f2, f3⟩ := hcc _ hb.out
      have HI := hid (HQ.out (x0, x1, x2, x3) wr hb.out)
      rw [hqx] at HI
      unfold ndV at HI
      have HKL := hid hkl
      clear hcc hx hqx hkl
      go_wp2_with fail
      refine HI.out.mono ?_
      rintro e w2 ⟨rfl, hb2⟩
      have HB2 := hid (hb.out.trans (hb2.mono hb.out.size))
      clear hb2
      go_wp2
      go_roundg (gk - 1)
      case measure => have := HK.out; omega
      case rel => exact ⟨k + 1, by have := HK.out; omega, by go_num, HKL.out, HB2⟩
    · have hkm' : k = m := by have := HKM.out; omega
      subst hkm'
      obtain ⟨hx, hqx⟩ := HT.out
      obtain ⟨x0, x1, x2, x3⟩ := t
      obtain ⟨b, off, rfl, -, hcc⟩ := H.out.nd hlt hx
      obtain ⟨f0, f1, f2, f3⟩ := hcc _ hb.out
      have HI := hid (HQ.out (x0, x1, x2, x3) wr hb.out)
      rw [hqx] at HI
      unfold ndV at HI
      clear hcc hx hqx hkl HKM HT HX
      go_wp2_with fail
      refine HI.out.mono ?_
      rintro e w2 ⟨rfl, hb2⟩
      have HB2 := hid (hb.out.trans (hb2.mono hb.out.size))
      clear hb2
      go_wp2
      go_ret
      exact ⟨rfl, HB2.out⟩

/-- The closures themselves. -/
theorem keeps1_any (t : Nd) (p X : Nat) (V : World) (h : V.cell? ⟨X, 0, none⟩ = some (.int .u64 ((p : Nat) : Int))) (hX : X < V.heap.size) :
    Calls Try.prog 34 #[ndV t, .pointer (some ⟨X, 0, none⟩)] V (Ret (.bool (decide (t.1 = p))) V) := by
  obtain ⟨q, q1, q2, q3⟩ := t
  obtain ⟨V1, hV1, hb1, hs1, hl1⟩ := laid V #[.int .u64 ((q : Nat) : Int), .int .u64 ((q1 : Nat) : Int), .int .u64 ((q2 : Nat) : Int), .int .u64 ((q3 : Nat) : Int)] 38
  have x0 : V1.cell? ⟨X, 0, none⟩ = some (.int .u64 ((p : Nat) : Int)) := (hb1.cell (p := ⟨X, 0, none⟩) hX).trans h
  have t0 := cell_laid (i := 0) hl1 rfl
  have HB1 := hid hb1
  unfold ndV
  have HE : Hid ((((q : Nat) : Int) == ((p : Nat) : Int)) = decide (q = p)) := hid (by rw [Bool.eq_iff_iff]; simp; omega)
  clear h hl1 hb1 hs1
  go_enter Try.func34, Try.ntmps34
  go_wp2
  go_ret
  exact ⟨retb HE.out, HB1.out⟩
theorem last1_any (t : Nd) (p X : Nat) (V : World) (h : V.cell? ⟨X, 4, none⟩ = some (.int .u64 ((p : Nat) : Int))) (hX : X < V.heap.size) :
    Calls Try.prog 30 #[ndV t, .pointer (some ⟨X, 0, none⟩)] V (Ret (.bool (decide (t.1 = p))) V) := by
  obtain ⟨q, q1, q2, q3⟩ := t
  obtain ⟨V1, hV1, hb1, hs1, hl1⟩ := laid V #[.int .u64 ((q : Nat) : Int), .int .u64 ((q1 : Nat) : Int), .int .u64 ((q2 : Nat) : Int), .int .u64 ((q3 : Nat) : Int)] 38
  have x0 : V1.cell? ⟨X, 4, none⟩ = some (.int .u64 ((p : Nat) : Int)) := (hb1.cell (p := ⟨X, 4, none⟩) hX).trans h
  have t0 := cell_laid (i := 0) hl1 rfl
  have HB1 := hid hb1
  unfold ndV
  have HE : Hid ((((q : Nat) : Int) == ((p : Nat) : Int)) = decide (q = p)) := hid (by rw [Bool.eq_iff_iff]; simp; omega)
  clear h hl1 hb1 hs1
  go_enter Try.func30, Try.ntmps30
  go_wp2
  go_ret
  exact ⟨retb HE.out, HB1.out⟩

set_option maxRecDepth 100000 in
set_option maxHeartbeats 2000000 in
/-- Where a node stands first. -/
theorem IndexN_any (xs l1 l2 : List Nd) (t : Nd) (a : Option Addr) (n cap : Nat) (V : World) (h : Leads V a n cap (ndcells xs)) (hn : xs.length = n) (hn4 : n ≤ 10000) (hxb : NdsOk xs) (htb : t.Ok) (hx : xs = l1 ++ t :: l2) (h1 : t ∉ l1) :
    Calls Try.prog 32 #[.slice a n cap, ndV t] V (Ret (.int .i64 ((l1.length : Nat) : Int)) V) := by
  have hl := h.len
  have hlt1 : l1.length < n := by have := congrArg List.length hx; simp at this; omega
  obtain ⟨m, hm⟩ : ∃ m, l1.length = m := ⟨_, rfl⟩
  rw [hm] at hlt1 ⊢
  have H := hid h
  have HN := hid hn
  have HXB := hid hxb
  have HTB := hid htb
  have HX : Hid (∀ k, k < m → ∃ x, xs[k]? = some x ∧ t ≠ x) := hid (fun k hk => ⟨l1[k]'(by omega), by rw [hx, List.getElem?_append_left (by omega), List.getElem?_eq_getElem (by omega)], fun e => h1 (e ▸ List.getElem_mem _)⟩)
  have HT : Hid (xs[m]? = some t) := hid (by rw [hx, ← hm, List.getElem?_append_right (Nat.le_refl _), Nat.sub_self]; rfl)
  obtain ⟨t0, t1, t2, t3⟩ := t
  obtain ⟨V1, hV1, hb1, hs1, hl1⟩ := laid V #[.int .u64 ((t0 : Nat) : Int), .int .u64 ((t1 : Nat) : Int), .int .u64 ((t2 : Nat) : Int), .int .u64 ((t3 : Nat) : Int)] 38
  have HV1 := hid hb1
  have HL1 := hid hl1
  have hXs : V.heap.size < V1.heap.size := by omega
  obtain ⟨X, hX⟩ : ∃ X, V.heap.size = X := ⟨_, rfl⟩
  have HVX := hid hX
  rw [hX] at HL1
  unfold ndV
  clear h hn hx h1 hm hxb htb hl1 hb1 hs1 hXs
  go_enter Try.func32, Try.ntmps32
  go_wp2
  clear hX
  go_loopg [8] n (fun g i wr => ∃ k : Nat, g + k = n ∧ i = .int .i64 (k : Nat) ∧ k ≤ m ∧ Hid (Below V1.heap.size V1 wr))
  case atStart => exact ⟨0, rfl, rfl, Nat.zero_le _, hid (Below.refl _ _)⟩
  case round =>
    obtain ⟨k, hk, rfl, hkm, hb⟩ := hrel
    have HK := hid hk
    have HKM := hid hkm
    clear hk
    have hlt : k < n := by omega
    clear hkm
    have g0 : ∀ z : Ext wr, z.v.cell? ⟨X, 0, none⟩ = some (.int .u64 ((t0 : Nat) : Int)) := fun z => cell_laid (keep_laid HL1.out (step hb.out z.b)) rfl
    have g1 : ∀ z : Ext wr, z.v.cell? ⟨X, 1, none⟩ = some (.int .u64 ((t1 : Nat) : Int)) := fun z => cell_laid (keep_laid HL1.out (step hb.out z.b)) rfl
    have g2 : ∀ z : Ext wr, z.v.cell? ⟨X, 2, none⟩ = some (.int .u64 ((t2 : Nat) : Int)) := fun z => cell_laid (keep_laid HL1.out (step hb.out z.b)) rfl
    have g3 : ∀ z : Ext wr, z.v.cell? ⟨X, 3, none⟩ = some (.int .u64 ((t3 : Nat) : Int)) := fun z => cell_laid (keep_laid HL1.out (step hb.out z.b)) rfl
    by_cases hkl : k < m
    · obtain ⟨⟨x0, x1, x2, x3⟩, hx, hne⟩ := HX.out k hkl
      obtain ⟨b, off, rfl, -, hcx⟩ := (H.out.grow HV1.out).nd hlt hx
      have heq := nd_eq t0 t1 t2 t3 x0 x1 x2 x3 HTB.out (HXB.out _ (List.mem_of_getElem? hx))
      rw [decide_eq_false hne] at heq
      have HB1 := hid hb.out
      have f0 : ∀ z : Ext wr, z.v.cell? ⟨b, off + k * 4, none⟩ = some (.int .u64 ((x0 : Nat) : Int)) := fun z => (hcx z.v (step HB1.out z.b)).1
      have f1 : ∀ z : Ext wr, z.v.cell? ⟨b, off + k * 4 + 1, none⟩ = some (.int .u64 ((x1 : Nat) : Int)) := fun z => (hcx z.v (step HB1.out z.b)).2.1
      have f2 : ∀ z : Ext wr, z.v.cell? ⟨b, off + k * 4 + 2, none⟩ = some (.int .u64 ((x2 : Nat) : Int)) := fun z => (hcx z.v (step HB1.out z.b)).2.2.1
      have f3 : ∀ z : Ext wr, z.v.cell? ⟨b, off + k * 4 + 3, none⟩ = some (.int .u64 ((x3 : Nat) : Int)) := fun z => (hcx z.v (step HB1.out z.b)).2.2.2
      have HKL := hid hkl
      clear hkl
      go_upto_region 4 with (fail)
      clear hcx hx hne
      refine wp_region_ext (by kernel_rfl) (by kernel_rfl) ?_
      repeat (go_big_quiet_step (fail))
      refine wpQuiet_nil ?_
      rintro v8 ⟨x8, e8⟩
      have HB2 := hid (step HB1.out x8.b)
      rw [← e8] at HB2
      clear e8 x8
      go_wp2
      go_roundg (gk - 1)
      case measure => have := HK.out; omega
      case rel => exact ⟨k + 1, by have := HK.out; omega, by go_num, HKL.out, HB2⟩
    · have hkm' : k = m := by have := HKM.out; omega
      subst hkm'
      have hx := HT.out
      obtain ⟨b, off, rfl, -, hcx⟩ := (H.out.grow HV1.out).nd hlt hx
      have heq := nd_eq t0 t1 t2 t3 t0 t1 t2 t3 HTB.out HTB.out
      rw [decide_eq_true rfl] at heq
      have HB1 := hid hb.out
      have f0 : ∀ z : Ext wr, z.v.cell? ⟨b, off + k * 4, none⟩ = some (.int .u64 ((t0 : Nat) : Int)) := fun z => (hcx z.v (step HB1.out z.b)).1
      have f1 : ∀ z : Ext wr, z.v.cell? ⟨b, off + k * 4 + 1, none⟩ = some (.int .u64 ((t1 : Nat) : Int)) := fun z => (hcx z.v (step HB1.out z.b)).2.1
      have f2 : ∀ z : Ext wr, z.v.cell? ⟨b, off + k * 4 + 2, none⟩ = some (.int .u64 ((t2 : Nat) : Int)) := fun z => (hcx z.v (step HB1.out z.b)).2.2.1
      have f3 : ∀ z : Ext wr, z.v.cell? ⟨b, off + k * 4 + 3, none⟩ = some (.int .u64 ((t3 : Nat) : Int)) := fun z => (hcx z.v (step HB1.out z.b)).2.2.2
      clear hkl HKM HX
      go_upto_region 4 with (fail)
      clear hcx hx
      refine wp_region_ext (by kernel_rfl) (by kernel_rfl) ?_
      repeat (go_big_quiet_step (fail))
      refine wpQuiet_nil ?_
      rintro v8 ⟨x8, e8⟩
      have HB2 := hid (step HV1.out (step HB1.out x8.b))
      rw [← e8] at HB2
      clear e8 x8
      go_wp2
      go_ret
      exact ⟨rfl, HB2.out⟩

theorem ndcells_drop (xs : List Nd) (k : Nat) : (ndcells xs).drop (k * 4) = ndcells (xs.drop k) := by
  induction xs generalizing k with
  | nil => simp [ndcells]
  | cons x xs ih =>
    cases k with
    | zero => simp
    | succ k =>
      have e : (k + 1) * 4 = k * 4 + 1 + 1 + 1 + 1 := by omega
      rw [e]
      exact ih k
theorem ndcells_take (xs : List Nd) (k : Nat) : (ndcells xs).take (k * 4) = ndcells (xs.take k) := by
  induction xs generalizing k with
  | nil => simp [ndcells]
  | cons x xs ih =>
    cases k with
    | zero => simp [ndcells]
    | succ k =>
      have e : (k + 1) * 4 = k * 4 + 1 + 1 + 1 + 1 := by omega
      rw [e]
      show _ :: _ :: _ :: _ :: (ndcells xs).take (k * 4) = _
      rw [ih k]
      rfl
theorem ndcells_append (xs ys : List Nd) : ndcells (xs ++ ys) = ndcells xs ++ ndcells ys := by simp [ndcells]
theorem nd4_one (t : Nd) : ∀ u ∈ nd4 t, u.oneCell' = true := by
  intro u hu
  simp only [nd4, List.mem_cons, List.not_mem_nil, or_false] at hu
  rcases hu with rfl | rfl | rfl | rfl <;> rfl
theorem ndcells_one (xs : List Nd) : ∀ u ∈ ndcells xs, u.oneCell' = true := by
  intro u hu
  simp only [ndcells, List.mem_flatMap] at hu
  obtain ⟨t, -, h⟩ := hu
  exact nd4_one t u h
set_option maxRecDepth 100000 in
set_option maxHeartbeats 4000000 in
/-- A row of one's own without one of its nodes. -/
theorem Delete_any (xs : List Nd) (g n m cap k base : Nat) (z : Int) (V : World) (h : V.ownsRow base 38 4 (.slice (some ⟨g, 0, none⟩) n cap) n (ndcells xs)) (hk : k < n) (hn : n = m + 1) (hn5 : n ≤ 5000) (hz : z = (k : Int) + 1) :
    Calls Try.prog 33 #[.slice (some ⟨g, 0, none⟩) n cap, .int .i64 ((k : Nat) : Int), .int .i64 z] V (fun e W => e = .returned (.slice (some ⟨g, 0, none⟩) m cap) ∧
      W.ownsRow base 38 4 (.slice (some ⟨g, 0, none⟩) m cap) m (ndcells (xs.eraseIdx k)) ∧ (∀ b o, b ≠ g → V.heap[b]? = some o → W.heap[b]? = some o) ∧ (∀ B w, B ≤ g → Below B w V → Below B w W)) := by
  obtain ⟨-, ⟨h, -⟩ | ⟨g', cap', cur, he, hbg, hG, hnc, hcm, hcs, hct⟩⟩ := h
  · cases h
  simp only [Value.slice.injEq, Option.some.injEq, Addr.mk.injEq, and_true, true_and] at he
  obtain ⟨rfl, rfl⟩ := he
  obtain ⟨j, hj⟩ : ∃ j, j = k + 1 := ⟨_, rfl⟩
  obtain rfl : z = ((j : Nat) : Int) := by omega
  have hxl : xs.length = n := by
    have h0 := congrArg List.length hct
    rw [ndcells_len, List.length_take, Array.length_toList, hcs] at h0
    omega
  have hcell : ∀ i, i < n * 4 → cur[i]? = (ndcells xs)[i]? := by
    intro i hi
    rw [← hct, List.getElem?_take, if_pos hi, Array.getElem?_toList]
  have hdl : (ndcells (xs.drop j)).length = (n - j) * 4 := by rw [ndcells_len, List.length_drop, hxl]; omega
  obtain ⟨W1, hW1⟩ : ∃ W1, W1 = V.drew.setCells g (k * 4) (ndcells (xs.drop j)) := ⟨_, rfl⟩
  have hGd : V.drew.heap[g]? = some (.cells cur 38 (0, 0)) := hG
  obtain ⟨cur1, c1, c2, c3, c4, c5, c6⟩ := setCells_at (ndcells (xs.drop j)) (k * 4) V.drew cur hGd
  rw [← hW1] at c1 c5 c6
  obtain ⟨cur2, d1, d2, d3, d4, d5, d6⟩ := setCells_at [.int .u64 0, .int .u64 0, .int .u64 0, .int .u64 0] (m * 4) W1 cur1 c1
  obtain ⟨W2, hW2⟩ : ∃ W2, W2 = W1.setCells g (m * 4) [.int .u64 0, .int .u64 0, .int .u64 0, .int .u64 0] := ⟨_, rfl⟩
  rw [← hW2] at d1 d5 d6
  have hsrc : ∃ A : Addr, (if cap = j then (some ⟨g, 0, none⟩ : Option Addr) else some ⟨g, j * 4, none⟩) = some A ∧ Hid (∀ t u, (ndcells (xs.drop j))[t]? = some u → V.drew.cell? (A.add t) = some u) := by
    have hread : ∀ t u, (ndcells (xs.drop j))[t]? = some u → V.drew.cell? ⟨g, j * 4 + t, none⟩ = some u := by
      intro t u hu
      have ht : t < (n - j) * 4 := by
        have := (List.getElem?_eq_some_iff.1 hu).1
        rwa [hdl] at this
      refine at_block hGd ?_
      rw [hcell _ (by omega)]
      rw [← ndcells_drop, List.getElem?_drop] at hu
      exact hu
    by_cases hc : cap = j
    · refine ⟨⟨g, 0, none⟩, by simp [hc], hid fun t u hu => ?_⟩
      have h0 : (ndcells (xs.drop j)).length = 0 := by rw [hdl]; omega
      rw [List.length_eq_zero_iff.1 h0] at hu
      simp at hu
    · exact ⟨⟨g, j * 4, none⟩, by simp [hc], hid fun t u hu => by rw [Addr.add_lit]; exact hread t u hu⟩
  obtain ⟨A, hA, HA⟩ := hsrc
  have s1 : Hid ((ndcells (xs.drop j)).length = (n - j) * 4) := hid hdl
  have s2 : Hid (∀ u ∈ ndcells (xs.drop j), u.oneCell' = true) := hid (ndcells_one _)
  have s3 : Hid (∀ t, t < (ndcells (xs.drop j)).length → (V.drew.cell? ⟨g, 0 + k * 4 + t, none⟩).isSome = true ∧ V.drew.frozen? ⟨g, 0 + k * 4 + t, none⟩ = false) := hid (fun t ht => by
    rw [hdl] at ht
    obtain ⟨v, hv⟩ : ∃ v, cur[0 + k * 4 + t]? = some v := ⟨_, Array.getElem?_eq_getElem (by omega)⟩
    exact ⟨by rw [at_block hGd hv]; rfl, free_laid hGd⟩)
  have hcl : ∀ ty c, (Builtin.clear_ #[27] ty #[.slice (some ⟨g, m * 4, none⟩) 1 c]).run Try.prog W1 = .ok (.tuple #[]) W2 := by
    intro ty c
    rw [hW2]
    refine run_clear_nd W1 ty g (m * 4) c (fun t ht => ?_) (fun t ht => free_laid c1)
    obtain ⟨v, hv⟩ : ∃ v, cur1[m * 4 + t]? = some v := ⟨_, Array.getElem?_eq_getElem (by omega)⟩
    rw [at_block c1 hv]; rfl
  have hend : Hid (W2.ownsRow base 38 4 (.slice (some ⟨g, 0, none⟩) m cap) m (ndcells (xs.eraseIdx k)) ∧ (∀ b o, b ≠ g → V.heap[b]? = some o → W2.heap[b]? = some o) ∧ (∀ B w, B ≤ g → Below B w V → Below B w W2)) := hid (by
    have hel : (xs.eraseIdx k).length = m := by rw [List.length_eraseIdx, if_pos (by omega)]; omega
    refine ⟨⟨by rw [ndcells_len, hel]; omega, .inr ⟨g, cap, cur2, rfl, hbg, d1, by omega, hcm, by rw [d2, c2, hcs], ?_⟩⟩, fun b o hb ho => d5 b o hb (c5 b o hb ho), fun B w hB hw => d6 B w hB (c6 B w hB hw.drew)⟩
    apply List.ext_getElem?
    intro i
    rw [List.getElem?_take]
    by_cases hi : i < m * 4
    · rw [if_pos hi, Array.getElem?_toList, d3 i (.inl hi), List.eraseIdx_eq_take_drop_succ, ndcells_append]
      by_cases hik : i < k * 4
      · rw [c3 i (.inl hik), hcell i (by omega), List.getElem?_append_left (by rw [ndcells_len, List.length_take]; omega), ← ndcells_take, List.getElem?_take, if_pos hik]
      · obtain ⟨t, rfl⟩ : ∃ t, i = k * 4 + t := ⟨i - k * 4, by omega⟩
        have ht : t < (ndcells (xs.drop j)).length := by rw [hdl]; omega
        rw [c4 t _ (List.getElem?_eq_getElem ht) (by omega), List.getElem?_append_right (by rw [ndcells_len, List.length_take]; omega), ← hj]
        rw [show k * 4 + t - (ndcells (xs.take k)).length = t by rw [ndcells_len, List.length_take]; omega, List.getElem?_eq_getElem ht]
    · rw [if_neg hi, List.getElem?_eq_none (by rw [ndcells_len, hel]; omega)])
  have HW := hid hW1
  have e1 : k + (n - j) = m := by omega
  have e2 : n - m = 1 := by omega
  have hkc : k ≤ cap := by omega
  have hjc : j ≤ cap := by omega
  have hjn : j ≤ n := by omega
  have hne : k ≠ j := by omega
  have mixed : Try.prog.follows .mixedOrders = true := by kernel_rfl
  clear hG hGd c1 c2 c3 c4 c5 c6 d1 d2 d3 d4 d5 d6 hW1 hW2 hcell hct hcs hxl hdl hbg hn hj hz
  go_enter Try.func33, Try.ntmps33
  go_wp2_with fail
  go_region_law_o (refine step_append_room rfl (.tmp 22) (.tmp 25) 27 rfl 38 Try.t38 4 Try.underlying27 (by kernel_rfl) (by kernel_rfl) g 0 k cap (by simp [Act.eval, Act.put]) A (n - j) (cap - j) (ndcells (xs.drop j)) (by simp [Act.eval, Act.put]) s1.out HA.out s2.out (by omega) s3.out ?_; rw [Nat.zero_add, ← HW.out])
  go_wp2
  go_ret
  exact ⟨rfl, hend.out⟩
end Go.Proofs.Ytdkkjcflcegeoaa
