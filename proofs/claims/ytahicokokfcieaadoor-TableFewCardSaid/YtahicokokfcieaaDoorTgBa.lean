/- Several texts in one. -/
import Derived.Test.YtahicokokfcieaaDoorTgAw
import Derived.Test.YtahicokokfcieaaDoorTgAp
import Derived.Lib.SliceRun
import Derived.Deep.RegionLaw
import Derived.Shelf.RegionOpenPlain
import Derived.Test.YtahicokokfcieaaDoorTgAu
namespace Go.Proofs.YtahicokokfcieaaDoor
open Go.RowKit
open Go.Proofs
set_option linter.unusedVariables false

theorem CloneRw_any (a : Option Addr) (n cap : Nat) (cs : List Value) (w : World) (h : Leads w a n cap cs) (hl : cs.length = n * 4) (hn : n ≤ 10000) (h1 : ∀ u ∈ cs, u.oneCell' = true) :
    Calls Tryd.prog 23 #[.slice a n cap] w (Fresh 53 4 n cs w) := by
  have q : ∀ (w : World) (a : Option Addr) (n c n' c' : Nat), (binOp .eql 40 (.slice a n c) (.slice none n' c')).run Tryd.prog w = .ok (.bool a.isNone) w := fun w a n c n' c' => Lib.run_eql_slice_nil w _ _ a n c n' c' Tryd.underlying40
  cases a with
  | none =>
    obtain ⟨_, _, ⟨rfl, rfl⟩ | ⟨b, off, h, _⟩⟩ := h
    · clear h1 hl
      go_enter Tryd.func23, Tryd.ntmps23
      go_wp2
      go_ret
      exact ⟨_, rfl, World.ownsRow_nil _ _ _ _, Below.refl _ _⟩
    · cases h
  | some ad =>
    have hc : ∀ j u, cs[j]? = some u → w.cell? (ad.add j) = some u := by
      obtain ⟨_, _, ⟨_, rfl⟩ | ⟨b, off, h, _, h5⟩⟩ := h
      · intro j u hj; cases hj
      · cases h
        intro j u hj
        have := h5 j u hj
        rcases j with _ | j
        · simpa [Addr.add] using this
        · simpa [Addr.add] using this
    have HC := hid hc
    have HL := hid hl
    have H1 := hid h1
    clear hc hl h1 h
    go_enter Tryd.func23, Tryd.ntmps23
    go_wp2_with (at_builtin; refine wp_appendM elemRw rfl _ _ rfl w.heap.size _ _ _ rfl (World.ownsRow_made w #[] 0 (Nat.le_refl _) (Nat.zero_le _) (by simp)) ad n cap cs rfl ?qc1 ?qc2 ?qc3 ?qc4 ?qc5 ?_)
    case qc1 => exact HL.out
    case qc2 =>
      intro j u hj
      exact Lib.cell?_alloc_some _ (HC.out j u hj)
    case qc3 => exact H1.out
    case qc4 => omega
    case qc5 => simp
    intro v' w1 hown hgrow hmv
    have hb : Below w.heap.size w w1 := ((Below.refl _ w).alloc (Nat.le_refl _) _).trans (own_below (size := 4) (World.ownsRow_made w #[] 0 (Nat.le_refl _) (Nat.zero_le _) (by simp)) hgrow (by simp))
    go_wp2
    go_ret
    exact ⟨v', rfl, by simpa using hown, hb⟩

end Go.Proofs.YtahicokokfcieaaDoor
namespace Go.Proofs.YtahicokokfcieaaDoor
open Go.RowKit
open Go.Proofs
set_option linter.unusedVariables false
attribute [local go_sem] Oper.semAt_some
theorem rwcells_len' (xs : List Rw) : (rwcells xs).length = xs.length * 4 := by
  induction xs with
  | nil => rfl
  | cons x xs ih => simp only [rwcells, List.flatMap_cons, List.length_append, List.length_cons] at ih ⊢; rw [ih]; simp [rw4]; omega
theorem setCells_at {e : TypeId} {g : Nat} : ∀ (vs : List Value) (o : Nat) (W : World) (cur : Array Value), W.heap[g]? = some (.cells cur e (0, 0)) →
    ∃ cur', (W.setCells g o vs).heap[g]? = some (.cells cur' e (0, 0)) ∧ cur'.size = cur.size ∧ (∀ i, (i < o ∨ o + vs.length ≤ i) → cur'[i]? = cur[i]?) ∧ (∀ j v, vs[j]? = some v → o + j < cur.size → cur'[o + j]? = some v) ∧
      (∀ b ob, b ≠ g → W.heap[b]? = some ob → (W.setCells g o vs).heap[b]? = some ob) ∧ (∀ B w, B ≤ g → Below B w W → Below B w (W.setCells g o vs))
  | [], o, W, cur, h => ⟨cur, h, rfl, fun _ _ => rfl, fun j v h => by simp at h, fun _ _ _ h => h, fun _ _ _ h => h⟩
  | v :: r, o, W, cur, h => by
    obtain ⟨cur', h1, h2, h3, h4, h5, h6⟩ := setCells_at r (o + 1) (W.setCell ⟨g, o, none⟩ v) _ (set_laid (i := o) h v)
    refine ⟨cur', h1, by rw [h2]; simp, fun i hi => ?_, fun j u hj ho => ?_, fun b ob hb hob => h5 b ob hb (other_laid hob hb v), fun B w hB hw => h6 B w hB (hw.setCell (p := ⟨g, o, none⟩) hB v)⟩
    · have hl : (v :: r).length = r.length + 1 := rfl
      rw [h3 i (by omega), Array.getElem?_setIfInBounds]
      rw [if_neg (by omega)]
    · rcases j with _ | j
      · rw [h3 _ (by omega)]
        simp only [List.getElem?_cons_zero, Option.some.injEq] at hj
        subst hj
        rw [Nat.add_zero, Array.getElem?_setIfInBounds, if_pos rfl, if_pos (by simpa using ho)]
      · have := h4 j u (by simpa using hj) (by simp; omega)
        rw [show o + (j + 1) = o + 1 + j by omega]
        exact this

/-- 'clear' at one node. -/
theorem run_clear_rw (w : World) (ty : TypeId) (g o c : Nat) (hc : ∀ j, j < 4 → (w.cell? ⟨g, o + j, none⟩).isSome = true) (hf : ∀ j, j < 4 → w.frozen? ⟨g, o + j, none⟩ = false) :
    (Builtin.clear_ #[40] ty #[.slice (some ⟨g, o, none⟩) 1 c]).run Tryd.prog w = .ok (.tuple #[]) (w.setCells g o [.int .i64 0, .int .u64 0, .int .u64 0, .int .u64 0]) := by
  have hst := run_storeCells_cells (P := Tryd.prog) g o [.int .i64 0, .int .u64 0, .int .u64 0, .int .u64 0] 0 w (by simpa using hc) (by simpa using hf) (by intro v hv; simp only [List.mem_cons, List.not_mem_nil, or_false] at hv; rcases hv with rfl | rfl | rfl | rfl <;> rfl)
  simp only [Nat.add_zero] at hst
  have hz : (Builtin.zeroCells (Value.agg #[.int .i64 0, .int .u64 0, .int .u64 0, .int .u64 0]).cells 1).toList = [.int .i64 0, .int .u64 0, .int .u64 0, .int .u64 0] := by kernel_rfl
  have hu := run_underlying (P := Tryd.prog) Tryd.underlying40 (w := w)
  simp [Builtin.clear_, hu, hz, hst]

set_option maxRecDepth 100000 in
set_option maxHeartbeats 2000000 in
set_option maxRecDepth 100000 in
set_option maxHeartbeats 2000000 in
theorem IdxRw_at (xs l1 l2 : List Rw) (t : Rw) (q : Rw → Bool) (a : Option Addr) (n cap X : Nat) (V : World) (h : Leads V a n cap (rwcells xs)) (hn : xs.length = n) (hn4 : n ≤ 10000)
    (hq : ∀ (t : Rw) (W : World), Below V.heap.size V W → Calls Tryd.prog 17 #[rwV t, .pointer (some ⟨X, 0, none⟩)] W (Ret (.bool (q t)) W)) (hx : xs = l1 ++ t :: l2) (h1 : ∀ x ∈ l1, q x = false) (ht : q t = true) :
    Calls Tryd.prog 25 #[.slice a n cap, .func (.func 17) #[] #[.pointer (some ⟨X, 0, none⟩)]] V (Ret (.int .i64 ((l1.length : Nat) : Int)) V) := by
  have hl := h.len
  have hlt1 : l1.length < n := by have := congrArg List.length hx; simp at this; omega
  obtain ⟨m, hm⟩ : ∃ m, l1.length = m := ⟨_, rfl⟩
  rw [hm] at hlt1 ⊢
  have H := hid h
  have HN := hid hn
  have HQ := hid hq
  have HX : Hid (∀ k, k < m → ∃ x, xs[k]? = some x ∧ q x = false) := hid (fun k hk => ⟨l1[k]'(by omega), by rw [hx, List.getElem?_append_left (by omega), List.getElem?_eq_getElem (by omega)], h1 _ (List.getElem_mem _)⟩)
  have HT : Hid (xs[m]? = some t ∧ q t = true) := hid ⟨by rw [hx, ← hm, List.getElem?_append_right (Nat.le_refl _), Nat.sub_self]; rfl, ht⟩
  clear h hn hq hx h1 ht hm
  go_enter Tryd.func25, Tryd.ntmps25
  go_wp2
  go_loopg [8] n (fun g i wr => ∃ k : Nat, g + k = n ∧ i = .int .i64 (k : Nat) ∧ k ≤ m ∧ Hid (Below V.heap.size V wr))
  case atStart => exact ⟨0, rfl, rfl, Nat.zero_le _, hid (Below.refl _ _)⟩
  case round =>
    obtain ⟨k, hk, rfl, hkm, hb⟩ := hrel
    have HK := hid hk
    have HKM := hid hkm
    clear hk
    have hlt : k < n := by omega
    clear hkm
    by_cases hkl : k < m
    · obtain ⟨⟨x0, x1, x2, x3⟩, hx, hqx⟩ := HX.out k hkl
      obtain ⟨b, off, rfl, -, hcc⟩ := H.out.rw hlt hx
      obtain ⟨f0, f1, f2, f3⟩ := hcc _ hb.out
      have HI := hid (HQ.out (x0, x1, x2, x3) wr hb.out)
      rw [hqx] at HI
      unfold rwV at HI
      have HKL := hid hkl
      clear hcc hx hqx hkl
      go_wp2_with fail
      refine HI.out.mono ?_
      rintro e w2 ⟨rfl, hb2⟩
      have HB2 := hid (hb.out.trans (hb2.mono hb.out.size))
      clear hb2
      go_wp2
      go_roundg (gk - 1)
      case measure => have := HK.out; omega
      case rel => exact ⟨k + 1, by have := HK.out; omega, by go_num, HKL.out, HB2⟩
    · have hkm' : k = m := by have := HKM.out; omega
      subst hkm'
      obtain ⟨hx, hqx⟩ := HT.out
      obtain ⟨x0, x1, x2, x3⟩ := t
      obtain ⟨b, off, rfl, -, hcc⟩ := H.out.rw hlt hx
      obtain ⟨f0, f1, f2, f3⟩ := hcc _ hb.out
      have HI := hid (HQ.out (x0, x1, x2, x3) wr hb.out)
      rw [hqx] at HI
      unfold rwV at HI
      clear hcc hx hqx hkl HKM HT HX
      go_wp2_with fail
      refine HI.out.mono ?_
      rintro e w2 ⟨rfl, hb2⟩
      have HB2 := hid (hb.out.trans (hb2.mono hb.out.size))
      clear hb2
      go_wp2
      go_ret
      exact ⟨rfl, HB2.out⟩

set_option maxRecDepth 100000 in
set_option maxHeartbeats 2000000 in
theorem IdxRw_no (xs : List Rw) (q : Rw → Bool) (a : Option Addr) (n cap X : Nat) (V : World) (h : Leads V a n cap (rwcells xs)) (hn : xs.length = n) (hn4 : n ≤ 10000)
    (hq : ∀ (t : Rw) (W : World), Below V.heap.size V W → Calls Tryd.prog 17 #[rwV t, .pointer (some ⟨X, 0, none⟩)] W (Ret (.bool (q t)) W)) (h1 : ∀ x ∈ xs, q x = false) :
    Calls Tryd.prog 25 #[.slice a n cap, .func (.func 17) #[] #[.pointer (some ⟨X, 0, none⟩)]] V (Ret (.int .i64 (-1)) V) := by
  have hl := h.len
  have H := hid h
  have HN := hid hn
  have HQ := hid hq
  have HX : Hid (∀ k, k < n → ∃ x, xs[k]? = some x ∧ q x = false) := hid (fun k hk => ⟨xs[k]'(by omega), List.getElem?_eq_getElem (by omega), h1 _ (List.getElem_mem _)⟩)
  clear h hn hq h1
  go_enter Tryd.func25, Tryd.ntmps25
  go_wp2
  go_loopg [8] n (fun g i wr => ∃ k : Nat, g + k = n ∧ i = .int .i64 (k : Nat) ∧ Hid (Below V.heap.size V wr))
  case atStart => exact ⟨0, rfl, rfl, hid (Below.refl _ _)⟩
  case round =>
    obtain ⟨k, hk, rfl, hb⟩ := hrel
    have HK := hid hk
    clear hk
    by_cases hkl : k < n
    · obtain ⟨⟨x0, x1, x2, x3⟩, hx, hqx⟩ := HX.out k hkl
      obtain ⟨b, off, rfl, -, hcc⟩ := H.out.rw hkl hx
      obtain ⟨f0, f1, f2, f3⟩ := hcc _ hb.out
      have HI := hid (HQ.out (x0, x1, x2, x3) wr hb.out)
      rw [hqx] at HI
      unfold rwV at HI
      clear hcc hx hqx
      go_wp2_with fail
      refine HI.out.mono ?_
      rintro e w2 ⟨rfl, hb2⟩
      have HB2 := hid (hb.out.trans (hb2.mono hb.out.size))
      clear hb2
      go_wp2
      go_roundg (gk - 1)
      case measure => have := HK.out; omega
      case rel => exact ⟨k + 1, by have := HK.out; omega, by go_num, HB2⟩
    · go_wp2
      go_ret
      exact ⟨rfl, hb.out⟩
/-- The closure. -/
theorem isKey_any (r : Rw) (key X : Nat) (V : World) (h : V.cell? ⟨X, 1, none⟩ = some (.int .u64 ((key : Nat) : Int))) (hX : X < V.heap.size) :
    Calls Tryd.prog 17 #[rwV r, .pointer (some ⟨X, 0, none⟩)] V (Ret (.bool (decide (r.2.2.1 = key))) V) := by
  obtain ⟨q, q1, q2, q3⟩ := r
  obtain ⟨V1, hV1, hb1, hs1, hl1⟩ := laid V #[.int .i64 ((q : Nat) : Int), .int .u64 ((q1 : Nat) : Int), .int .u64 ((q2 : Nat) : Int), .int .u64 ((q3 : Nat) : Int)] 53
  have x0 : V1.cell? ⟨X, 1, none⟩ = some (.int .u64 ((key : Nat) : Int)) := (hb1.cell (p := ⟨X, 1, none⟩) hX).trans h
  have t0 := cell_laid (i := 2) hl1 rfl
  have HB1 := hid hb1
  unfold rwV
  have HE : Hid ((((q2 : Nat) : Int) == ((key : Nat) : Int)) = decide (q2 = key)) := hid (by rw [Bool.eq_iff_iff]; simp; omega)
  clear h hl1 hb1 hs1
  go_enter Tryd.func17, Tryd.ntmps17
  go_wp2
  go_ret
  exact ⟨retb HE.out, HB1.out⟩
theorem isKey_from (key X : Nat) (V : World) (h : V.cell? ⟨X, 1, none⟩ = some (.int .u64 ((key : Nat) : Int))) (hX : X < V.heap.size) (t : Rw) (W : World) (hb : Below V.heap.size V W) :
    Calls Tryd.prog 17 #[rwV t, .pointer (some ⟨X, 0, none⟩)] W (Ret (.bool (decide (t.2.2.1 = key))) W) := isKey_any t key X W ((hb.cell (p := ⟨X, 1, none⟩) hX).trans h) (Nat.lt_of_lt_of_le hX hb.size)
theorem Contains_at (xs l1 l2 : List Rw) (t : Rw) (key : Nat) (a : Option Addr) (n cap X : Nat) (V : World) (h : Leads V a n cap (rwcells xs)) (hn : xs.length = n) (hn4 : n ≤ 10000) (hc : V.cell? ⟨X, 1, none⟩ = some (.int .u64 ((key : Nat) : Int))) (hX : X < V.heap.size) (hx : xs = l1 ++ t :: l2) (h1 : ∀ x ∈ l1, x.2.2.1 ≠ key) (ht : t.2.2.1 = key) :
    Calls Tryd.prog 20 #[.slice a n cap, .func (.func 17) #[] #[.pointer (some ⟨X, 0, none⟩)]] V (Ret (.bool true) V) := by
  have H := hid (IdxRw_at xs l1 l2 t (fun r => decide (r.2.2.1 = key)) a n cap X V h hn hn4 (isKey_from key X V hc hX) hx (fun x hx => decide_eq_false (h1 x hx)) (decide_eq_true ht))
  have hl := h.len
  obtain ⟨m, hm⟩ : ∃ m, l1.length = m := ⟨_, rfl⟩
  rw [hm] at H
  have t0 : decide ((0 : Int) ≤ ((m : Nat) : Int)) = true := decide_eq_true (by omega)
  have t1 : (0 : Int) ≤ ((m : Nat) : Int) := by omega
  clear h hn hc hX hx h1 ht hm
  go_enter Tryd.func20, Tryd.ntmps20
  go_wp2_with fail
  refine H.out.mono ?_
  rintro e w2 ⟨rfl, hb2⟩
  have HB2 := hid hb2
  clear hb2
  go_wp2
  go_ret
  exact ⟨rfl, HB2.out⟩
theorem Contains_no (xs : List Rw) (key : Nat) (a : Option Addr) (n cap X : Nat) (V : World) (h : Leads V a n cap (rwcells xs)) (hn : xs.length = n) (hn4 : n ≤ 10000) (hc : V.cell? ⟨X, 1, none⟩ = some (.int .u64 ((key : Nat) : Int))) (hX : X < V.heap.size) (h1 : ∀ x ∈ xs, x.2.2.1 ≠ key) :
    Calls Tryd.prog 20 #[.slice a n cap, .func (.func 17) #[] #[.pointer (some ⟨X, 0, none⟩)]] V (Ret (.bool false) V) := by
  have H := hid (IdxRw_no xs (fun r => decide (r.2.2.1 = key)) a n cap X V h hn hn4 (isKey_from key X V hc hX) (fun x hx => decide_eq_false (h1 x hx)))
  have hl := h.len
  clear h hn hc hX h1
  go_enter Tryd.func20, Tryd.ntmps20
  go_wp2_with fail
  refine H.out.mono ?_
  rintro e w2 ⟨rfl, hb2⟩
  have HB2 := hid hb2
  clear hb2
  go_wp2
  go_ret
  exact ⟨rfl, HB2.out⟩
theorem rwcells_drop (xs : List Rw) (k : Nat) : (rwcells xs).drop (k * 4) = rwcells (xs.drop k) := by
  induction xs generalizing k with
  | nil => simp [rwcells]
  | cons x xs ih =>
    cases k with
    | zero => simp
    | succ k =>
      have e : (k + 1) * 4 = k * 4 + 1 + 1 + 1 + 1 := by omega
      rw [e]
      exact ih k
theorem rwcells_take (xs : List Rw) (k : Nat) : (rwcells xs).take (k * 4) = rwcells (xs.take k) := by
  induction xs generalizing k with
  | nil => simp [rwcells]
  | cons x xs ih =>
    cases k with
    | zero => simp [rwcells]
    | succ k =>
      have e : (k + 1) * 4 = k * 4 + 1 + 1 + 1 + 1 := by omega
      rw [e]
      show _ :: _ :: _ :: _ :: (rwcells xs).take (k * 4) = _
      rw [ih k]
      rfl
theorem rwcells_append (xs ys : List Rw) : rwcells (xs ++ ys) = rwcells xs ++ rwcells ys := by simp [rwcells]
theorem rw4_one (t : Rw) : ∀ u ∈ rw4 t, u.oneCell' = true := by
  intro u hu
  simp only [rw4, List.mem_cons, List.not_mem_nil, or_false] at hu
  rcases hu with rfl | rfl | rfl | rfl <;> rfl
theorem rwcells_one (xs : List Rw) : ∀ u ∈ rwcells xs, u.oneCell' = true := by
  intro u hu
  simp only [rwcells, List.mem_flatMap] at hu
  obtain ⟨t, -, h⟩ := hu
  exact rw4_one t u h
set_option maxRecDepth 100000 in
set_option maxHeartbeats 4000000 in
/-- A row of one's own without one of its nodes. -/
theorem DeleteRw_any (xs : List Rw) (g n m cap k base : Nat) (z : Int) (V : World) (h : V.ownsRow base 53 4 (.slice (some ⟨g, 0, none⟩) n cap) n (rwcells xs)) (hk : k < n) (hn : n = m + 1) (hn5 : n ≤ 5000) (hz : z = (k : Int) + 1) :
    Calls Tryd.prog 26 #[.slice (some ⟨g, 0, none⟩) n cap, .int .i64 ((k : Nat) : Int), .int .i64 z] V (fun e W => e = .returned (.slice (some ⟨g, 0, none⟩) m cap) ∧
      W.ownsRow base 53 4 (.slice (some ⟨g, 0, none⟩) m cap) m (rwcells (xs.eraseIdx k)) ∧ (∀ b o, b ≠ g → V.heap[b]? = some o → W.heap[b]? = some o) ∧ (∀ B w, B ≤ g → Below B w V → Below B w W)) := by
  obtain ⟨-, ⟨h, -⟩ | ⟨g', cap', cur, he, hbg, hG, hnc, hcm, hcs, hct⟩⟩ := h
  · cases h
  simp only [Value.slice.injEq, Option.some.injEq, Addr.mk.injEq, and_true, true_and] at he
  obtain ⟨rfl, rfl⟩ := he
  obtain ⟨j, hj⟩ : ∃ j, j = k + 1 := ⟨_, rfl⟩
  obtain rfl : z = ((j : Nat) : Int) := by omega
  have hxl : xs.length = n := by
    have h0 := congrArg List.length hct
    rw [rwcells_len', List.length_take, Array.length_toList, hcs] at h0
    omega
  have hcell : ∀ i, i < n * 4 → cur[i]? = (rwcells xs)[i]? := by
    intro i hi
    rw [← hct, List.getElem?_take, if_pos hi, Array.getElem?_toList]
  have hdl : (rwcells (xs.drop j)).length = (n - j) * 4 := by rw [rwcells_len', List.length_drop, hxl]
  obtain ⟨W1, hW1⟩ : ∃ W1, W1 = V.drew.setCells g (k * 4) (rwcells (xs.drop j)) := ⟨_, rfl⟩
  have hGd : V.drew.heap[g]? = some (.cells cur 53 (0, 0)) := hG
  obtain ⟨cur1, c1, c2, c3, c4, c5, c6⟩ := setCells_at (rwcells (xs.drop j)) (k * 4) V.drew cur hGd
  rw [← hW1] at c1 c5 c6
  obtain ⟨cur2, d1, d2, d3, d4, d5, d6⟩ := setCells_at [.int .i64 0, .int .u64 0, .int .u64 0, .int .u64 0] (m * 4) W1 cur1 c1
  obtain ⟨W2, hW2⟩ : ∃ W2, W2 = W1.setCells g (m * 4) [.int .i64 0, .int .u64 0, .int .u64 0, .int .u64 0] := ⟨_, rfl⟩
  rw [← hW2] at d1 d5 d6
  have hsrc : ∃ A : Addr, (if cap = j then (some ⟨g, 0, none⟩ : Option Addr) else some ⟨g, j * 4, none⟩) = some A ∧ Hid (∀ t u, (rwcells (xs.drop j))[t]? = some u → V.drew.cell? (A.add t) = some u) := by
    have hread : ∀ t u, (rwcells (xs.drop j))[t]? = some u → V.drew.cell? ⟨g, j * 4 + t, none⟩ = some u := by
      intro t u hu
      have ht : t < (n - j) * 4 := by
        have := (List.getElem?_eq_some_iff.1 hu).1
        rwa [hdl] at this
      refine at_block hGd ?_
      rw [hcell _ (by omega)]
      rw [← rwcells_drop, List.getElem?_drop] at hu
      exact hu
    by_cases hc : cap = j
    · refine ⟨⟨g, 0, none⟩, by simp [hc], hid fun t u hu => ?_⟩
      have h0 : (rwcells (xs.drop j)).length = 0 := by rw [hdl]; omega
      rw [List.length_eq_zero_iff.1 h0] at hu
      simp at hu
    · exact ⟨⟨g, j * 4, none⟩, by simp [hc], hid fun t u hu => by rw [Addr.add_lit]; exact hread t u hu⟩
  obtain ⟨A, hA, HA⟩ := hsrc
  have s1 : Hid ((rwcells (xs.drop j)).length = (n - j) * 4) := hid hdl
  have s2 : Hid (∀ u ∈ rwcells (xs.drop j), u.oneCell' = true) := hid (rwcells_one _)
  have s3 : Hid (∀ t, t < (rwcells (xs.drop j)).length → (V.drew.cell? ⟨g, 0 + k * 4 + t, none⟩).isSome = true ∧ V.drew.frozen? ⟨g, 0 + k * 4 + t, none⟩ = false) := hid (fun t ht => by
    rw [hdl] at ht
    obtain ⟨v, hv⟩ : ∃ v, cur[0 + k * 4 + t]? = some v := ⟨_, Array.getElem?_eq_getElem (by omega)⟩
    exact ⟨by rw [at_block hGd hv]; rfl, free_laid hGd⟩)
  have hcl : ∀ ty c, (Builtin.clear_ #[40] ty #[.slice (some ⟨g, m * 4, none⟩) 1 c]).run Tryd.prog W1 = .ok (.tuple #[]) W2 := by
    intro ty c
    rw [hW2]
    refine run_clear_rw W1 ty g (m * 4) c (fun t ht => ?_) (fun t ht => free_laid c1)
    obtain ⟨v, hv⟩ : ∃ v, cur1[m * 4 + t]? = some v := ⟨_, Array.getElem?_eq_getElem (by omega)⟩
    rw [at_block c1 hv]; rfl
  have hend : Hid (W2.ownsRow base 53 4 (.slice (some ⟨g, 0, none⟩) m cap) m (rwcells (xs.eraseIdx k)) ∧ (∀ b o, b ≠ g → V.heap[b]? = some o → W2.heap[b]? = some o) ∧ (∀ B w, B ≤ g → Below B w V → Below B w W2)) := hid (by
    have hel : (xs.eraseIdx k).length = m := by rw [List.length_eraseIdx, if_pos (by omega)]; omega
    refine ⟨⟨by rw [rwcells_len', hel], .inr ⟨g, cap, cur2, rfl, hbg, d1, by omega, hcm, by rw [d2, c2, hcs], ?_⟩⟩, fun b o hb ho => d5 b o hb (c5 b o hb ho), fun B w hB hw => d6 B w hB (c6 B w hB hw.drew)⟩
    apply List.ext_getElem?
    intro i
    rw [List.getElem?_take]
    by_cases hi : i < m * 4
    · rw [if_pos hi, Array.getElem?_toList, d3 i (.inl hi), List.eraseIdx_eq_take_drop_succ, rwcells_append]
      by_cases hik : i < k * 4
      · rw [c3 i (.inl hik), hcell i (by omega), List.getElem?_append_left (by rw [rwcells_len', List.length_take]; omega), ← rwcells_take, List.getElem?_take, if_pos hik]
      · obtain ⟨t, rfl⟩ : ∃ t, i = k * 4 + t := ⟨i - k * 4, by omega⟩
        have ht : t < (rwcells (xs.drop j)).length := by rw [hdl]; omega
        rw [c4 t _ (List.getElem?_eq_getElem ht) (by omega), List.getElem?_append_right (by rw [rwcells_len', List.length_take]; omega), ← hj]
        rw [show k * 4 + t - (rwcells (xs.take k)).length = t by rw [rwcells_len', List.length_take]; omega, List.getElem?_eq_getElem ht]
    · rw [if_neg hi, List.getElem?_eq_none (by rw [rwcells_len', hel]; omega)])
  have HW := hid hW1
  have e1 : k + (n - j) = m := by omega
  have e2 : n - m = 1 := by omega
  have hkc : k ≤ cap := by omega
  have hjc : j ≤ cap := by omega
  have hjn : j ≤ n := by omega
  have hne : k ≠ j := by omega
  have mixed : Tryd.prog.follows .mixedOrders = true := by kernel_rfl
  clear hG hGd c1 c2 c3 c4 c5 c6 d1 d2 d3 d4 d5 d6 hW1 hW2 hcell hct hcs hxl hdl hbg hn hj hz
  go_enter Tryd.func26, Tryd.ntmps26
  go_wp2_with fail
  go_region_law_o (refine step_append_room rfl (.tmp 22) (.tmp 25) 40 rfl 53 Tryd.t53 4 Tryd.underlying40 (by kernel_rfl) (by kernel_rfl) g 0 k cap (by simp [Act.eval, Act.put]) A (n - j) (cap - j) (rwcells (xs.drop j)) (by simp [Act.eval, Act.put]) s1.out HA.out s2.out (by omega) s3.out ?_; rw [Nat.zero_add, ← HW.out])
  go_wp2
  go_ret
  exact ⟨rfl, hend.out⟩
theorem keep_any {A B : World} {k : Nat} {o : Obj} (h : A.heap[k]? = some o) (hb : Below A.heap.size A B) : B.heap[k]? = some o := (hb.block k (Array.getElem?_eq_some_iff.1 h).1).trans h
theorem lt_any {A : World} {k : Nat} {o : Obj} (h : A.heap[k]? = some o) : k < A.heap.size := (Array.getElem?_eq_some_iff.1 h).1
theorem cell_any {A B : World} {X i : Nat} {v : Value} (h : A.cell? ⟨X, i, none⟩ = some v) (hk : ∀ o, A.heap[X]? = some o → B.heap[X]? = some o) : B.cell? ⟨X, i, none⟩ = some v := by
  cases ho : A.heap[X]? with
  | none => unfold World.cell? at h; rw [ho] at h; cases h
  | some o =>
    have := hk o ho
    unfold World.cell? at h ⊢
    rw [ho] at h
    rw [this]
    exact h
theorem own_keepB {A B : World} {base size n cap g : Nat} {e : TypeId} {xs : List Value} (h : A.ownsRow base e size (.slice (some ⟨g, 0, none⟩) n cap) n xs) (hk : ∀ o, A.heap[g]? = some o → B.heap[g]? = some o) : B.ownsRow base e size (.slice (some ⟨g, 0, none⟩) n cap) n xs :=
  own_keep h fun k o hj ho => by
    have : k = g := by simpa [Value.ownBlock] using hj.symm
    subst this
    exact hk o ho
theorem rw_patch (A l : List Rw) (x y : Rw) : (rwcells (A ++ x :: l)).take (A.length * 4) ++ rw4 y ++ (rwcells (A ++ x :: l)).drop (A.length * 4 + 4) = rwcells (A ++ y :: l) := by
  rw [rwcells_append, rwcells_append, List.take_append_of_le_length (by rw [rwcells_len']; exact Nat.le_refl _), List.take_of_length_le (by rw [rwcells_len']; exact Nat.le_refl _)]
  rw [show A.length * 4 + 4 = (rwcells A).length + 4 by rw [rwcells_len'], ← List.drop_drop, List.drop_left]
  rw [show rwcells (x :: l) = rw4 x ++ rwcells l from rfl, show (rw4 x ++ rwcells l).drop 4 = rwcells l from rfl, show rwcells (y :: l) = rw4 y ++ rwcells l from rfl, List.append_assoc]
structure Dlf (base g n cap : Nat) (V : World) (l1 l2 : List Rw) (t : Rw) (m : Nat) (W : World) : Prop where
  own : W.ownsRow base 53 4 (.slice (some ⟨g, 0, none⟩) n cap) n (rwcells (l1 ++ l2.take m ++ (t :: l2).drop m))
  keep : ∀ b o, b ≠ g → V.heap[b]? = some o → W.heap[b]? = some o
  bel : ∀ B w, B ≤ g → B ≤ V.heap.size → Below B w V → Below B w W
  size : V.heap.size ≤ W.heap.size
set_option maxRecDepth 100000 in
set_option maxHeartbeats 4000000 in
/-- A row of one's own without the one of its rows of which a closure holds. -/
theorem DelFunc_any (l1 l2 : List Rw) (t : Rw) (g n m cap base key X : Nat) (V : World) (h : V.ownsRow base 53 4 (.slice (some ⟨g, 0, none⟩) n cap) n (rwcells (l1 ++ t :: l2))) (hn : n = m + 1) (hl : (l1 ++ t :: l2).length = n) (hn5 : n ≤ 5000)
    (hc : V.cell? ⟨X, 1, none⟩ = some (.int .u64 ((key : Nat) : Int))) (hX : X < V.heap.size) (hXg : X ≠ g) (h1 : ∀ x ∈ l1, x.2.2.1 ≠ key) (ht : t.2.2.1 = key) (h2 : ∀ x ∈ l2, x.2.2.1 ≠ key) :
    Calls Tryd.prog 22 #[.slice (some ⟨g, 0, none⟩) n cap, .func (.func 17) #[] #[.pointer (some ⟨X, 0, none⟩)]] V (fun e W => e = .returned (.slice (some ⟨g, 0, none⟩) m cap) ∧
      W.ownsRow base 53 4 (.slice (some ⟨g, 0, none⟩) m cap) m (rwcells (l1 ++ l2)) ∧ (∀ b o, b ≠ g → V.heap[b]? = some o → W.heap[b]? = some o) ∧ (∀ B w, B ≤ g → B ≤ V.heap.size → Below B w V → Below B w W)) := by
  obtain ⟨k1, hk1⟩ : ∃ k, l1.length = k := ⟨_, rfl⟩
  obtain ⟨k2, hk2⟩ : ∃ k, l2.length = k := ⟨_, rfl⟩
  have hsum : k1 + 1 + k2 = n := by rw [← hl, ← hk1, ← hk2]; simp; omega
  have hcapn : n ≤ cap ∧ cap ≤ 9223372036854775807 := (Leads.of_own1 h).len.2 |> fun x => ⟨(Leads.of_own1 h).1, x⟩
  have hIX := IdxRw_at (l1 ++ t :: l2) l1 l2 t (fun r => decide (r.2.2.1 = key)) (some ⟨g, 0, none⟩) n cap X V (Leads.of_own1 h) hl (by omega) (isKey_from key X V hc hX) rfl (fun x hx => decide_eq_false (h1 x hx)) (decide_eq_true ht)
  rw [hk1] at hIX
  have HIX := hid hIX
  have HF0 : Hid (Dlf base g n cap V l1 l2 t 0 V) := hid ⟨by simpa using h, fun b o _ ho => ho, fun B w _ _ hb => hb, Nat.le_refl _⟩
  have HK1 := hid hk1
  have HK2 := hid hk2
  have HC := hid hc
  have H2 := hid h2
  have hgV : g < V.heap.size := by
    obtain ⟨-, ⟨q, -⟩ | ⟨g', cap', cur, q, -, hh, -⟩⟩ := h
    · cases q
    · cases q; exact lt_laid hh
  have hneg : (((k1 : Nat) : Int) == (-1)) = false := by simp
  have hneg' : ¬ ((k1 : Nat) : Int) = -1 := by omega
  have HS := hid hsum
  have HNM := hid hn
  have hk1n : k1 < n := by omega
  have hk1m : k1 ≤ m := by omega
  clear h hl hk1 hk2 hIX hc h1 ht h2 hsum hn
  go_enter Tryd.func22, Tryd.ntmps22
  go_wp2_with fail
  refine HIX.out.mono ?_
  rintro e w2 ⟨rfl, hb2⟩
  have HF : Hid (Dlf base g n cap V l1 l2 t 0 w2) := hid ⟨own_grow HF0.out.own hb2, fun b o hb ho => keep_any (HF0.out.keep b o hb ho) hb2, fun B w h1 h2 hb => hb.trans (hb2.mono h2), Nat.le_trans HF0.out.size hb2.size⟩
  clear hb2 HF0 HIX
  go_wp2
  go_loopg [5, 6] k2 (fun g' t5 t6 wr => ∃ m' i j : Nat, t5 = .int .i64 ((i : Nat) : Int) ∧ t6 = .int .i64 ((j : Nat) : Int) ∧ Hid (g' + m' = k2 ∧ i = k1 + m' ∧ j = k1 + 1 + m') ∧ Hid (Dlf base g n cap V l1 l2 t m' wr))
  case atStart => exact ⟨0, k1, k1 + 1, rfl, by go_num, hid ⟨rfl, rfl, rfl⟩, HF⟩
  case round =>
    clear HF
    obtain ⟨m', i, j, rfl, rfl, hk, hF⟩ := hrel
    have HK := hk
    have hin : i < n := by have := hk.out; have := HS.out; omega
    have hcn := hcapn.1
    by_cases hjn : j < n
    · have hm2 : m' < k2 := by have := hk.out; have := HS.out; omega
      have t1 : decide (((j : Nat) : Int) < ((n : Nat) : Int)) = true := decide_eq_true (by omega)
      obtain ⟨⟨y0, y1, y2, y3⟩, hy⟩ : ∃ y, l2[m']? = some y := ⟨_, List.getElem?_eq_getElem (by rw [HK2.out]; exact hm2)⟩
      have hrow : (l1 ++ l2.take m' ++ (t :: l2).drop m')[j]? = some (y0, y1, y2, y3) := by
        have hA : (l1 ++ l2.take m').length = k1 + m' := by rw [List.length_append, List.length_take, HK1.out, HK2.out]; omega
        have := hk.out
        rw [List.getElem?_append_right (by omega), hA, show j - (k1 + m') = 1 by omega, List.getElem?_drop]
        exact hy
      obtain ⟨b, off, hbo, -, hcc⟩ := (Leads.of_own1 hF.out.own).rw hjn hrow
      simp only [Option.some.injEq, Addr.mk.injEq, and_true] at hbo
      obtain ⟨rfl, rfl⟩ := hbo
      rw [Nat.zero_add] at hcc
      obtain ⟨f0, f1, f2, f3⟩ := hcc wr (Below.refl _ _)
      have HHY := hid hy
      have hnk : y2 ≠ key := H2.out _ (List.mem_of_getElem? hy)
      obtain ⟨w3, hw3, hb3, hs3, hl3⟩ := laid wr #[.int .i64 0, .int .u64 0, .int .u64 0, .int .u64 0] 53
      obtain ⟨B, hB⟩ : ∃ X, wr.heap.size = X := ⟨_, rfl⟩
      rw [hB] at hl3
      have KB3 := hid hl3
      have hgB : g < B := by have := hF.out.size; omega
      have hXB : X < B := by have := hF.out.size; omega
      have HF3 : Hid (Dlf base g n cap V l1 l2 t m' w3) := hid ⟨own_grow hF.out.own hb3, fun b o hb ho => keep_any (hF.out.keep b o hb ho) hb3, fun B w h1 h2 hb => (hF.out.bel B w h1 h2 hb).trans (hb3.mono (Nat.le_trans h2 hF.out.size)), Nat.le_trans hF.out.size hb3.size⟩
      have hVB : V.heap.size ≤ B := by have := hF.out.size; omega
      clear hF hcc hrow hb3 hs3 hl3 hy
      have hjn' : ((j : Nat) : Int) < ((n : Nat) : Int) := by omega
      go_wp2_with (refine wp_storeP rfl 53 (.tmp 7) (.tmp 25) rfl B (0) _ #[.int .i64 ((y0 : Nat) : Int), .int .u64 ((y1 : Nat) : Int), .int .u64 ((y2 : Nat) : Int), .int .u64 ((y3 : Nat) : Int)] _ rfl rfl _ KB3.out (by kernel_rfl) (Nat.le_of_ble_eq_true rfl) (by kernel_rfl) rfl ?_; intro w4 a1 a2 a3 a4; have KB4 := hid a1; have HF4 : Hid (Dlf base g n cap V l1 l2 t m' w4) := hid ⟨own_keepB HF3.out.own (fun o ho => a2 g o (by omega) ho), fun b o hb ho => a2 b o (by have := lt_any ho; omega) (HF3.out.keep b o hb ho), fun B' w' h1 h2 hb => a3 B' w' (by omega) (HF3.out.bel B' w' h1 h2 hb), Nat.le_trans HF3.out.size a4.size⟩; have z0 := cell_laid (i := 0) KB4.out rfl; have z1 := cell_laid (i := 1) KB4.out rfl; have z2 := cell_laid (i := 2) KB4.out rfl; have z3 := cell_laid (i := 3) KB4.out rfl; clear a1 a2 a3 a4)
      clear hB
      have hXc : w4.cell? ⟨X, 1, none⟩ = some (.int .u64 ((key : Nat) : Int)) := cell_any HC.out (fun o ho => HF4.out.keep X o hXg ho)
      have HKY := hid (isKey_any (y0, y1, y2, y3) key X w4 hXc (by have := HF4.out.size; omega))
      rw [decide_eq_false (show ¬ (y0, y1, y2, y3).2.2.1 = key from hnk)] at HKY
      unfold rwV at HKY
      clear hXc
      refine HKY.out.mono ?_
      rintro e w5 ⟨rfl, hb5⟩
      have KB5 := hid (keep_laid KB4.out hb5)
      have HF5 : Hid (Dlf base g n cap V l1 l2 t m' w5) := hid ⟨own_grow HF4.out.own hb5, fun b o hb ho => keep_any (HF4.out.keep b o hb ho) hb5, fun B w h1 h2 hb => (HF4.out.bel B w h1 h2 hb).trans (hb5.mono (Nat.le_trans h2 HF4.out.size)), Nat.le_trans HF4.out.size hb5.size⟩
      clear hb5 z0 z1 z2 z3 f0 f1 f2 f3 HKY KB4 HF4 KB3 HF3
      have z0 := cell_laid (i := 0) KB5.out rfl
      have z1 := cell_laid (i := 1) KB5.out rfl
      have z2 := cell_laid (i := 2) KB5.out rfl
      have z3 := cell_laid (i := 3) KB5.out rfl
      obtain ⟨cur, hcur, hcsz⟩ : ∃ cur, w5.heap[g]? = some (.cells cur 53 (0, 0)) ∧ n * 4 ≤ cur.size := by
        obtain ⟨-, ⟨q, -⟩ | ⟨g', cap', cur, q, -, hh, q1, -, q3, -⟩⟩ := HF5.out.own
        · cases q
        · cases q; exact ⟨cur, hh, by rw [q3]; exact Nat.mul_le_mul_right 4 q1⟩
      have HCUR := hid hcur
      have hcz : i * 4 + 4 ≤ cur.size := by omega
      have hin' : ((i : Nat) : Int) < ((n : Nat) : Int) := by omega
      clear hcur
      go_wp2_with (refine wp_storeP rfl 53 (.tmp 33) (.tmp 32) rfl g (i * 4) cur (patch cur (i * 4) [.int .i64 ((y0 : Nat) : Int), .int .u64 ((y1 : Nat) : Int), .int .u64 ((y2 : Nat) : Int), .int .u64 ((y3 : Nat) : Int)]) _ rfl rfl _ HCUR.out (by kernel_rfl) hcz (by kernel_rfl) rfl ?_; intro w6 a1 a2 a3 a4; have HR6 := hid (own_patch HF5.out.own (rw4 (y0, y1, y2, y3)) rfl hin cur HCUR.out a1); have HP6 : Hid ((∀ b o, b ≠ g → V.heap[b]? = some o → w6.heap[b]? = some o) ∧ (∀ B w, B ≤ g → B ≤ V.heap.size → Below B w V → Below B w w6) ∧ V.heap.size ≤ w6.heap.size) := hid ⟨fun b o hb ho => a2 b o hb (HF5.out.keep b o hb ho), fun B' w' h1 h2 hb => a3 B' w' h1 (HF5.out.bel B' w' h1 h2 hb), Nat.le_trans HF5.out.size a4.size⟩; clear a1 a2 a3 a4)
      have HF6 : Hid (Dlf base g n cap V l1 l2 t (m' + 1) w6) := hid (by
        refine ⟨?_, HP6.out.1, HP6.out.2.1, HP6.out.2.2⟩
        have hA : (l1 ++ l2.take m').length = i := by have := HK.out; rw [List.length_append, List.length_take, HK1.out, HK2.out]; omega
        have hd : (t :: l2).drop m' = (t :: l2)[m']'(by simp [HK2.out]; omega) :: l2.drop m' := by rw [List.drop_eq_getElem_cons (by simp [HK2.out]; omega)]; rfl
        have hy := HHY.out
        have hlt : m' < l2.length := by rw [HK2.out]; exact hm2
        have hd2 : l2.drop m' = (y0, y1, y2, y3) :: l2.drop (m' + 1) := by rw [List.drop_eq_getElem_cons hlt]; congr 1; rw [List.getElem?_eq_getElem hlt] at hy; exact Option.some.inj hy
        have ht2 : l2.take (m' + 1) = l2.take m' ++ [(y0, y1, y2, y3)] := by rw [List.take_add_one, hy]; rfl
        have hr := HR6.out
        rw [hd, ← hA, rw_patch] at hr
        rw [ht2]
        simpa [List.append_assoc] using hr)
      clear HCUR HF5 KB5 z0 z1 z2 z3 HR6 HP6 hcz hcsz
      go_wp2
      go_roundg (gk - 1)
      case measure => have := HK.out; omega
      case rel => exact ⟨m' + 1, i + 1, j + 1, by go_num, by go_num, hid (by have := HK.out; omega), HF6⟩
    · have t1 : decide (((j : Nat) : Int) < ((n : Nat) : Int)) = false := decide_eq_false (by omega)
      have hjn' : ¬ ((j : Nat) : Int) < ((n : Nat) : Int) := by omega
      have him : i = m := by have := hk.out; have := HS.out; have := HNM.out; omega
      have hm' : m' = k2 := by have := hk.out; have := HS.out; omega
      have hown : Hid (wr.ownsRow base 53 4 (.slice (some ⟨g, 0, none⟩) n cap) n (rwcells ((l1 ++ l2) ++ (t :: l2).drop k2))) := hid (by
        have := hF.out.own
        rw [hm', List.take_of_length_le (by rw [HK2.out]; exact Nat.le_refl _)] at this
        exact this)
      have hlen12 : (l1 ++ l2).length = m := by have := HS.out; have := HNM.out; rw [List.length_append, HK1.out, HK2.out]; omega
      have hmn1 : n = m + 1 := HNM.out
      obtain ⟨cur, hcur, hcsz, hcap, hcmx, hbg, hct⟩ : ∃ cur, wr.heap[g]? = some (.cells cur 53 (0, 0)) ∧ cur.size = cap * 4 ∧ n ≤ cap ∧ cap ≤ maxLen ∧ base ≤ g ∧ cur.toList.take (n * 4) = rwcells ((l1 ++ l2) ++ (t :: l2).drop k2) := by
        obtain ⟨-, ⟨q, -⟩ | ⟨g', cap', cur, q, qb, hh, q1, q2, q3, q4⟩⟩ := hown.out
        · cases q
        · cases q; exact ⟨cur, hh, q3, q1, q2, qb, q4⟩
      obtain ⟨cur2, d1, d2, d3, d4, d5, d6⟩ := setCells_at [.int .i64 0, .int .u64 0, .int .u64 0, .int .u64 0] (m * 4) wr cur hcur
      obtain ⟨W2, hW2⟩ : ∃ W2, W2 = wr.setCells g (m * 4) [.int .i64 0, .int .u64 0, .int .u64 0, .int .u64 0] := ⟨_, rfl⟩
      rw [← hW2] at d1 d5 d6
      have hcl : ∀ ty c, (Builtin.clear_ #[40] ty #[.slice (some ⟨g, m * 4, none⟩) 1 c]).run Tryd.prog wr = .ok (.tuple #[]) W2 := by
        intro ty c
        rw [hW2]
        refine run_clear_rw wr ty g (m * 4) c (fun t ht => ?_) (fun t ht => free_laid hcur)
        obtain ⟨v, hv⟩ : ∃ v, cur[m * 4 + t]? = some v := ⟨_, Array.getElem?_eq_getElem (by omega)⟩
        rw [at_block hcur hv]; rfl
      have hend : Hid (W2.ownsRow base 53 4 (.slice (some ⟨g, 0, none⟩) m cap) m (rwcells (l1 ++ l2)) ∧ (∀ b o, b ≠ g → V.heap[b]? = some o → W2.heap[b]? = some o) ∧ (∀ B w, B ≤ g → B ≤ V.heap.size → Below B w V → Below B w W2)) := hid (by
        refine ⟨⟨by rw [rwcells_len', hlen12], .inr ⟨g, cap, cur2, rfl, hbg, d1, by omega, hcmx, by rw [d2, hcsz], ?_⟩⟩, fun b o hb ho => d5 b o hb (hF.out.keep b o hb ho), fun B w h1 h2 hw => d6 B w h1 (hF.out.bel B w h1 h2 hw)⟩
        apply List.ext_getElem?
        intro x
        rw [List.getElem?_take]
        by_cases hx : x < m * 4
        · rw [if_pos hx, Array.getElem?_toList, d3 x (.inl hx), ← Array.getElem?_toList]
          have := congrArg (fun l => l[x]?) hct
          rw [List.getElem?_take, if_pos (by omega), rwcells_append, List.getElem?_append_left (by rw [rwcells_len', hlen12]; exact hx)] at this
          exact this
        · rw [if_neg hx, List.getElem?_eq_none (by rw [rwcells_len', hlen12]; omega)])
      have e2 : n - m = 1 := by omega
      have hmc : m ≤ cap := by omega
      have hmn : m ≤ n := by omega
      have hcm : ¬ cap = m := by omega
      subst him
      clear hF hk HK hown hcur d1 d2 d3 d4 d5 d6 hW2 hct hcsz hcmx hbg hlen12 hm' hmn1 HS HNM HK1 HK2
      go_wp2
      go_ret
      exact ⟨rfl, hend.out⟩
end Go.Proofs.YtahicokokfcieaaDoor
namespace Go.Proofs.YtahicokokfcieaaDoor
open Go.RowKit
open Go.Proofs
set_option linter.unusedVariables false
/-- A node's words; those of nodes; those of buckets. -/
def w4R (ns : List Nd) : List Nat := ns.flatMap fun t => List.range' t.1 4
def wordsT (nss : List (List Nd)) : List Nat := nss.flatMap w4R
/-- The rows of buckets, the first of which has this number. -/
def rowsB : Nat → List (List Nd) → List Rw
  | _, [] => []
  | b, ns :: r => ns.map (rwOf b) ++ rowsB (b + 1) r
/-- Each bucket's list is a list, and its keys go there. -/
def BOk (M : Mem) (a d : Nat) : Nat → List (List Nd) → Prop
  | _, [] => True
  | b, ns :: r => nodesR M (a + b) = some ns ∧ (∀ t ∈ ns, ofN t.2.1 d = b ∧ hashN t.2.1 = t.2.2.2) ∧ BOk M a d (b + 1) r
def FreshW (M : Mem) (met ws : List Nat) : Prop := (∀ w ∈ ws, liveN M w = true ∧ w ∉ met) ∧ ws.Nodup
theorem fresh_append {M : Mem} {met xs ys : List Nat} : FreshW M met (xs ++ ys) ↔ FreshW M met xs ∧ FreshW M (met ++ xs) ys := by
  unfold FreshW
  constructor
  · rintro ⟨h, hn⟩
    obtain ⟨n1, n2, n3⟩ := List.nodup_append.1 hn
    refine ⟨⟨fun w hw => h w (List.mem_append_left _ hw), n1⟩, fun w hw => ⟨(h w (List.mem_append_right _ hw)).1, ?_⟩, n2⟩
    intro hm
    rcases List.mem_append.1 hm with hm | hm
    · exact (h w (List.mem_append_right _ hw)).2 hm
    · exact n3 w hm w hw rfl
  · rintro ⟨⟨h1, n1⟩, h2, n2⟩
    refine ⟨fun w hw => ?_, List.nodup_append.2 ⟨n1, n2, fun x hx y hy e => ?_⟩⟩
    · rcases List.mem_append.1 hw with hw | hw
      · exact h1 w hw
      · exact ⟨(h2 w hw).1, fun hm => (h2 w hw).2 (List.mem_append_left _ hm)⟩
    · subst e; exact (h2 x hy).2 (List.mem_append_right _ hx)
theorem meet_fresh {M : Mem} {p k : Nat} {met met' : List Nat} : tmeet M p k met = some met' ↔ p ≤ 4096 ∧ FreshW M met (List.range' p k) ∧ met' = met ++ List.range' p k := by
  rw [tmeet_iff]
  unfold FreshW
  constructor
  · rintro ⟨h1, h2, h3⟩
    refine ⟨h1, ⟨fun w hw => ?_, List.nodup_range'⟩, h3⟩
    rw [List.mem_range'_1] at hw
    have := h2 (w - p) (by omega)
    rwa [show p + (w - p) = w by omega] at this
  · rintro ⟨h1, ⟨h2, -⟩, h3⟩
    exact ⟨h1, fun j hj => h2 _ (by rw [List.mem_range'_1]; omega), h3⟩
theorem takeNs_iff {M : Mem} {d b : Nat} (hok : okM M = true) : ∀ (ns : List Nd) (met : List Nat) (out xs : List Rw) (met' : List Nat), takeNs M d b ns met out = some (xs, met') ↔ (∀ t ∈ ns, ofN t.2.1 d = b ∧ hashN t.2.1 = t.2.2.2) ∧ FreshW M met (w4R ns) ∧ xs = out ++ ns.map (rwOf b) ∧ met' = met ++ w4R ns
  | [], met, out, xs, met' => by
    unfold takeNs
    constructor
    · intro h
      simp only [Option.some.injEq, Prod.mk.injEq] at h
      obtain ⟨rfl, rfl⟩ := h
      exact ⟨by simp, ⟨by simp [w4R], by simp [w4R]⟩, by simp, by simp [w4R]⟩
    · rintro ⟨-, -, rfl, rfl⟩
      simp [w4R]
  | t :: ts, met, out, xs, met' => by
    have hw : w4R (t :: ts) = List.range' t.1 4 ++ w4R ts := by simp [w4R]
    rw [hw, fresh_append]
    cases hm : tmeet M t.1 4 met with
    | none =>
      rw [takeNs_none hm]
      constructor
      · intro h; cases h
      · rintro ⟨-, ⟨h2, -⟩, -⟩
        exfalso
        have hl := (h2.1 t.1 (by rw [List.mem_range'_1]; omega)).1
        obtain ⟨q1, q2, q3, -⟩ := okM_spec hok
        have hlt := live_lt hl
        have := meet_fresh.2 ⟨(by omega : t.1 ≤ 4096), h2, rfl⟩
        rw [hm] at this
        cases this
    | some met1 =>
      obtain ⟨h1, h2, rfl⟩ := meet_fresh.1 hm
      by_cases hk : ofN t.2.1 d = b ∧ hashN t.2.1 = t.2.2.2
      · rw [takeNs_good hm hk.1 hk.2, takeNs_iff hok ts]
        constructor
        · rintro ⟨k1, k2, rfl, rfl⟩
          refine ⟨fun x hx => ?_, ⟨h2, k2⟩, by simp, by simp⟩
          rcases List.mem_cons.1 hx with rfl | hx
          · exact hk
          · exact k1 x hx
        · rintro ⟨k1, ⟨-, k2⟩, rfl, rfl⟩
          exact ⟨fun x hx => k1 x (List.mem_cons_of_mem _ hx), k2, by simp, by simp⟩
      · rw [takeNs_bad hm hk]
        constructor
        · intro h; cases h
        · rintro ⟨k1, -⟩
          exact absurd (k1 t (List.mem_cons_self ..)) hk
theorem buckets_iff {M : Mem} {a d : Nat} (hok : okM M = true) : ∀ (k b : Nat) (met : List Nat) (out xs : List Rw) (met' : List Nat), bucketsGo M a d k b met out = some (xs, met') ↔ ∃ nss, nss.length = k ∧ BOk M a d b nss ∧ FreshW M met (wordsT nss) ∧ xs = out ++ rowsB b nss ∧ met' = met ++ wordsT nss
  | 0, b, met, out, xs, met' => by
    unfold bucketsGo
    constructor
    · intro h
      simp only [Option.some.injEq, Prod.mk.injEq] at h
      exact ⟨[], rfl, trivial, ⟨by simp [wordsT], by simp [wordsT]⟩, by simp [rowsB, h.1], by simp [wordsT, h.2]⟩
    · rintro ⟨nss, h0, -, -, rfl, rfl⟩
      obtain rfl := List.eq_nil_of_length_eq_zero h0
      simp [rowsB, wordsT]
  | k + 1, b, met, out, xs, met' => by
    have hwt : ∀ (ns : List Nd) (r : List (List Nd)), wordsT (ns :: r) = w4R ns ++ wordsT r := fun ns r => by simp [wordsT]
    unfold bucketsGo
    constructor
    · intro h
      cases hn : nodesR M (a + b) with
      | none => rw [hn] at h; cases h
      | some ns =>
        rw [hn, Option.bind_some] at h
        cases ht : takeNs M d b ns met out with
        | none => rw [ht] at h; cases h
        | some r =>
          obtain ⟨r1, r2⟩ := r
          rw [ht, Option.bind_some] at h
          obtain ⟨t1, t2, rfl, rfl⟩ := (takeNs_iff hok ns met out r1 r2).1 ht
          obtain ⟨nss, q1, q2, q3, rfl, rfl⟩ := (buckets_iff hok k (b + 1) _ _ _ _).1 h
          exact ⟨ns :: nss, by simp [q1], ⟨hn, t1, q2⟩, by rw [hwt, fresh_append]; exact ⟨t2, q3⟩, by simp [rowsB], by rw [hwt]; simp⟩
    · rintro ⟨nss, h0, hb, hf, rfl, rfl⟩
      match nss, h0, hb, hf with
      | ns :: r, h0, ⟨hn, t1, q2⟩, hf =>
        rw [hwt, fresh_append] at hf
        rw [hn, Option.bind_some, (takeNs_iff hok ns met out _ _).2 ⟨t1, hf.1, rfl, rfl⟩, Option.bind_some]
        exact (buckets_iff hok k (b + 1) _ _ _ _).2 ⟨r, by simpa using h0, q2, hf.2, by simp [rowsB], by rw [hwt]; simp⟩
/-- The words of a table. -/
def metT (root a d : Nat) (nss : List (List Nd)) : List Nat := root :: List.range' a (2 ^ d) ++ wordsT nss
/-- A table: its root, its array, its buckets. -/
structure TabP (M : Mem) (root a d : Nat) (nss : List (List Nd)) : Prop where
  says : saysW (rdL M.W root) = some (a, d)
  len : nss.length = 2 ^ d
  bok : BOk M a d 0 nss
  nd : (metT root a d nss).Nodup
  live : ∀ w ∈ metT root a d nss, liveN M w = true
theorem tab_of {M : Mem} {root : Nat} {xs : List Rw} {met : List Nat} (hok : okM M = true) (h : rowsW M root = some (xs, met)) : ∃ a d nss, TabP M root a d nss ∧ xs = rowsB 0 nss ∧ met = metT root a d nss := by
  obtain ⟨a, d, m0, m1, t0, hs, t1, hb⟩ := rows_open h
  obtain ⟨-, f0, rfl⟩ := meet_fresh.1 t0
  obtain ⟨-, f1, rfl⟩ := meet_fresh.1 t1
  obtain ⟨nss, q1, q2, q3, rfl, rfl⟩ := (buckets_iff hok _ _ _ _ _ _).1 hb
  rw [List.nil_append] at f1 q3
  have hr1 : List.range' root 1 = [root] := rfl
  rw [hr1] at f0 f1 q3 ⊢
  have f01 : FreshW M [] ([root] ++ List.range' a (2 ^ d)) := fresh_append.2 ⟨f0, by simpa using f1⟩
  have f02 : FreshW M [] ([root] ++ List.range' a (2 ^ d) ++ wordsT nss) := fresh_append.2 ⟨f01, by simpa using q3⟩
  exact ⟨a, d, nss, ⟨hs, q1, q2, f02.2, fun w hw => (f02.1 w hw).1⟩, by simp, rfl⟩
theorem of_tab {M : Mem} {root a d : Nat} {nss : List (List Nd)} (hok : okM M = true) (h : TabP M root a d nss) : rowsW M root = some (rowsB 0 nss, metT root a d nss) := by
  obtain ⟨o1, o2, o3, -⟩ := okM_spec hok
  have hf : FreshW M [] ([root] ++ List.range' a (2 ^ d) ++ wordsT nss) := ⟨fun w hw => ⟨h.live w hw, by simp⟩, h.nd⟩
  obtain ⟨hf1, hf2⟩ := fresh_append.1 hf
  obtain ⟨hf0, hf1⟩ := fresh_append.1 hf1
  obtain ⟨hd2, hd4, ha⟩ := saysW_some (show saysW (rdL M.W root) = some (a, d) from h.says)
  obtain ⟨-, hp4, hp16⟩ := pow_dep hd2 hd4
  have hra : root ≤ 4096 := by have := live_lt (h.live root (by simp [metT])); omega
  have haa : a ≤ 4096 := by
    have := live_lt (h.live a (by
      unfold metT
      simp only [List.cons_append, List.mem_cons, List.mem_append, List.mem_range'_1]
      exact .inr (.inl (by omega))))
    omega
  have t0 : tmeet M root 1 [] = some [root] := meet_fresh.2 ⟨hra, hf0, rfl⟩
  have t1 : tmeet M a (2 ^ d) [root] = some ([root] ++ List.range' a (2 ^ d)) := meet_fresh.2 ⟨haa, by simpa using hf1, rfl⟩
  have hb := (buckets_iff hok (2 ^ d) 0 ([root] ++ List.range' a (2 ^ d)) [] (rowsB 0 nss) (metT root a d nss)).2 ⟨nss, h.len, h.bok, by simpa using hf2, by simp, rfl⟩
  unfold rowsW
  rw [t0, Option.bind_some, show saysW (M.W.getD root 0) = some (a, d) from h.says, Option.bind_some, t1, Option.bind_some]
  exact hb
end Go.Proofs.YtahicokokfcieaaDoor
