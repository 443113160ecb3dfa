/- Processes: slices.Insert (printed by gen_prins.py). -/
import Derived.Test.YtmnbkhmphhgdiaaDoorPr1
import Derived.Shelf.RegionOpenPlain
import Derived.WalkKit
import Derived.Lib.Walk
import Derived.Lib.SliceRun
import Derived.Lib.AppendZeros
import Derived.Lib.AppendZerosOnto
import Derived.Lib.Overlaps
import Derived.Laws.Externs
import Derived.Laws.IdiomCopy
import Derived.Laws.NewBlocks
import Derived.Deep.RegionLaw
import Derived.Shelf.Spec.SlicesInsert
namespace Go.Proofs.YtmnbkhmphhgdiaaDoor
open Go.RowKit
open Go.Proofs
set_option linter.unusedVariables false
attribute [local go_sem] Oper.semAt_some
/-- Many cells of a block are written: the block, and all others, behind it. -/
theorem setCells_at {e : TypeId} {g : Nat} : ∀ (vs : List Value) (o : Nat) (W : World) (cur : Array Value), W.heap[g]? = some (.cells cur e (0, 0)) →
    ∃ cur', (W.setCells g o vs).heap[g]? = some (.cells cur' e (0, 0)) ∧ cur'.size = cur.size ∧ (∀ i, (i < o ∨ o + vs.length ≤ i) → cur'[i]? = cur[i]?) ∧ (∀ j v, vs[j]? = some v → o + j < cur.size → cur'[o + j]? = some v) ∧
      (∀ b ob, b ≠ g → W.heap[b]? = some ob → (W.setCells g o vs).heap[b]? = some ob) ∧ (∀ B w, B ≤ g → Below B w W → Below B w (W.setCells g o vs))
  | [], o, W, cur, h => ⟨cur, h, rfl, fun _ _ => rfl, fun j v h => by simp at h, fun _ _ _ h => h, fun _ _ _ h => h⟩
  | v :: r, o, W, cur, h => by
    obtain ⟨cur', h1, h2, h3, h4, h5, h6⟩ := setCells_at r (o + 1) (W.setCell ⟨g, o, none⟩ v) _ (set_laid (i := o) h v)
    refine ⟨cur', h1, by rw [h2]; simp, fun i hi => ?_, fun j u hj ho => ?_, fun b ob hb hob => h5 b ob hb (other_laid hob hb v), fun B w hB hw => h6 B w hB (hw.setCell (p := ⟨g, o, none⟩) hB v)⟩
    · have hl : (v :: r).length = r.length + 1 := rfl
      rw [h3 i (by omega), Array.getElem?_setIfInBounds]
      rw [if_neg (by omega)]
    · rcases j with _ | j
      · rw [h3 _ (by omega)]
        simp only [List.getElem?_cons_zero, Option.some.injEq] at hj
        subst hj
        rw [Nat.add_zero, Array.getElem?_setIfInBounds, if_pos rfl, if_pos (by simpa using ho)]
      · have := h4 j u (by simpa using hj) (by simp; omega)
        rw [show o + (j + 1) = o + 1 + j by omega]
        exact this


theorem prcells_drop (xs : List Pr) (k : Nat) : (prcells xs).drop (k * 4) = prcells (xs.drop k) := by
  induction xs generalizing k with
  | nil => simp [prcells]
  | cons x xs ih =>
    cases k with
    | zero => simp
    | succ k =>
      have e : (k + 1) * 4 = k * 4 + 1 + 1 + 1 + 1 := by omega
      rw [e]
      exact ih k
theorem prcells_take (xs : List Pr) (k : Nat) : (prcells xs).take (k * 4) = prcells (xs.take k) := by
  induction xs generalizing k with
  | nil => simp [prcells]
  | cons x xs ih =>
    cases k with
    | zero => simp [prcells]
    | succ k =>
      have e : (k + 1) * 4 = k * 4 + 1 + 1 + 1 + 1 := by omega
      rw [e]
      show _ :: _ :: _ :: _ :: (prcells xs).take (k * 4) = _
      rw [ih k]
      rfl
theorem run_copy_wide (w : World) (dT sT ty elem : TypeId) (m b o dLen dCap : Nat) (a : Addr) (sLen sCap k : Nat) (cs : List Value)
    (hu : Tryd.prog.underlying dT = some (.slice elem)) (hs : (Tryd.prog.info? elem).map (·.size) = some m) (hk : Nat.min sLen dLen = k) (hn : cs.length = k * m)
    (hsrc : ∀ j v, cs[j]? = some v → w.cell? (a.add j) = some v) (hc : ∀ j, j < cs.length → (w.cell? ⟨b, o + j, none⟩).isSome = true) (hf : ∀ j, j < cs.length → w.frozen? ⟨b, o + j, none⟩ = false) (h1 : ∀ v ∈ cs, v.oneCell' = true) :
    (Builtin.copy_ #[dT, sT] ty #[.slice (some ⟨b, o, none⟩) dLen dCap, .slice (some a) sLen sCap]).run Tryd.prog w = .ok (goInt k) (w.setCells b o cs) := by
  have hl := run_loadCells_list (P := Tryd.prog) w a cs hsrc
  have hst := run_storeCells_cells (P := Tryd.prog) b o cs 0 w (by simpa using hc) (by simpa using hf) h1
  cases hq : Tryd.prog.info? elem with
  | none => simp [hq] at hs
  | some i =>
    have hi : i.size = m := by simpa [hq] using hs
    have hn' : Nat.min sLen dLen * m = cs.length := by rw [hk, hn]
    have hk' : min sLen dLen = k := hk
    simp [Builtin.copy_, run_underlying hu, Builtin.lenOf, Builtin.firstCells, sizeOf, typeInfo, hq, hi, hk', ← hn, hl, hst]
/-- What Insert gives. -/
def GivesIns (L : List Pr) (base g : Nat) (V : World) (e : Ending) (W : World) : Prop := ∃ v, e = .returned v ∧ W.ownsRow base 45 4 v L.length (prcells L) ∧ V.grownBy W (some g)
theorem grownBy_setCells (g : Nat) : ∀ (vs : List Value) (o : Nat) (A : World), A.grownBy (A.setCells g o vs) (some g)
  | [], o, A => ⟨rfl, rfl, rfl, Nat.le_refl _, fun _ _ _ => rfl⟩
  | v :: r, o, A => grownBy_trans (grownBy_setCell A g o v) (grownBy_setCells g r (o + 1) _)
theorem grownBy_drew {A B : World} {g : Option Nat} (h : A.grownBy B g) : A.grownBy B.drew g := ⟨h.os, h.tape, h.output, h.size, h.block⟩
theorem take_of_cells {xs ys : List Value} {n m : Nat} (hx : xs.length = n) (hm : n ≤ m) (h : ∀ j, j < n → ys[j]? = xs[j]?) (hl : n ≤ ys.length) : ys.take n = xs := by
  apply List.ext_getElem?
  intro j
  rw [List.getElem?_take]
  by_cases hj : j < n
  · rw [if_pos hj, h j hj]
  · rw [if_neg hj, List.getElem?_eq_none (by omega)]
/-- The cells of a row with one more. -/
theorem ins_cells (L : List Pr) (t : Pr) (i n : Nat) (hi : i ≤ n) (hn : L.length = n) (cur : Array Value) (hs : (n + 1) * 4 ≤ cur.size)
    (h1 : ∀ j, j < i * 4 → cur[j]? = (prcells L)[j]?) (h2 : ∀ j v, (pr4 t)[j]? = some v → cur[i * 4 + j]? = some v) (h3 : ∀ j v, (prcells (L.drop i))[j]? = some v → cur[(i + 1) * 4 + j]? = some v) :
    cur.toList.take ((n + 1) * 4) = prcells (L.take i ++ t :: L.drop i) := by
  have hlen : (prcells (L.take i ++ t :: L.drop i)).length = (n + 1) * 4 := by rw [prcells_len]; simp; omega
  have hta : (prcells (L.take i)).length = i * 4 := by rw [prcells_len, List.length_take]; omega
  have hdr : (prcells (L.drop i)).length = (n - i) * 4 := by rw [prcells_len, List.length_drop, hn]; omega
  refine take_of_cells hlen (Nat.le_refl _) (fun j hj => ?_) (by simpa using hs)
  rw [Array.getElem?_toList, prcells_append]
  by_cases c1 : j < i * 4
  · rw [h1 j c1, List.getElem?_append_left (by omega), ← prcells_take, List.getElem?_take, if_pos c1]
  · rw [List.getElem?_append_right (by omega), hta]
    show cur[j]? = (pr4 t ++ prcells (L.drop i))[j - i * 4]?
    by_cases c2 : j < (i + 1) * 4
    · have hj4 : j - i * 4 < (pr4 t).length := by show _ < 4; omega
      rw [List.getElem?_append_left hj4, List.getElem?_eq_getElem hj4]
      have := h2 (j - i * 4) _ (List.getElem?_eq_getElem hj4)
      rwa [show i * 4 + (j - i * 4) = j by omega] at this
    · have h4 : (pr4 t).length = 4 := rfl
      rw [List.getElem?_append_right (by omega), h4]
      have hj5 : j - i * 4 - 4 < (prcells (L.drop i)).length := by omega
      rw [List.getElem?_eq_getElem hj5]
      have := h3 (j - i * 4 - 4) _ (List.getElem?_eq_getElem hj5)
      rwa [show (i + 1) * 4 + (j - i * 4 - 4) = j by omega] at this
set_option maxRecDepth 100000 in
set_option maxHeartbeats 4000000 in
/-- At the end. -/
theorem InsEnd_any (L : List Pr) (t : Pr) (g n c i vb base : Nat) (V : World) (h : V.ownsRow base 45 4 (.slice (some ⟨g, 0, none⟩) n c) n (prcells L)) (hln : L.length = n) (hn : n ≤ 1000) (hv : V.heap[vb]? = some (.cells #[.int .u64 ((t.1 : Nat) : Int), .int .u64 ((t.2.1 : Nat) : Int), .bool t.2.2.1, .int .u64 ((t.2.2.2 : Nat) : Int)] 45 (0, 0))) (hvg : vb ≠ g) (hbase : base ≤ V.heap.size) (hi : i = n) :
    Calls Tryd.prog 57 #[.slice (some ⟨g, 0, none⟩) n c, .int .i64 ((i : Nat) : Int), .slice (some ⟨vb, 0, none⟩) 1 1] V (GivesIns (L.take i ++ t :: L.drop i) base g V) := by
  subst hi
  have hlen : (L.take i ++ t :: L.drop i).length = i + 1 := by simp; omega
  have HE : Hid (L.take i ++ t :: L.drop i = L ++ [t]) := hid (by rw [List.take_of_length_le (by omega), List.drop_eq_nil_of_le (by omega)])
  have HLE := hid hlen
  have H := hid h
  have hl := (Leads.of_own1 h).len
  have hic : i ≤ c := (Leads.of_own1 h).1
  have HVC : Hid (∀ (k : Nat) u, (pr4 t)[k]? = some u → V.cell? ⟨vb, k, none⟩ = some u) := hid (fun k u hk => cell_laid hv (by simpa [pr4] using hk))
  clear h hlen hv hln
  obtain ⟨A, hA⟩ : ∃ A : Option Addr, A = (if c = i then some ⟨g, 0, none⟩ else some ⟨g, i * 4, none⟩) := ⟨_, rfl⟩
  have mE : (if c = i then (some ⟨g, 0, none⟩ : Option Addr) else some ⟨g, i * 4, none⟩) = A := hA.symm
  clear hA
  go_enter Tryd.func57, Tryd.ntmps57
  go_wp2_with (at_builtin; refine wp_appendM elemPr rfl _ _ rfl base _ _ _ rfl H.out ⟨vb, 0, none⟩ 1 1 (pr4 t) rfl ?qc1 ?qc2 ?qc3 ?qc4 ?qc5 ?_)
  case qc1 => rfl
  case qc2 =>
    intro j u hj
    rw [Addr.add_lit, Nat.zero_add]
    exact HVC.out j u hj
  case qc3 => exact pr4_one t
  case qc4 => omega
  case qc5 => exact hbase
  intro v' w1 hown hgrow hmv
  have HO := hid hown
  have HG := hid hgrow
  clear hown hgrow hmv
  go_wp2
  go_ret
  exact ⟨v', rfl, by rw [HLE.out, HE.out, prcells_snoc]; exact HO.out, HG.out⟩
set_option maxRecDepth 100000 in
set_option maxHeartbeats 8000000 in
/-- In the midst, with room to spare. -/
theorem InsRoom_any (L : List Pr) (t : Pr) (g n c i vb base : Nat) (V : World) (h : V.ownsRow base 45 4 (.slice (some ⟨g, 0, none⟩) n c) n (prcells L)) (hln : L.length = n) (hn : n ≤ 1000) (hv : V.heap[vb]? = some (.cells #[.int .u64 ((t.1 : Nat) : Int), .int .u64 ((t.2.1 : Nat) : Int), .bool t.2.2.1, .int .u64 ((t.2.2.2 : Nat) : Int)] 45 (0, 0))) (hvg : vb ≠ g) (hbase : base ≤ V.heap.size) (hi : i < n) (hroom : n + 1 ≤ c) :
    Calls Tryd.prog 57 #[.slice (some ⟨g, 0, none⟩) n c, .int .i64 ((i : Nat) : Int), .slice (some ⟨vb, 0, none⟩) 1 1] V (GivesIns (L.take i ++ t :: L.drop i) base g V) := by
  obtain ⟨-, ⟨h, -⟩ | ⟨g', cap', cur, he, hbg, hG, hnc, hcm, hcs, hct⟩⟩ := h
  · cases h
  simp only [Value.slice.injEq, Option.some.injEq, Addr.mk.injEq, and_true, true_and] at he
  obtain ⟨rfl, rfl⟩ := he
  obtain ⟨j, hj⟩ : ∃ j, j = i + 1 := ⟨_, rfl⟩
  obtain ⟨N, hN⟩ : ∃ N, N = n + 1 := ⟨_, rfl⟩
  have hcell : ∀ k, k < n * 4 → cur[k]? = (prcells L)[k]? := by
    intro k hk
    rw [← hct, List.getElem?_take, if_pos hk, Array.getElem?_toList]
  have hdl : (prcells (L.drop i)).length = (n - i) * 4 := by rw [prcells_len, List.length_drop, hln]; omega
  have hl63 : c ≤ 9223372036854775807 := hcm
  have hGd : V.drew.heap[g]? = some (.cells cur 45 (0, 0)) := hG
  obtain ⟨W1, hW1⟩ : ∃ W1, W1 = V.drew.setCells g (j * 4) (prcells (L.drop i)) := ⟨_, rfl⟩
  obtain ⟨cur1, c1, c2, c3, c4, c5, c6⟩ := setCells_at (prcells (L.drop i)) (j * 4) V.drew cur hGd
  rw [← hW1] at c1 c5 c6
  obtain ⟨W2, hW2⟩ : ∃ W2, W2 = W1.setCells g (i * 4) (pr4 t) := ⟨_, rfl⟩
  obtain ⟨cur2, d1, d2, d3, d4, d5, d6⟩ := setCells_at (pr4 t) (i * 4) W1 cur1 c1
  rw [← hW2] at d1 d5 d6
  have hov : ∀ lb cb, (callFunc 60 #[.slice (some ⟨vb, 0, none⟩) 1 1, .slice (some ⟨g, j * 4, none⟩) lb cb]).run Tryd.prog V = .ok (.value (.bool false)) V := fun lb cb => by
    rw [run_callFunc_extern Tryd.func60 (by kernel_rfl) (by kernel_rfl) (by kernel_rfl) (e := Extern.SlicesOverlaps.overlaps #[23, 23] #[4]) (by kernel_rfl),
      Lib.run_overlaps_apart V 23 4 45 Tryd.underlying23 4 Tryd.sizeOf45 ⟨vb, 0, none⟩ ⟨g, j * 4, none⟩ 1 1 lb cb hvg 45 45 4 cur.size (by simp [World.shape?, hv]) (by simp [World.shape?, hG]) (by omega) (free_laid hv) (free_laid (i := 4) hv)]
    rfl
  have hsz : (Tryd.prog.info? 45).map (·.size) = some 4 := by kernel_rfl
  have hcp1 : ∀ ty dc sc, (Builtin.copy_ #[23, 23] ty #[.slice (some ⟨g, j * 4, none⟩) (N - j) dc, .slice (some ⟨g, i * 4, none⟩) (N - i) sc]).run Tryd.prog V.drew = .ok (goInt (n - i : Nat)) W1 := fun ty dc sc => by
    rw [hW1]
    refine run_copy_wide V.drew _ _ ty 45 4 g (j * 4) (N - j) dc ⟨g, i * 4, none⟩ (N - i) sc (n - i) (prcells (L.drop i)) Tryd.underlying23 hsz (by simp only [Nat.min_def]; split <;> omega) hdl ?_ ?_ ?_ (prcells_one _)
    · intro k u hu
      have hk : k < (n - i) * 4 := by
        have := (List.getElem?_eq_some_iff.1 hu).1
        rwa [hdl] at this
      rw [Addr.add_lit]
      refine at_block hGd ?_
      rw [hcell _ (by omega)]
      rw [← prcells_drop, List.getElem?_drop] at hu
      exact hu
    · intro k hk
      rw [hdl] at hk
      obtain ⟨v, hv⟩ : ∃ v, cur[j * 4 + k]? = some v := ⟨_, Array.getElem?_eq_getElem (by omega)⟩
      rw [at_block hGd hv]; rfl
    · exact fun k hk => free_laid hGd
  have hvd : W1.heap[vb]? = some (.cells #[.int .u64 ((t.1 : Nat) : Int), .int .u64 ((t.2.1 : Nat) : Int), .bool t.2.2.1, .int .u64 ((t.2.2.2 : Nat) : Int)] 45 (0, 0)) := c5 vb _ hvg hv
  have hcp2 : ∀ (W : World), W = W1 → ∀ ty dc, (Builtin.copy_ #[23, 23] ty #[.slice (some ⟨g, i * 4, none⟩) (N - i) dc, .slice (some ⟨vb, 0, none⟩) 1 1]).run Tryd.prog W = .ok (goInt (1 : Nat)) W2 := fun W hW ty dc => by
    rw [hW2, hW]
    refine run_copy_wide W1 _ _ ty 45 4 g (i * 4) (N - i) dc ⟨vb, 0, none⟩ 1 1 1 (pr4 t) Tryd.underlying23 hsz (by simp only [Nat.min_def]; split <;> omega) rfl ?_ ?_ ?_ (pr4_one t)
    · intro k u hu
      rw [Addr.add_lit, Nat.zero_add]
      exact cell_laid hvd (by simpa [pr4] using hu)
    · intro k hk
      have hk4 : k < 4 := hk
      obtain ⟨v, hv⟩ : ∃ v, cur1[i * 4 + k]? = some v := ⟨_, Array.getElem?_eq_getElem (by omega)⟩
      rw [at_block c1 hv]; rfl
    · exact fun k hk => free_laid c1
  have hlen : (L.take i ++ t :: L.drop i).length = N := by simp; omega
  have hend : Hid (W2.ownsRow base 45 4 (.slice (some ⟨g, 0, none⟩) N c) N (prcells (L.take i ++ t :: L.drop i)) ∧ V.grownBy W2 (some g)) := hid (by
    refine ⟨⟨by rw [prcells_len, hlen]; omega, .inr ⟨g, c, cur2, rfl, hbg, d1, by omega, hcm, by rw [d2, c2, hcs], ?_⟩⟩, ?_⟩
    · rw [hN]
      refine ins_cells L t i n (Nat.le_of_lt hi) hln cur2 (by rw [d2, c2, hcs]; omega) ?_ ?_ ?_
      · intro k hk
        rw [d3 k (.inl hk), c3 k (.inl (by omega)), hcell k (by omega)]
      · intro k v hk
        have hk4 : k < 4 := (List.getElem?_eq_some_iff.1 hk).1
        exact d4 k v hk (by rw [c2, hcs]; omega)
      · intro k v hk
        have hk4 : k < (n - i) * 4 := by
          have := (List.getElem?_eq_some_iff.1 hk).1
          rwa [hdl] at this
        have h4 : (pr4 t).length = 4 := rfl
        rw [← hj, d3 _ (.inr (by omega))]
        exact c4 k v hk (by rw [hcs]; omega)
    · rw [hW2, hW1]
      exact grownBy_trans (grownBy_trans (show V.grownBy V.drew (some g) from ⟨rfl, rfl, rfl, Nat.le_refl _, fun _ _ _ => rfl⟩) (grownBy_setCells g _ _ _)) (grownBy_setCells g _ _ _))
  have e1 : IntKind.i64.wrap ((n : Int) + 1) = ((N : Nat) : Int) := by rw [IntKind.wrap_i64]; omega
  have e2 : IntKind.i64.wrap ((i : Int) + 1) = ((j : Nat) : Int) := by rw [IntKind.wrap_i64]; omega
  have t1 : decide ((c : Int) < (N : Int)) = false := by simp; omega
  have t1' : ¬ ((c : Int) < (N : Int)) := by omega
  have t2 : ((i : Int) == (n : Int)) = false := by simp; omega
  have t2' : ¬ ((i : Int) = (n : Int)) := by omega
  have k1 : N ≤ c := by omega
  have k2 : j ≤ N := by omega
  have k3 : i ≤ N := by omega
  have k4 : ¬ (c = j) := by omega
  have k5 : ¬ (c = i) := by omega
  have k6 : j ≤ c := by omega
  have k7 : i ≤ c := by omega
  have k8 : i ≤ n := by omega
  have k9 : n ≤ c := by omega
  have HLEN := hid hlen
  have mixed : Tryd.prog.follows .mixedOrders = true := by kernel_rfl
  clear hG hGd c1 c2 c3 c4 c5 c6 d1 d2 d3 d4 d5 d6 hW1 hW2 hcell hct hcs hln hdl hbg hN hj hv hvd hroom hi hlen hsz hcm
  go_enter Tryd.func57, Tryd.ntmps57
  go_wp2_with (simp only [hov])
  go_region_law_o (refine step_copy_runI rfl _ _ 23 23 rfl _ _ (by simp [Act.eval, Act.put]) (by simp [Act.eval, Act.put]) (hcp1 _ _ _) ?_)
  go_wp2_with (at_builtin; refine wpList_copy_runI _ rfl _ _ 23 23 rfl _ _ rfl rfl (hcp2 _ rfl _ _) ?_)
  go_ret
  exact ⟨_, rfl, by rw [HLEN.out]; exact hend.out.1, hend.out.2⟩
set_option maxRecDepth 100000 in
set_option maxHeartbeats 8000000 in
/-- In the midst, with no room to spare. -/
theorem InsGrow_any (L : List Pr) (t : Pr) (g n c i vb base : Nat) (V : World) (h : V.ownsRow base 45 4 (.slice (some ⟨g, 0, none⟩) n c) n (prcells L)) (hln : L.length = n) (hn : n ≤ 1000) (hv : V.heap[vb]? = some (.cells #[.int .u64 ((t.1 : Nat) : Int), .int .u64 ((t.2.1 : Nat) : Int), .bool t.2.2.1, .int .u64 ((t.2.2.2 : Nat) : Int)] 45 (0, 0))) (hvg : vb ≠ g) (hbase : base ≤ V.heap.size) (hi : i < n) (hroom : c < n + 1) :
    Calls Tryd.prog 57 #[.slice (some ⟨g, 0, none⟩) n c, .int .i64 ((i : Nat) : Int), .slice (some ⟨vb, 0, none⟩) 1 1] V (GivesIns (L.take i ++ t :: L.drop i) base g V) := by
  obtain ⟨-, ⟨h, -⟩ | ⟨g', cap', cur, he, hbg, hG, hnc, hcm, hcs, hct⟩⟩ := h
  · cases h
  simp only [Value.slice.injEq, Option.some.injEq, Addr.mk.injEq, and_true, true_and] at he
  obtain ⟨rfl, rfl⟩ := he
  obtain ⟨j, hj⟩ : ∃ j, j = i + 1 := ⟨_, rfl⟩
  obtain ⟨N, hN⟩ : ∃ N, N = n + 1 := ⟨_, rfl⟩
  obtain ⟨K, hK⟩ : ∃ K, K = N - i := ⟨_, rfl⟩
  have hik : i + K = N := by omega
  have hgs : g < V.heap.size := lt_laid hG
  have hvs : vb < V.heap.size := lt_laid hv
  have hcell : ∀ k, k < n * 4 → cur[k]? = (prcells L)[k]? := by
    intro k hk
    rw [← hct, List.getElem?_take, if_pos hk, Array.getElem?_toList]
  have hdl : (prcells (L.drop i)).length = (n - i) * 4 := by rw [prcells_len, List.length_drop, hln]; omega
  have htl : (prcells (L.take i)).length = i * 4 := by rw [prcells_len, List.length_take]; omega
  have hl63 : c ≤ 9223372036854775807 := hcm
  obtain ⟨i0, z, hi0, hz0, hzs, hzb, hzc⟩ := elemPr.info
  have hold : (Builtin.firstCells i0.size i (.slice (some ⟨g, 0, none⟩) i c)).run Tryd.prog V.drew = .ok (prcells (L.take i)).toArray V.drew := by
    rw [hzs]
    exact run_firstCells_some V.drew 4 i ⟨g, 0, none⟩ i c (prcells (L.take i)) htl (fun k u hk => by
      rw [Addr.add_lit, Nat.zero_add]
      have h4 : k < i * 4 := by
        have := (List.getElem?_eq_some_iff.1 hk).1
        rwa [htl] at this
      have hGd : V.drew.heap[g]? = some (.cells cur 45 (0, 0)) := hG
      refine at_block hGd ?_
      rw [hcell k (by omega)]
      rw [← prcells_take, List.getElem?_take, if_pos h4] at hk
      exact hk)
  obtain ⟨G, hGe⟩ : ∃ G, G = grownCap V N c 45 := ⟨_, rfl⟩
  obtain ⟨ROW, hROW⟩ : ∃ ROW : Array Value, ROW = (prcells (L.take i)).toArray ++ Builtin.zeroCells z.cells K ++ Builtin.zeroCells z.cells (G - N) := ⟨_, rfl⟩
  obtain ⟨Y, hY⟩ : ∃ Y, V.heap.size = Y := ⟨_, rfl⟩
  have hrz : ∀ ty, (Builtin.append_ #[23, 3] ty #[.slice (some ⟨g, 0, none⟩) i c, .int .i64 ((K : Nat) : Int)]).run Tryd.prog V = .ok (.slice (some ⟨Y, 0, none⟩) N G) (V.drew.alloc (.cells ROW 45)) := fun ty => by
    have h := Lib.run_append_grow_zeros V 23 3 ty 45 i0 z .i64 .i64 Tryd.underlying23 (by kernel_rfl) hi0 hz0 (some ⟨g, 0, none⟩) i c (prcells (L.take i)) hold K (by omega) (by omega) (by omega) (by omega) (by rw [hzb]; omega) (by rw [hzb, hik]; exact growslice_fits (by omega) (by omega))
    rw [hik, ← hGe, hY] at h
    rw [hROW]
    exact h
  have hGn : N ≤ G := by rw [hGe]; exact grownCap_ge V _ _ _
  have hG63 : G ≤ 9223372036854775807 := by
    have := grownCap_le_maxLen V N c 45 (by unfold maxLen; omega)
    rw [← hGe] at this
    unfold maxLen at this
    omega
  have hRs : ROW.size = G * 4 := by
    rw [hROW]
    simp only [Array.size_append, List.size_toArray, Builtin.zeroCells, Array.size_map, Array.size_range, hzc, htl]
    omega
  have hRl : ∀ k, k < i * 4 → ROW[k]? = (prcells (L.take i))[k]? := by
    intro k hk
    rw [hROW, Array.append_assoc, Array.getElem?_append_left (by simpa [htl] using hk), List.getElem?_toArray]
  obtain ⟨W0, hW0⟩ : ∃ W0, W0 = V.drew.alloc (.cells ROW 45) := ⟨_, rfl⟩
  have hG0 : W0.heap[Y]? = some (.cells ROW 45 (0, 0)) := by rw [hW0, ← hY]; show (V.heap.push _)[V.heap.size]? = _; simp
  have hb0 : Below V.heap.size V W0 := by rw [hW0]; exact (Below.refl _ _).drew.alloc (Nat.le_refl _) _
  obtain ⟨W1, hW1⟩ : ∃ W1, W1 = W0.setCells Y (i * 4) (pr4 t) := ⟨_, rfl⟩
  obtain ⟨cur1, c1, c2, c3, c4, c5, c6⟩ := setCells_at (pr4 t) (i * 4) W0 ROW hG0
  rw [← hW1] at c1 c5 c6
  have c1d : W1.drew.heap[Y]? = some (.cells cur1 45 (0, 0)) := c1
  obtain ⟨W2, hW2⟩ : ∃ W2, W2 = W1.drew.setCells Y (j * 4) (prcells (L.drop i)) := ⟨_, rfl⟩
  obtain ⟨cur2, d1, d2, d3, d4, d5, d6⟩ := setCells_at (prcells (L.drop i)) (j * 4) W1.drew cur1 c1d
  rw [← hW2] at d1 d5 d6
  have hsz : (Tryd.prog.info? 45).map (·.size) = some 4 := by kernel_rfl
  have hv0 : W0.heap[vb]? = some (.cells #[.int .u64 ((t.1 : Nat) : Int), .int .u64 ((t.2.1 : Nat) : Int), .bool t.2.2.1, .int .u64 ((t.2.2.2 : Nat) : Int)] 45 (0, 0)) := keep_laid hv hb0
  have hg0 : W0.heap[g]? = some (.cells cur 45 (0, 0)) := keep_laid hG hb0
  have hg1 : W1.drew.heap[g]? = some (.cells cur 45 (0, 0)) := c5 g _ (by omega) hg0
  have hcp1 : ∀ (W : World), W = W0 → ∀ ty dc, (Builtin.copy_ #[23, 23] ty #[.slice (some ⟨Y, i * 4, none⟩) (N - i) dc, .slice (some ⟨vb, 0, none⟩) 1 1]).run Tryd.prog W = .ok (goInt (1 : Nat)) W1 := fun W hW ty dc => by
    rw [hW1, hW]
    refine run_copy_wide W0 _ _ ty 45 4 Y (i * 4) (N - i) dc ⟨vb, 0, none⟩ 1 1 1 (pr4 t) Tryd.underlying23 hsz (by simp only [Nat.min_def]; split <;> omega) rfl ?_ ?_ ?_ (pr4_one t)
    · intro k u hu
      rw [Addr.add_lit, Nat.zero_add]
      exact cell_laid hv0 (by simpa [pr4] using hu)
    · intro k hk
      have hk4 : k < 4 := hk
      obtain ⟨v, hv⟩ : ∃ v, ROW[i * 4 + k]? = some v := ⟨_, Array.getElem?_eq_getElem (by omega)⟩
      rw [at_block hG0 hv]; rfl
    · exact fun k hk => free_laid hG0
  have hcp2 : ∀ ty dc sc, (Builtin.copy_ #[23, 23] ty #[.slice (some ⟨Y, j * 4, none⟩) (N - j) dc, .slice (some ⟨g, i * 4, none⟩) (n - i) sc]).run Tryd.prog W1.drew = .ok (goInt (n - i : Nat)) W2 := fun ty dc sc => by
    rw [hW2]
    refine run_copy_wide W1.drew _ _ ty 45 4 Y (j * 4) (N - j) dc ⟨g, i * 4, none⟩ (n - i) sc (n - i) (prcells (L.drop i)) Tryd.underlying23 hsz (by simp only [Nat.min_def]; split <;> omega) hdl ?_ ?_ ?_ (prcells_one _)
    · intro k u hu
      have hk : k < (n - i) * 4 := by
        have := (List.getElem?_eq_some_iff.1 hu).1
        rwa [hdl] at this
      rw [Addr.add_lit]
      refine at_block hg1 ?_
      rw [hcell _ (by omega)]
      rw [← prcells_drop, List.getElem?_drop] at hu
      exact hu
    · intro k hk
      rw [hdl] at hk
      obtain ⟨v, hv⟩ : ∃ v, cur1[j * 4 + k]? = some v := ⟨_, Array.getElem?_eq_getElem (by omega)⟩
      rw [at_block c1d hv]; rfl
    · exact fun k hk => free_laid c1d
  have hlen : (L.take i ++ t :: L.drop i).length = N := by simp; omega
  have hend : Hid (W2.ownsRow base 45 4 (.slice (some ⟨Y, 0, none⟩) N G) N (prcells (L.take i ++ t :: L.drop i)) ∧ V.grownBy W2 (some g)) := hid (by
    refine ⟨⟨by rw [prcells_len, hlen]; omega, .inr ⟨Y, G, cur2, rfl, by omega, d1, hGn, hG63, by rw [d2, c2, hRs], ?_⟩⟩, ?_⟩
    · rw [hN]
      refine ins_cells L t i n (Nat.le_of_lt hi) hln cur2 (by rw [d2, c2, hRs]; omega) ?_ ?_ ?_
      · intro k hk
        rw [d3 k (.inl (by omega)), c3 k (.inl hk), hRl k hk, ← prcells_take, List.getElem?_take, if_pos hk]
      · intro k v hk
        have hk4 : k < 4 := (List.getElem?_eq_some_iff.1 hk).1
        rw [d3 _ (.inl (by omega))]
        exact c4 k v hk (by rw [hRs]; omega)
      · intro k v hk
        have hk4 : k < (n - i) * 4 := by
          have := (List.getElem?_eq_some_iff.1 hk).1
          rwa [hdl] at this
        rw [← hj]
        exact d4 k v hk (by rw [c2, hRs]; omega)
    · have hb2 : Below V.heap.size V W2 := d6 _ _ (by omega) (c6 _ _ (by omega) hb0).drew
      exact ⟨hb2.os, hb2.tape, hb2.output, hb2.size, fun k hk _ => hb2.block k hk⟩)
  have e1 : IntKind.i64.wrap ((n : Int) + 1) = ((N : Nat) : Int) := by rw [IntKind.wrap_i64]; omega
  have e2 : IntKind.i64.wrap ((i : Int) + 1) = ((j : Nat) : Int) := by rw [IntKind.wrap_i64]; omega
  have e3 : IntKind.i64.wrap ((N : Int) - (i : Int)) = ((K : Nat) : Int) := by rw [IntKind.wrap_i64]; omega
  have t1 : decide ((c : Int) < (N : Int)) = true := by simp; omega
  have t1' : (c : Int) < (N : Int) := by omega
  have t2 : ((i : Int) == (n : Int)) = false := by simp; omega
  have t2' : ¬ ((i : Int) = (n : Int)) := by omega
  have k2 : j ≤ N := by omega
  have k3 : i ≤ N := by omega
  have k4 : ¬ (G = j) := by omega
  have k5 : ¬ (c = i) := by omega
  have k5' : ¬ (G = i) := by omega
  have k6 : j ≤ G := by omega
  have k7 : i ≤ c := by omega
  have k8 : i ≤ n := by omega
  have k9 : n ≤ c := by omega
  have k10 : i ≤ G := by omega
  have HLEN := hid hlen
  have mixed : Tryd.prog.follows .mixedOrders = true := by kernel_rfl
  rw [← hW0] at hrz
  clear hG hv hb0 hG0 c1 c1d c2 c3 c4 c5 c6 d1 d2 d3 d4 d5 d6 hW0 hW1 hW2 hcell hct hcs hln hdl htl hbg hN hj hv0 hg0 hg1 hroom hi hlen hsz hcm hY hRs hRl hROW hGe hold hi0 hz0 hzs hzb hzc hik hK hgs hvs
  go_enter Tryd.func57, Tryd.ntmps57
  go_wp2_with (first
    | (at_builtin; refine Lib.wpList_append_run _ rfl _ _ _ _ rfl _ _ rfl rfl _ _ (hrz _) ?_)
    | (at_builtin; refine wpList_copy_runI _ rfl _ _ 23 23 rfl _ _ rfl rfl (hcp1 _ rfl _ _) ?_))
  go_region_law_o (refine step_copy_runI rfl _ _ 23 23 rfl _ _ (by simp [Act.eval, Act.put]) (by simp [Act.eval, Act.put]) (hcp2 _ _ _) ?_)
  go_wp2
  go_ret
  exact ⟨_, rfl, by rw [HLEN.out]; exact hend.out.1, hend.out.2⟩
theorem Ins_any (L : List Pr) (t : Pr) (g n c i vb base : Nat) (V : World) (h : V.ownsRow base 45 4 (.slice (some ⟨g, 0, none⟩) n c) n (prcells L)) (hln : L.length = n) (hn : n ≤ 1000) (hv : V.heap[vb]? = some (.cells #[.int .u64 ((t.1 : Nat) : Int), .int .u64 ((t.2.1 : Nat) : Int), .bool t.2.2.1, .int .u64 ((t.2.2.2 : Nat) : Int)] 45 (0, 0))) (hvg : vb ≠ g) (hbase : base ≤ V.heap.size) (hi : i ≤ n) :
    Calls Tryd.prog 57 #[.slice (some ⟨g, 0, none⟩) n c, .int .i64 ((i : Nat) : Int), .slice (some ⟨vb, 0, none⟩) 1 1] V (GivesIns (L.take i ++ t :: L.drop i) base g V) := by
  rcases Nat.eq_or_lt_of_le hi with e | e
  · exact InsEnd_any L t g n c i vb base V h hln hn hv hvg hbase e
  · by_cases hr : n + 1 ≤ c
    · exact InsRoom_any L t g n c i vb base V h hln hn hv hvg hbase e hr
    · exact InsGrow_any L t g n c i vb base V h hln hn hv hvg hbase e (by omega)
end Go.Proofs.YtmnbkhmphhgdiaaDoor
