/- The walks of package bits: words turned round (a loop over a function). -/
import Derived.RangeFuncKeeps
import Derived.RangeFuncLeaves
import Derived.RangeFuncFrom
import Derived.RangeFuncBound
import Derived.RangeFuncNested
import Derived.Shelf.Abstract
import Derived.OwnWalkIn
import Derived.TacticsInMore
import Derived.LoopNIn
import Derived.LoopIn
import Derived.Test.YtgigjfdgejajbaaBits5
namespace Go.Proofs.Ytgigjfdgejajbaa
open Go.RowKit Go.Shelf
open Go.Proofs
set_option linter.unusedVariables false

attribute [local go_sem] Oper.semAt_some

theorem cell_of_box {W : World} {B : Nat} {v : Value} {t : TypeId} (h : W.heap[B]? = some (.cells #[v] t (0, 0))) : W.cell? ⟨B, 0, none⟩ = some v ∧ W.frozen? ⟨B, 0, none⟩ = false := by
  constructor <;> simp [World.cell?, World.frozen?, h]
theorem cell_new (W : World) (v : Value) (t : TypeId) : (W.alloc (.cells #[v] t)).cell? ⟨W.heap.size, 0, none⟩ = some v ∧ (W.alloc (.cells #[v] t)).frozen? ⟨W.heap.size, 0, none⟩ = false :=
  cell_of_box (World.alloc_heap_new W _)

theorem news3 (w W : World) (o0 o1 o2 : Obj) (h : ((w.alloc o0).alloc o1).alloc o2 = W) : W.heap.size = w.heap.size + 3 ∧ W.heap[w.heap.size]? = some o0 ∧ W.heap[w.heap.size + 1]? = some o1 ∧ W.heap[w.heap.size + 2]? = some o2 ∧ Below w.heap.size w W := by
  subst h
  have h1 := World.alloc_heap_new (w.alloc o0) o1
  have h2 := World.alloc_heap_new ((w.alloc o0).alloc o1) o2
  simp only [World.size_alloc] at h1 h2
  refine ⟨by simp, ?_, ?_, h2, (((Below.refl _ w).alloc (Nat.le_refl _) _).alloc (by simp) _).alloc (by simp; omega) _⟩
  · exact (Below.heap_alloc _ o2 _ (by simp; omega)).trans ((Below.heap_alloc _ o1 _ (by simp)).trans (World.alloc_heap_new w o0))
  · exact (Below.heap_alloc _ o2 _ (by simp)).trans h1

/-- What a round must keep: the blocks of which p holds. -/
def Keeps (p : Nat → Prop) (W W' : World) : Prop := ∀ b, p b → W'.heap[b]? = W.heap[b]?
theorem Keeps.t {p : Nat → Prop} {A B C : World} (h : Keeps p A B) (k : Keeps p B C) : Keeps p A C := fun b hb => (k b hb).trans (h b hb)
theorem Keeps.b {p : Nat → Prop} {w : World} (hp : ∀ b, p b → b < w.heap.size) (W : World) (l : Nat) (o o' : Obj) (hl : w.heap.size ≤ l) (_ : W.heap[l]? = some o) (_ : o.isCells = false) (_ : o.isWalk = false) : Keeps p W (W.putObj l o') :=
  fun b hb => World.putObj_heap_other (by have := hp b hb; omega)
theorem Keeps.cell {p : Nat → Prop} {W W' : World} (h : Keeps p W W') {a : Addr} (ha : p a.block) : W'.cell? a = W.cell? a := World.cell?_of_block (h _ ha)
theorem Keeps.below {p : Nat → Prop} {n : Nat} {W W' : World} (h : Below n W W') (hp : ∀ b, p b → b < n) : Keeps p W W' := fun b hb => h.block b (hp b hb)

theorem each_any (x : Nat) (n : Int) (w : World) : Calls Try.prog 45 #[.int .u64 (x : Nat), .int .i64 n] w fun e w' =>
    e = .returned (.func (.func 49) #[] #[.pointer (some ⟨w.heap.size + 1, 0, none⟩), .pointer (some ⟨w.heap.size, 0, none⟩)]) ∧ (w.alloc (.cells #[.int .u64 (x : Nat)] 25)).alloc (.cells #[.int .i64 n] 3) = w' := by
  go_enter Try.func45, Try.ntmps45
  go_wp2
  go_ret
  exact ⟨rfl, rfl⟩

/-- The bits of a word, the lowest first. -/
def bitsB (x k : Nat) : List Bool := (List.range k).map fun i => x.testBit i
theorem bitsB_succ (x k : Nat) : bitsB x (k + 1) = bitsB x k ++ [x.testBit k] := by simp [bitsB, List.range_succ]
def encB (b : Bool) : Array Value := #[.int .u64 ((b.toNat : Nat) : Int)]
theorem bit_walk (x k : Nat) (hx : x < 18446744073709551616) : bits BinOp.and IntKind.u64 ((x : Int) / 2 ^ k) 1 = (((x.testBit k).toNat : Nat) : Int) := by
  have h := u64_and_nat (x / 2 ^ k) 1 (Nat.lt_of_le_of_lt (Nat.div_le_self _ _) hx) (by decide)
  rw [div_pow]
  rw [Nat.and_one_is_mod, ← Nat.toNat_testBit] at h
  exact h

set_option maxRecDepth 100000 in
set_option maxHeartbeats 1000000 in
theorem each1_in (F : Fence) (n : Nat) (hF : F.fn 49) (hro : F.round = none) (hn : 1 ≤ n) (l Bn Bw x k : Nat) (p : Nat → Prop) (hx : x < 18446744073709551616) (hk : k ≤ 64) (J Jx : List Bool → World → Prop)
    (hY : ∀ pre b W, J pre W → pre.length < k → YieldAt F (n - 1) Try.prog l (encB b) W fun e W' =>
      (e = .returned (.bool true) ∧ J (pre ++ [b]) W' ∧ Keeps p W W') ∨ (e = .returned (.bool false) ∧ Jx (pre ++ [b]) W'))
    (W : World) (hBn : W.cell? ⟨Bn, 0, none⟩ = some (.int .i64 (k : Nat))) (hBw : W.cell? ⟨Bw, 0, none⟩ = some (.int .u64 (x : Nat))) (h2 : p Bw) (h0 : J [] W) :
    CallsIn F n Try.prog 49 #[.func (.yield l) #[] #[], .pointer (some ⟨Bn, 0, none⟩), .pointer (some ⟨Bw, 0, none⟩)] W fun e W' => (∃ v, e = .returned v) ∧
      ((∃ ys, ys = bitsB x k ∧ J ys W') ∨ (∃ pre, pre <+: bitsB x k ∧ Jx pre W')) := by
  refine callsIn_of_wp Try.func49 rfl hF ?_ hro
  simp only [Try.ntmps49, List.size_toArray, List.length_cons, List.length_nil, Nat.reduceAdd, Nat.reduceSub, Array.replicate_succ, Array.replicate_zero, List.push_toArray, List.append_toArray, List.nil_append, List.cons_append]
  gi_wp2
  gi_loopw [6] (fun i wr => ∃ j : Nat, j ≤ k ∧ i = .int .i64 (j : Nat) ∧ J (bitsB x j) wr ∧ wr.cell? ⟨Bw, 0, none⟩ = some (.int .u64 (x : Nat))) (fun i wr => k - (intOf i).toNat)
  case atStart => exact ⟨0, Nat.zero_le _, rfl, h0, hBw⟩
  case round =>
    obtain ⟨j, hj, rfl, hJ, hBw'⟩ := hrel
    by_cases hlt : j < k
    · have hj64 : j < 64 := by omega
      have hb := bit_walk x j hx
      obtain ⟨fn, tmps, assign, body, hy, hR⟩ := hY (bitsB x j) (x.testBit j) wr hJ (by simp [bitsB]; exact hlt)
      dsimp only [encB] at hy
      gi_wp2
      refine hR.mono ?_
      rintro e W3 (⟨rfl, hJ3, hk3⟩ | ⟨rfl, hJx3⟩)
      · gi_wp2
        go_roundw
        case rel => exact ⟨j + 1, hlt, by go_num, by rw [bitsB_succ]; exact hJ3, (hk3.cell (a := ⟨Bw, 0, none⟩) h2).trans hBw'⟩
        case measure => simp [intOf]; omega
      · gi_wp2
        refine bodyPost_ret (results_none rfl _ _ _) rfl ?_
        refine ⟨⟨_, rfl⟩, .inr ⟨bitsB x (j + 1), ?_, by rw [bitsB_succ]; exact hJx3⟩⟩
        unfold bitsB
        obtain ⟨r, rfl⟩ : ∃ r, k = (j + 1) + r := ⟨k - (j + 1), by omega⟩
        rw [show List.range (j + 1 + r) = _ from List.range_add, List.map_append]
        exact List.prefix_append _ _
    · have e : j = k := by omega
      subst e
      gi_wp2
      go_end0
      exact ⟨⟨_, rfl⟩, .inl ⟨_, rfl, hJ⟩⟩
theorem each_stops (F : Fence) (n : Nat) (hF : F.fn 49) (hro : F.round = none) (hn : 1 ≤ n) (Bn Bw x k : Nat) (p : Nat → Prop) (w : World) (hx : x < 18446744073709551616) (hk : k ≤ 64)
    (hBn : w.cell? ⟨Bn, 0, none⟩ = some (.int .i64 (k : Nat))) (hBw : w.cell? ⟨Bw, 0, none⟩ = some (.int .u64 (x : Nat))) (h1 : Bn < w.heap.size) (h2 : Bw < w.heap.size) (hp : p Bw) :
    SeqStopsK F n Try.prog 49 #[.pointer (some ⟨Bn, 0, none⟩), .pointer (some ⟨Bw, 0, none⟩)] encB (Keeps p) (fun ys => ys = bitsB x k) (fun pre => pre <+: bitsB x k) k w := fun l J Jx W hW _ _ hY h0 =>
  each1_in F n hF hro hn l Bn Bw x k p hx hk J Jx hY W ((hW.cell (p := ⟨Bn, 0, none⟩) h1).trans hBn) ((hW.cell (p := ⟨Bw, 0, none⟩) h2).trans hBw) hp h0

/-- The number whose bits these are, the highest first. -/
def turnL : List Bool → Nat := List.foldl (fun o b => 2 * o + b.toNat) 0
theorem turnL_snoc (l : List Bool) (b : Bool) : turnL (l ++ [b]) = 2 * turnL l + b.toNat := by simp [turnL]
theorem turnL_lt (l : List Bool) : turnL l < 2 ^ l.length := by
  refine snocRec (p := fun l => turnL l < 2 ^ l.length) (by simp [turnL]) (fun l b ih => ?_) l
  rw [turnL_snoc, List.length_append, List.length_singleton, Nat.pow_succ]; cases b <;> simp <;> omega
def turnV (x : Nat) (n : Int) : Value :=
  if 0 ≤ n ∧ n ≤ 64 then (if x < 2 ^ n.toNat then .tuple #[.int .u64 ((turnL (bitsB x n.toNat) : Nat) : Int), .int .i64 0] else .tuple #[.int .u64 0, .int .i64 111]) else .tuple #[.int .u64 0, .int .i64 2]

set_option maxRecDepth 100000 in
set_option maxHeartbeats 1000000 in
theorem Turn_ok (x k : Nat) (w : World) (hx : x < 2 ^ k) (hk : k ≤ 64) : Calls Try.prog 23 #[.int .u64 (x : Nat), .int .i64 (k : Nat)] w (Ret (.tuple #[.int .u64 ((turnL (bitsB x k) : Nat) : Int), .int .i64 0]) w) := by
  have hx64 : x < 18446744073709551616 := Nat.lt_of_lt_of_le hx (Pl.pow_mono (b := 64) hk)
  have hle : (x : Int) ≤ onesI (k : Nat) := by rw [onesI_nat]; omega
  have HX := hid hx
  clear hx
  refine (callsIn_wide (n := 3)).1 ?_
  refine callsIn_of_wp_marks Try.func23 rfl trivial ?_ rfl
  simp only [Try.ntmps23, List.size_toArray, List.length_cons, List.length_nil, Nat.reduceAdd, Nat.reduceSub, Array.replicate_succ, Array.replicate_zero, List.push_toArray, List.append_toArray, List.nil_append, List.cons_append]
  gi_wp2_with (first | (refine ⟨trivial, ?_⟩; gi_at_call 43; refine (callsIn_wide.2 (ones_any _ _ (by omega) (by omega))).mono ?_; rintro e w1 ⟨rfl, hb1⟩) | (refine ⟨trivial, ?_⟩; gi_at_call 45; refine (callsIn_wide.2 (each_any _ _ _)).mono ?_; rintro e w2 ⟨rfl, hw2⟩))
  obtain ⟨B, hB⟩ : ∃ B, w1.heap.size = B := ⟨_, rfl⟩
  obtain ⟨hBw2, n0, n1, n2, hb2'⟩ := news3 _ _ _ _ _ hw2
  rw [hB] at hBw2 n0 n1 n2 hb2'
  obtain ⟨hc2, hf2⟩ := cell_of_box n0
  have hx2 := (cell_of_box n1).1
  have hk2 := (cell_of_box n2).1
  have hb2 : Below w.heap.size w w2 := hb1.trans (hb2'.mono (by rw [← hB]; exact hb1.size))
  have hBs : w.heap.size ≤ B := by have := hb1.size; omega
  rw [hB]
  clear hw2 hb1 hB hb2' n0 n1 n2
  refine wpIn_rangeFunc_ownF rfl (by omega) (gf := 49) (lb := #[.pointer (some ⟨B + 2, 0, none⟩), .pointer (some ⟨B + 1, 0, none⟩)]) rfl trivial (enters_of Try.func49 (by kernel_rfl) rfl)
    (each_stops Fence.wide 2 trivial rfl (by omega) (B + 2) (B + 1) x k (fun b => b < B ∨ (B < b ∧ b < B + 3)) w2 hx64 hk hk2 hx2 (by omega) (by omega) (by omega)) Keeps.t (Keeps.b (by intro b hb; omega)) (Below.refl _ _) (fun _ => rfl)
    (fun pre W => (W.cell? ⟨B, 0, none⟩ = some (.int .u64 ((turnL pre : Nat) : Int)) ∧ W.frozen? ⟨B, 0, none⟩ = false) ∧ Below w.heap.size w W)
    (fun _ _ _ => False)
    (OwnFrom.and (Own.from (fun s A B row hs hg hr => ⟨cell_kept hs.1 hg hr, (frozen_kept hs.1 hg hr).trans hs.2⟩) _) (ownFrom_below (by omega) (by omega)))
    (fun _ _ _ _ _ hs _ _ => hs)
    ⟨⟨hc2, hf2⟩, hb2⟩
    (fun b => { tmps := #[.int .u64 (x : Nat), .int .i64 (k : Nat), undef, undef, .int .u64 0, .int .i64 0, .pointer (some ⟨B, 0, none⟩), .int .u64 ((b.toNat : Nat) : Int), .bool (decide ((k : Int) < 0) || decide (64 < (k : Int))), .int .i64 (k : Nat), .bool (decide ((k : Int) < 0)), .bool (decide ((k : Int) < 0)), .int .i64 (k : Nat), .bool (decide (64 < (k : Int))), .bool (decide ((k : Int) < 0) || decide (64 < (k : Int))), .bool (decide (onesI (k : Int) < (x : Int))), .int .u64 (x : Nat), .int .i64 (k : Nat), .int .u64 (onesI (k : Int)), .bool (decide (onesI (k : Int) < (x : Int))), .int .u64 (x : Nat), .int .i64 (k : Nat), .func (.func 49) #[] #[.pointer (some ⟨B + 1 + 1, 0, none⟩), .pointer (some ⟨B + 1, 0, none⟩)], .int .u64 ((b.toNat : Nat) : Int), undef, undef, undef, undef, undef], defers := [] }) ?assign ?body ?done ?stop
  case assign =>
    intro l b W K hK
    dsimp only [encB]
    gi_wp2
    exact hK
  case body =>
    rintro l pre b W ⟨⟨hc, hf⟩, hB⟩ hlen
    have hlt := turnL_lt pre
    have h63 : 2 ^ pre.length ≤ 2 ^ 63 := Pl.pow_mono (by omega)
    have hT : turnL pre < 9223372036854775808 := by omega
    have e : bits BinOp.or IntKind.u64 (((turnL pre : Nat) : Int) * 2) ((b.toNat : Nat) : Int) = ((turnL (pre ++ [b]) : Nat) : Int) := by
      have hb1 : b.toNat < 2 := by cases b <;> decide
      have h := u64_or_nat (turnL pre * 2) b.toNat (by omega) (by omega)
      rw [turnL_snoc]
      have h3 : turnL pre * 2 ||| b.toNat = 2 * turnL pre + b.toNat := by
        have := Nat.two_pow_add_eq_or_of_lt (i := 1) (b := b.toNat) (by omega) (turnL pre)
        rw [Nat.mul_comm]; exact this.symm
      rw [h3] at h
      rw [← h]; congr 1
    have E := hid e
    clear e hlt h63
    gi_wp2
    rw [E.out]
    refine ⟨KeepsOthers.setCell _ _ _, ?_, ⟨World.cell?_setCell_same' _ _ _ (by rw [hc]; rfl), by rw [World.frozen?_setCell]; exact hf⟩, hB.setCell (p := ⟨B, 0, none⟩) hBs _⟩
    intro b' hb'
    exact Below.heap_setCell _ _ _ _ (by show b' ≠ B; omega)
  case done =>
    rintro D ys W hD rfl ⟨⟨hc, hf⟩, hB⟩ hK
    gi_wp2
    refine ⟨by simp, .inl ⟨_, _, rfl, run_takeDeferred hK, ?_⟩⟩
    exact ⟨_, results_tmp2 rfl _ _ _, rfl, hB.trans (belowK_b (w := w) (Nat.le_refl _) W D _ _ (by omega) hK rfl rfl)⟩
  case stop =>
    rintro D c pre W _ _ h _
    exact h.elim
theorem Turn_any (x : Nat) (n : Int) (w : World) (hx : x < 18446744073709551616) : Calls Try.prog 23 #[.int .u64 (x : Nat), .int .i64 n] w (Ret (turnV x n) w) := by
  by_cases hn : 0 ≤ n ∧ n ≤ 64
  · obtain ⟨h1, h2⟩ := hn
    obtain ⟨k, rfl⟩ := Int.eq_ofNat_of_zero_le h1
    by_cases hk : x < 2 ^ k
    · have e : turnV x k = .tuple #[.int .u64 ((turnL (bitsB x k) : Nat) : Int), .int .i64 0] := by unfold turnV; rw [if_pos ⟨h1, h2⟩, Int.toNat_natCast, if_pos hk]
      rw [e]
      exact Turn_ok x k w hk (by omega)
    · have e : turnV x k = .tuple #[.int .u64 0, .int .i64 111] := by unfold turnV; rw [if_pos ⟨h1, h2⟩, Int.toNat_natCast, if_neg hk]
      rw [e]
      have hle : onesI (k : Nat) < (x : Int) := by rw [onesI_nat]; have := Pl.pow_pos k; omega
      clear e hk
      go_enter Try.func23, Try.ntmps23
      go_wp2_with (go_at_call 43; refine (ones_any _ _ (by omega) (by omega)).mono ?_; rintro e w1 ⟨rfl, hb1⟩)
      go_ret2
      exact ⟨rfl, by assumption⟩
  · have e : turnV x n = .tuple #[.int .u64 0, .int .i64 2] := by unfold turnV; rw [if_neg hn]
    rw [e]
    clear e
    by_cases h1 : n < 0
    · go_enter Try.func23, Try.ntmps23
      go_wp2
      go_ret2
      exact ⟨rfl, Below.refl _ _⟩
    · have h2 : 64 < n := by omega
      clear hn
      go_enter Try.func23, Try.ntmps23
      go_wp2
      go_ret2
      exact ⟨rfl, Below.refl _ _⟩
end Go.Proofs.Ytgigjfdgejajbaa
