/- The functions of package mount: the iterator over what lies below a path. -/
import Derived.Test.YtbfhppafffhlkaaMount3
import Derived.Test.YtbfhppafffhlkaaPath8
import Derived.Test.YtbfhppafffhlkaaRange
import Derived.RangeFuncNested
import Derived.RangeFuncCalls
import Derived.Shelf.Abstract
import Derived.TacticsInMore
import Derived.LoopNIn
import Derived.LoopIn
import Derived.OneCell
namespace Go.Proofs.Ytbfhppafffhlkaa
open Go.RowKit Go.Shelf
open Go.Proofs
set_option linter.unusedVariables false
attribute [local go_sem] Oper.semAt_some

/-- The mounts below a path. -/
def belowM (ms : List (Nat × Nat)) (x : Nat) : List (Nat × Nat) := ms.filter fun p => decide (p.1 ≠ x) && aheadB x p.1
theorem belowM_snoc (ms : List (Nat × Nat)) (x k : Nat) (p : Nat × Nat) (h : ms[k]? = some p) : belowM (ms.take (k + 1)) x = belowM (ms.take k) x ++ (if (decide (p.1 ≠ x) && aheadB x p.1) = true then [p] else []) := by
  unfold belowM
  rw [List.take_add_one, h, List.filter_append]
  simp only [Option.toList_some, List.filter_cons, List.filter_nil]
theorem belowM_len (ms : List (Nat × Nat)) (x k : Nat) : (belowM (ms.take k) x).length ≤ k := by
  unfold belowM
  refine Nat.le_trans (List.length_filter_le _ _) ?_
  rw [List.length_take]; omega
theorem belowM_pre (ms : List (Nat × Nat)) (x k : Nat) : ∃ r, belowM ms x = belowM (ms.take k) x ++ r := by
  refine ⟨belowM (ms.drop k) x, ?_⟩
  unfold belowM
  rw [← List.filter_append, List.take_append_drop]

/-- What stands below is as it was. -/
def Same (B0 : Nat) (A B : World) : Prop := ∀ k, k < B0 → B.heap[k]? = A.heap[k]?
theorem Same.cell {B0 : Nat} {A B : World} {b i : Nat} (h : Same B0 A B) (hb : b < B0) : B.cell? ⟨b, i, none⟩ = A.cell? ⟨b, i, none⟩ := by
  unfold World.cell?
  rw [h b hb]
theorem Same.below {B0 : Nat} {A B C : World} (h : Same B0 A B) (hb : Below B.heap.size B C) (hs : B0 ≤ B.heap.size) : Same B0 A C := fun k hk => (hb.block k (by omega)).trans (h k hk)
theorem Same.leads {A B : World} {a : Option Addr} {n cap k : Nat} {ms : List (Nat × Nat)} {p : Nat × Nat} (h : Leads A a n cap (mcells ms)) (hs : Same A.heap.size A B) (hk : k < n) (hp : ms[k]? = some p) : ∃ b off, a = some ⟨b, off, none⟩ ∧ B.cell? ⟨b, off + k * 2, none⟩ = some (.int .u64 ((p.1 : Nat) : Int)) ∧ B.cell? ⟨b, off + k * 2 + 1, none⟩ = some (.int .u64 ((p.2 : Nat) : Int)) := by
  obtain ⟨b, off, rfl, hb, hc⟩ := h.mount hk hp
  have := hc A (Below.refl _ _)
  exact ⟨b, off, rfl, (hs.cell hb).trans this.1, (hs.cell hb).trans this.2⟩

theorem below_any (v : Value) (c0 c1 : Value) (x : Nat) (w : World) (hv : v = .agg #[c0, c1]) (h1 : v.cells = #[c0, c1]) :
    Calls Try.prog 33 #[v, .int .u64 (x : Nat)] w (fun e w' => e = .returned (.func (.func 45) #[] #[.pointer (some ⟨w.heap.size, 0, none⟩), .pointer (some ⟨w.heap.size + 1, 0, none⟩)]) ∧
      w' = (w.alloc (.cells #[c0, c1] 25)).alloc (.cells #[.int .u64 ((x : Nat) : Int)] 23)) := by
  subst hv
  go_enter Try.func33, Try.ntmps33
  go_wp2
  go_ret
  exact ⟨rfl, rfl⟩

abbrev mval (p : Nat × Nat) : Value := .agg #[.int .u64 ((p.1 : Nat) : Int), .int .u64 ((p.2 : Nat) : Int)]

set_option maxRecDepth 100000 in
set_option maxHeartbeats 1000000 in
theorem below_seq (Bs s0 bm bw : Nat) (W0 : World) (ms : List (Nat × Nat)) (a : Option Addr) (n cap nx x : Nat) (hl : ms.length = n) (hok : mok ms) (hn : n ≤ 1000) (hx : x < 18446744073709551616) (h : Leads W0 a n cap (mcells ms)) (hbm : W0.heap.size ≤ bm) (hbw : W0.heap.size ≤ bw) :
    SeqT (Turn Bs s0) Fence.wide 4 Try.prog 45 #[.pointer (some ⟨bm, 0, none⟩), .pointer (some ⟨bw, 0, none⟩)] (fun p : Nat × Nat => #[mval p]) (Keeps (fun k => k < W0.heap.size ∨ k = bm ∨ k = bw))
      (fun xs => xs = belowM ms x) (fun pre => ∃ r, belowM ms x = pre ++ r) 1001
      (fun W => Same W0.heap.size W0 W ∧ W.heap[bm]? = some (.cells #[.slice a n cap, .int .u64 ((nx : Nat) : Int)] 25 (0, 0)) ∧ W.heap[bw]? = some (.cells #[.int .u64 ((x : Nat) : Int)] 23 (0, 0))) := by
  intro l J Jx W hW hJ hJx hY h0
  obtain ⟨hW1, hW2, hW3⟩ := hW
  have hc0 := cell_laid hW2 (i := 0) rfl
  have HL := hid hl
  have HOK := hid hok
  have H := hid h
  have hn1 := h.len.1
  have HW1 := hid hW1
  have HW2 := hid hW2
  have HW3 := hid hW3
  clear hl hok h hW1 hW2 hW3
  refine callsIn_of_wp Try.func45 rfl trivial ?_ rfl
  simp only [Try.ntmps45, List.size_toArray, List.length_cons, List.length_nil, Nat.reduceAdd, Nat.reduceSub, Array.replicate_succ, Array.replicate_zero, List.push_toArray, List.append_toArray, List.nil_append, List.cons_append]
  gi_wp2
  gi_loopw [9] (fun i wr => ∃ k : Nat, k ≤ n ∧ i = .int .i64 (k : Nat) ∧ Hid (Same W0.heap.size W0 wr) ∧ Hid (wr.heap[bm]? = some (.cells #[.slice a n cap, .int .u64 ((nx : Nat) : Int)] 25 (0, 0))) ∧ Hid (wr.heap[bw]? = some (.cells #[.int .u64 ((x : Nat) : Int)] 23 (0, 0))) ∧ Hid (J (belowM (ms.take k) x) wr)) (fun i _ => n - (intOf i).toNat)
  case atStart => exact ⟨0, Nat.zero_le _, rfl, HW1, HW2, HW3, hid h0⟩
  case round =>
    obtain ⟨k, hkn, rfl, hsame, hm, hw, hJs⟩ := hrel
    by_cases hlt : k < n
    · obtain ⟨⟨p1, p2⟩, hp⟩ : ∃ p, ms[k]? = some p := ⟨_, List.getElem?_eq_getElem (by rw [HL.out]; exact hlt)⟩
      obtain ⟨hp1, hp2⟩ := HOK.out _ (List.mem_of_getElem? hp)
      dsimp only at hp1 hp2
      obtain ⟨b, off, rfl, hc1, hc2⟩ := Same.leads H.out hsame.out hlt hp
      dsimp only at hc1 hc2
      have hsn := belowM_snoc ms x k (p1, p2) hp
      dsimp only at hsn
      have hltm := lt_laid hm.out
      have hltw := lt_laid hw.out
      have hszw : W0.heap.size ≤ wr.heap.size := by omega
      obtain ⟨wb, hwb, hbb, hsb, hlb⟩ := laid wr #[.int .u64 ((p1 : Nat) : Int), .int .u64 ((p2 : Nat) : Int)] 51
      have hx0 := cell_laid hlb (i := 0) rfl
      have hx1 := cell_laid hlb (i := 1) rfl
      have hm' := hid (keep_laid hm.out hbb)
      have hw' := hid (keep_laid hw.out hbb)
      have hcw := cell_laid hw'.out (i := 0) rfl
      have hsame' := hid (hsame.out.below hbb hszw)
      have hJ1 := hid (hJ _ _ _ hJs.out (Turn.grow hbb))
      have hbsz := hbb.size
      have HLB := hid hlb
      clear hlb hsb hp
      by_cases hne : p1 = x
      · have HS : Hid (belowM (ms.take (k + 1)) x = belowM (ms.take k) x) := hid (by rw [hsn, decide_eq_false (by simpa using hne), Bool.false_and, if_neg (by simp), List.append_nil])
        have q : (((p1 : Nat) : Int) != ((x : Nat) : Int)) = false := by simp; omega
        clear hsn hne
        gi_wp2
        refine ⟨trivial, ?_⟩
        gi_wp2
        refine ⟨(fun f hf => nomatch hf), ?_⟩
        gi_wp2
        go_roundw
        case rel => exact ⟨k + 1, by omega, by go_num, hsame', hm', hw', hid (by rw [HS.out]; exact hJ1.out)⟩
        case measure => simp [intOf]; omega
      · have q : (((p1 : Nat) : Int) != ((x : Nat) : Int)) = true := by simp; omega
        have hA := fun W => Ahead_any x p1 W hx hp1
        rw [decide_eq_true hne, Bool.true_and] at hsn
        cases ha : aheadB x p1 with
        | false =>
          rw [ha] at hA hsn
          have HS : Hid (belowM (ms.take (k + 1)) x = belowM (ms.take k) x) := hid (by rw [hsn, if_neg (by simp), List.append_nil])
          have HA := hid hA
          clear hsn hA ha hne
          gi_wp2_with fail
          refine ⟨trivial, ?_⟩
          refine (callsIn_wide.2 (HA.out _)).mono ?_
          rintro e w2 ⟨rfl, hb2⟩
          gi_wp2
          refine ⟨(fun f hf => nomatch hf), ?_⟩
          gi_wp2
          go_roundw
          case rel => exact ⟨k + 1, by omega, by go_num, hid (hsame'.out.below hb2 (by omega)), hid (keep_laid hm'.out hb2), hid (keep_laid hw'.out hb2), hid (by rw [HS.out]; exact hJ _ _ _ hJ1.out (Turn.grow hb2))⟩
          case measure => simp [intOf]; omega
        | true =>
          rw [ha] at hA hsn
          have HS : Hid (belowM (ms.take (k + 1)) x = belowM (ms.take k) x ++ [(p1, p2)]) := hid (by rw [hsn, if_pos rfl])
          have HA := hid hA
          clear hsn hA ha hne
          gi_wp2_with fail
          refine ⟨trivial, ?_⟩
          refine (callsIn_wide.2 (HA.out _)).mono ?_
          rintro e w2 ⟨rfl, hb2⟩
          have hJ2 := hJ _ _ _ hJ1.out (Turn.grow (Bs := Bs) (s0 := s0) hb2)
          have hy0 := cell_laid (keep_laid HLB.out hb2) (i := 0) rfl
          have hy1 := cell_laid (keep_laid HLB.out hb2) (i := 1) rfl
          have hml := belowM_len ms x k
          obtain ⟨fn, tmps, assign, body, hy, hR⟩ := hY _ (p1, p2) w2 hJ2 (by omega)
          have hy' : (Instr.yield l #[.agg #[.int .u64 ((p1 : Nat) : Int), .int .u64 ((p2 : Nat) : Int)]]).run Try.prog w2 = _ := hy
          have hsame2 := hid (hsame'.out.below hb2 (by omega))
          have hm2 := hid (keep_laid hm'.out hb2)
          have hw2 := hid (keep_laid hw'.out hb2)
          clear hJ2 hml hy
          gi_wp2
          refine hR.mono ?_
          rintro e W3 (⟨rfl, hJ3, hk3⟩ | ⟨rfl, hJx3⟩)
          · have hm3 := hid ((hk3 bm (.inr (.inl rfl))).trans hm2.out)
            have hw3 := hid ((hk3 bw (.inr (.inr rfl))).trans hw2.out)
            have hs3 : Hid (Same W0.heap.size W0 W3) := hid (fun j hj => (hk3 j (.inl hj)).trans (hsame2.out j hj))
            have HJ3 := hid hJ3
            clear hJ3 hk3
            gi_wp2
            go_roundw
            case rel => exact ⟨k + 1, by omega, by go_num, hs3, hm3, hw3, hid (by rw [HS.out]; exact HJ3.out)⟩
            case measure => simp [intOf]; omega
          · have HJx := hid hJx3
            clear hJx3
            obtain ⟨r, hr⟩ := belowM_pre ms x (k + 1)
            have HR := hid hr
            clear hr
            gi_wp2
            refine bodyPost_ret (results_none rfl _ _ _) rfl ?_
            exact ⟨⟨_, rfl⟩, .inr ⟨_, ⟨r, by rw [← HS.out]; exact HR.out⟩, HJx.out⟩⟩
    · obtain rfl : n = k := by omega
      have HT : Hid (belowM (ms.take n) x = belowM ms x) := hid (by rw [List.take_of_length_le (by rw [HL.out]; exact Nat.le_refl _)])
      gi_wp2
      go_end0
      exact ⟨⟨_, rfl⟩, .inl ⟨_, HT.out, hJs.out⟩⟩
end Go.Proofs.Ytbfhppafffhlkaa
