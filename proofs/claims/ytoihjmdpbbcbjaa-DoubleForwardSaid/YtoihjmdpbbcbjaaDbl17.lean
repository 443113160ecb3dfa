/- Lists linked both ways: Ahead. -/
import Derived.Test.YtoihjmdpbbcbjaaDbl16
namespace Go.Proofs.Ytoihjmdpbbcbjaa
open Go.RowKit
open Go.Proofs
set_option linter.unusedVariables false
attribute [local go_sem] Oper.semAt_some

/-- The nodes with their numbers, the last one first. -/
def bkL (xs : List Tw) : List (Nat × Tw) := ((List.range xs.length).zip xs).reverse
theorem bkL_len (xs : List Tw) : (bkL xs).length = xs.length := by simp [bkL]
theorem bkL_at {xs : List Tw} {n j k : Nat} {t : Tw} (hn : xs.length = n) (hk : j + k + 1 = n) (ht : xs[k]? = some t) : (bkL xs)[j]? = some (k, t) := by
  unfold bkL
  rw [List.getElem?_reverse (by simp; omega)]
  have e : ((List.range xs.length).zip xs).length - 1 - j = k := by simp; omega
  rw [e, List.getElem?_zip_eq_some]
  exact ⟨by rw [List.getElem?_range (by omega)], ht⟩
theorem bkL_map (xs : List Tw) : (bkL xs).map (fun p => p.2.1) = (xs.map (·.1)).reverse := by
  unfold bkL
  rw [List.map_reverse]
  congr 1
  have : ∀ (l : List Nat) (xs : List Tw), l.length = xs.length → (l.zip xs).map (fun p => p.2.1) = xs.map (·.1) := by
    intro l
    induction l with
    | nil => intro xs h; cases xs with
      | nil => rfl
      | cons _ _ => simp at h
    | cons a l ih => intro xs h; cases xs with
      | nil => simp at h
      | cons x xs => simp only [List.zip_cons_cons, List.map_cons]; rw [ih xs (by simpa using h)]
  exact this _ _ (by simp)

def idxOf (t : Value) : Nat := match t with | .int _ k => (k + 1).toNat | _ => 0
set_option maxRecDepth 100000 in
set_option maxHeartbeats 2000000 in
theorem backward_seq (Bs s0 : Nat) (xs : List Tw) (a : Option Addr) (n cap : Nat) (kept : Nat → Prop) (hn : xs.length = n) (hn4 : n ≤ 5000) (k1 : kept Bs) (k2 : ∀ b off, a = some ⟨b, off, none⟩ → kept b) :
    SeqT (Turn Bs s0) Fence.wide 4 Try.prog 49 #[.pointer (some ⟨Bs, 0, none⟩)] (fun x : Nat × Tw => #[.int .i64 ((x.1 : Nat) : Int), twV x.2]) (Keeps kept) (fun ys => ys = bkL xs) (fun _ => True) 5001
      (fun W => W.heap[Bs]? = some (.cells #[.slice a n cap] 32 (0, 0)) ∧ Leads W a n cap (twcells xs)) := by
  intro l J Jx W hW hJ hJx hY h0
  have HN := hid hn
  have HJ := hid hJ
  have HY := hid hY
  have HK := hid (show ∀ (A B : World), A.heap[Bs]? = some (.cells #[.slice a n cap] 32 (0, 0)) ∧ Leads A a n cap (twcells xs) → Keeps kept A B → B.heap[Bs]? = some (.cells #[.slice a n cap] 32 (0, 0)) ∧ Leads B a n cap (twcells xs) from by
    rintro A B ⟨h1, ⟨q1, q2, ⟨q3, q4⟩ | ⟨b, off, q3, q4, q5⟩⟩⟩ hk
    · exact ⟨(hk _ k1).trans h1, q1, q2, .inl ⟨q3, q4⟩⟩
    · have hb := hk b (k2 b off q3)
      refine ⟨(hk _ k1).trans h1, q1, q2, .inr ⟨b, off, q3, ?_, fun i v hv => ?_⟩⟩
      · have : B.heap[b]? = some A.heap[b] := by rw [hb]; exact Array.getElem?_eq_getElem q4
        exact lt_laid this
      · have := q5 i v hv
        unfold World.cell? at this ⊢
        rw [hb]
        exact this)
  have HW := hid hW
  have c0 := cell_laid (i := 0) hW.1 rfl
  have hl := hW.2.len
  have H0 := hid h0
  clear hW hn hJ hY h0 k1 k2
  refine callsIn_of_wp Try.func49 rfl trivial ?_ rfl
  simp only [Try.ntmps49, List.size_toArray, List.length_cons, List.length_nil, Nat.reduceAdd, Nat.reduceSub, Array.replicate_succ, Array.replicate_zero, List.push_toArray, List.append_toArray, List.nil_append, List.cons_append]
  gi_wp2
  gi_loopw [3] (fun t3 wr => ∃ j : Nat, j ≤ n ∧ t3 = .int .i64 (((n : Nat) : Int) - 1 - ((j : Nat) : Int)) ∧ Hid (wr.heap[Bs]? = some (.cells #[.slice a n cap] 32 (0, 0)) ∧ Leads wr a n cap (twcells xs)) ∧ Hid (J ((bkL xs).take j) wr)) (fun t3 _ => idxOf t3)
  case atStart => exact ⟨0, Nat.zero_le _, by go_num, HW, hid (by simpa using H0.out)⟩
  case round =>
    obtain ⟨j, hj, rfl, hR, hJs⟩ := hrel
    by_cases hlt : j < n
    · obtain ⟨k, hk⟩ : ∃ k, k = n - 1 - j := ⟨_, rfl⟩
      have hkn : k < n := by omega
      have hkj : ((n : Nat) : Int) - 1 - ((j : Nat) : Int) = ((k : Nat) : Int) := by omega
      obtain ⟨⟨p1, p2, p3⟩, ht⟩ : ∃ t, xs[k]? = some t := ⟨_, List.getElem?_eq_getElem (by rw [HN.out]; exact hkn)⟩
      have hb0 := cell_laid (i := 0) hR.out.1 rfl
      obtain ⟨b, off, hb, -, hcc⟩ := hR.out.2.tw hkn ht
      subst hb
      obtain ⟨f0, f1, f2⟩ := hcc wr (Below.refl _ _)
      have hat := bkL_at (k := k) (j := j) HN.out (by omega) ht
      have HAT := hid hat
      have hyy := HY.out ((bkL xs).take j) (k, (p1, p2, p3)) wr hJs.out (by rw [List.length_take, bkL_len, HN.out]; omega)
      obtain ⟨fn, tmps, assign, body, hy, hRR⟩ := hyy
      have hy' : (Instr.yield l #[.int .i64 ((k : Nat) : Int), .agg #[.int .u64 ((p1 : Nat) : Int), .int .u64 ((p2 : Nat) : Int), .int .u64 ((p3 : Nat) : Int)]]).run Try.prog wr = _ := hy
      have HTK : Hid ((bkL xs).take j ++ [(k, (p1, p2, p3))] = (bkL xs).take (j + 1)) := hid (take_snoc hat).symm
      have HKN : Hid (k + j + 1 = n) := hid (by omega)
      rw [hkj]
      clear hy hcc ht hat hk hkj hj
      gi_wp2
      refine hRR.mono ?_
      rintro e W3 (⟨rfl, hJ3, hk3⟩ | ⟨rfl, hJx3⟩)
      · have HJ3 := hid hJ3
        have HR3 := hid (HK.out _ _ hR.out hk3)
        clear hJ3 hk3 hRR hy'
        gi_wp2
        go_roundw
        case rel => exact ⟨j + 1, by omega, by have := HKN.out; go_num, HR3, hid (by rw [← HTK.out]; exact HJ3.out)⟩
        case measure => unfold idxOf; dsimp only; have := HKN.out; go_num
      · gi_wp2
        refine bodyPost_ret (results_none rfl _ _ _) rfl ?_
        exact ⟨⟨_, rfl⟩, .inr ⟨_, trivial, hJx3⟩⟩
    · have e : j = n := by omega
      subst e
      have HT : Hid ((bkL xs).take j = bkL xs) := hid (List.take_of_length_le (by rw [bkL_len, HN.out]; exact Nat.le_refl _))
      have t0 : decide ((0 : Int) ≤ ((j : Nat) : Int) - 1 - ((j : Nat) : Int)) = false := decide_eq_false (by omega)
      gi_wp2
      go_end0
      exact ⟨⟨_, rfl⟩, .inl ⟨_, HT.out, hJs.out⟩⟩
end Go.Proofs.Ytoihjmdpbbcbjaa
