/- The document's lists linked both ways: At, live, has, In. -/
import Derived.Test.YtoihjmdpbbcbjaaDbl20
namespace Go.Proofs.Ytoihjmdpbbcbjaa
open Go.RowKit
open Go.Proofs
set_option linter.unusedVariables false
attribute [local go_sem] Oper.semAt_some

def posR (p k : Nat) : Nat := if 4096 < p then 4096 + k else p + k
theorem posR_le (p k : Nat) : posR p k ≤ 4096 + k := by unfold posR; split <;> omega
theorem posR_live {M : Mem} {p k : Nat} (h : M.L.length ≤ 4096) : liveN M (posR p k) = liveN M (posN p k) ∧ (liveN M (posN p k) = true → posR p k = posN p k) := by
  by_cases hp : 4096 < p
  · have h1 : posR p k = 4096 + k := by unfold posR; rw [if_pos hp]
    have h2 : posN p k = 4097 + k := by unfold posN; omega
    have e1 : liveN M (posR p k) = false := by unfold liveN; rw [h1, List.getElem?_eq_none (by omega)]; rfl
    have e2 : liveN M (posN p k) = false := by unfold liveN; rw [h2, List.getElem?_eq_none (by omega)]; rfl
    exact ⟨by rw [e1, e2], fun h => by rw [e2] at h; cases h⟩
  · have h1 : posR p k = p + k := by unfold posR; rw [if_neg hp]
    have h2 : posN p k = p + k := by unfold posN; omega
    rw [h1, h2]
    exact ⟨rfl, fun _ => rfl⟩
theorem stepM_pos {M : Mem} (h : M.L.length ≤ 4096) (st : Bool) (p k new : Nat) : stepM M st ((posR p k : Nat) : Int) new = stepM M st ((posN p k : Nat) : Int) new := by
  obtain ⟨h1, h2⟩ := posR_live (p := p) (k := k) h
  cases hl : liveN M (posN p k) with
  | true => rw [h2 hl]
  | false =>
    rw [hl] at h1
    have e : ∀ q : Nat, liveN M q = false → liveAt M ((q : Nat) : Int) = false := fun q hq => by
      unfold liveAt
      unfold liveN at hq
      rw [Int.toNat_natCast, hq]; simp
    unfold stepM
    rw [e _ h1, e _ hl]
    rfl
theorem At_any (p k : Nat) (V : World) (hp : p < 18446744073709551616) (hk : k ≤ 1000) : Calls Try.prog 34 #[.int .u64 ((p : Nat) : Int), .int .i64 ((k : Nat) : Int)] V (fun e W => e = .returned (.int .i64 ((posR p k : Nat) : Int)) ∧ W = V) := by
  by_cases h : 4096 < p
  · have t0 : decide (4096 < ((p : Nat) : Int)) = true := decide_eq_true (by omega)
    have HP : Hid (posR p k = 4096 + k) := hid (by unfold posR; rw [if_pos h])
    clear h
    go_enter Try.func34, Try.ntmps34
    go_wp2
    go_ret
    exact ⟨reti (by rw [HP.out]; go_num), rfl⟩
  · have t0 : decide (4096 < ((p : Nat) : Int)) = false := decide_eq_false (by omega)
    have HP : Hid (posR p k = p + k) := hid (by unfold posR; rw [if_neg h])
    have hp6 : ((p : Nat) : Int) ≤ 4096 := by omega
    clear h
    go_enter Try.func34, Try.ntmps34
    go_wp2
    go_ret
    exact ⟨reti (by rw [HP.out]; go_num), rfl⟩

set_option maxRecDepth 100000 in
set_option maxHeartbeats 1000000 in
theorem rlive_any (M : Mem) (wa la : Option Addr) (wc lc q : Nat) (V : World) (h : MemL V wa wc la lc M) (hlen : M.L.length = M.W.length) (hq : q ≤ 1000000) :
    Calls Try.prog 33 #[memV wa wc la lc M, .int .i64 ((q : Nat) : Int)] V (Ret (.bool (liveN M q)) V) := by
  obtain ⟨V1, hV1, hb1, hs1, hl1⟩ := laid V #[.slice wa M.W.length wc, .slice la M.L.length lc, .bool M.F] 25
  obtain ⟨x0, x1, x2⟩ := cells3 hl1
  have HB1 := hid hb1
  have hwl := h.w.len
  have hll := h.l.len
  have hL := h.l.grow hb1
  unfold memV
  rw [hlen] at x1 hV1 hll hL ⊢
  obtain ⟨n, hn⟩ : ∃ n, M.W.length = n := ⟨_, rfl⟩
  rw [hn] at x0 x1 hV1 hll hwl hL ⊢
  obtain ⟨F, hF⟩ : ∃ n, M.F = n := ⟨_, rfl⟩
  rw [hF] at hV1 ⊢
  have t0 : decide ((0 : Int) ≤ ((q : Nat) : Int)) = true := decide_eq_true (by omega)
  by_cases hlt : q < n
  · have t1 : decide (((q : Nat) : Int) < ((n : Nat) : Int)) = true := decide_eq_true (by omega)
    obtain ⟨b, hb⟩ : ∃ b, M.L[q]? = some b := ⟨_, List.getElem?_eq_getElem (by rw [hlen, hn]; exact hlt)⟩
    obtain ⟨bb, oo, rfl, -, hc⟩ := hL.at hlt (bcell_at hb)
    have f1 := hc _ (Below.refl _ _)
    have HE : Hid (liveN M q = b) := hid (by unfold liveN; rw [hb]; rfl)
    clear h hL hb hc hl1 hs1 hb1 hlen hn hF x2
    go_enter Try.func33, Try.ntmps33
    go_wp2
    go_ret
    exact ⟨retb HE.out.symm, HB1.out⟩
  · have t1 : decide (((q : Nat) : Int) < ((n : Nat) : Int)) = false := decide_eq_false (by omega)
    have HE : Hid (liveN M q = false) := hid (by unfold liveN; rw [List.getElem?_eq_none (by rw [hlen, hn]; omega)]; rfl)
    clear h hL hl1 hs1 hb1 hlen hn hF x2
    go_enter Try.func33, Try.ntmps33
    go_wp2
    go_ret
    exact ⟨retb HE.out.symm, HB1.out⟩

def ncells (l : List Nat) : List Value := l.map fun x => .int .i64 ((x : Nat) : Int)
theorem ncell_at {l : List Nat} {k x : Nat} (h : l[k]? = some x) : (ncells l)[k]? = some (.int .i64 ((x : Nat) : Int)) := by unfold ncells; rw [List.getElem?_map, h]; rfl
theorem ncells_len (l : List Nat) : (ncells l).length = l.length := by simp [ncells]
theorem ncells_app (l r : List Nat) : ncells (l ++ r) = ncells l ++ ncells r := by simp [ncells]
theorem has_any (l : List Nat) (a : Option Addr) (n cap q : Nat) (V : World) (h : Leads V a n cap (ncells l)) (hn : l.length = n) :
    Calls Try.prog 35 #[.slice a n cap, .int .i64 ((q : Nat) : Int)] V (fun e W => e = .returned (.bool (decide (q ∈ l))) ∧ W = V) := by
  have hl := h.len
  have H := hid h
  have HN := hid hn
  clear h hn
  go_enter Try.func35, Try.ntmps35
  go_wp2
  go_loopg [9] n (fun g i wr => ∃ k : Nat, g + k = n ∧ i = .int .i64 (k : Nat) ∧ Hid (∀ x ∈ l.take k, x ≠ q) ∧ wr = V)
  case atStart => exact ⟨0, rfl, rfl, hid (by simp), rfl⟩
  case round =>
    obtain ⟨k, hk, rfl, hs, hwr⟩ := hrel
    subst hwr
    have HK := hid hk
    clear hk
    by_cases hlt : k < n
    · obtain ⟨x, hxk⟩ : ∃ x, l[k]? = some x := ⟨_, List.getElem?_eq_getElem (by rw [HN.out]; exact hlt)⟩
      obtain ⟨b, off, rfl, -, hc⟩ := H.out.at hlt (ncell_at hxk)
      have f1 := hc _ (Below.refl _ _)
      have HX := hid hxk
      clear hc hxk
      by_cases he : x = q
      · subst he
        have HE : Hid (decide (x ∈ l) = true) := hid (decide_eq_true (List.mem_of_getElem? HX.out))
        go_wp2
        go_ret
        exact ⟨retb HE.out.symm, rfl⟩
      · have t0 : (((x : Nat) : Int) == ((q : Nat) : Int)) = false := by simp; omega
        have HTK : Hid (∀ y ∈ l.take (k + 1), y ≠ q) := hid (by
          rw [take_snoc HX.out]
          intro y hy
          rcases List.mem_append.1 hy with hy | hy
          · exact hs.out y hy
          · rw [List.mem_singleton] at hy; subst hy; exact he)
        clear he
        go_wp2
        go_roundg (gk - 1)
        case measure => have := HK.out; omega
        case rel => exact ⟨k + 1, by have := HK.out; omega, by go_num, HTK, rfl⟩
    · have e := HK.out
      obtain rfl : k = n := by omega
      have HE : Hid (decide (q ∈ l) = false) := hid (decide_eq_false fun hm => by
        have := hs.out
        rw [List.take_of_length_le (by rw [HN.out]; exact Nat.le_refl _)] at this
        exact this q hm rfl)
      clear hs e HK
      go_wp2
      go_ret
      exact ⟨retb HE.out.symm, rfl⟩

set_option maxHeartbeats 1000000 in
theorem rIn_any (xs : List Tw) (a : Option Addr) (n cap p : Nat) (V : World) (h : Leads V a n cap (twcells xs)) (hn : xs.length = n) :
    Calls Try.prog 38 #[.slice a n cap, .int .u64 ((p : Nat) : Int)] V (Ret (.bool (hasN xs p)) V) := by
  have hl := h.len
  have H := hid h
  have HN := hid hn
  clear h hn
  go_enter Try.func38, Try.ntmps38
  go_wp2
  go_loopg [9] n (fun g i wr => ∃ k : Nat, g + k = n ∧ i = .int .i64 (k : Nat) ∧ Hid ((xs.take k).any (fun t => decide (t.1 = p)) = false) ∧ Hid (Below V.heap.size V wr))
  case atStart => exact ⟨0, rfl, rfl, hid (by simp), hid (Below.refl _ _)⟩
  case round =>
    obtain ⟨k, hk, rfl, hs, hb⟩ := hrel
    have HK := hid hk
    clear hk
    by_cases hlt : k < n
    · obtain ⟨⟨p1, p2, p3⟩, ht⟩ : ∃ t, xs[k]? = some t := ⟨_, List.getElem?_eq_getElem (by rw [HN.out]; exact hlt)⟩
      obtain ⟨b, off, rfl, -, hcc⟩ := H.out.tw hlt ht
      obtain ⟨f0, f1, f2⟩ := hcc _ hb.out
      have HT := hid ht
      have HTK : Hid ((xs.take (k + 1)).any (fun t => decide (t.1 = p)) = decide (p1 = p)) := hid (by rw [take_snoc ht, List.any_append, hs.out]; simp)
      obtain ⟨w1, hw1, hb1, hs1, hl1⟩ := laid wr #[.int .u64 ((p1 : Nat) : Int), .int .u64 ((p2 : Nat) : Int), .int .u64 ((p3 : Nat) : Int)] 28
      have c0 := cell_laid (i := 0) hl1 rfl
      have HB1 := hid (hb.out.trans (hb1.mono hb.out.size))
      clear hcc ht hb1 hs1 hl1
      by_cases he : p1 = p
      · subst he
        have HE : Hid (hasN xs p1 = true) := hid (by
          unfold hasN
          rw [List.any_eq_true]
          exact ⟨_, List.mem_of_getElem? HT.out, decide_eq_true rfl⟩)
        go_wp2
        go_ret
        exact ⟨retb HE.out.symm, HB1.out⟩
      · have t0 : (((p1 : Nat) : Int) == ((p : Nat) : Int)) = false := by simp; omega
        rw [decide_eq_false he] at HTK
        clear he
        go_wp2
        go_roundg (gk - 1)
        case measure => have := HK.out; omega
        case rel => exact ⟨k + 1, by have := HK.out; omega, by go_num, HTK, HB1⟩
    · have e := HK.out
      obtain rfl : k = n := by omega
      have HE : Hid (hasN xs p = false) := hid (by
        have := hs.out
        rwa [List.take_of_length_le (by rw [HN.out]; exact Nat.le_refl _)] at this)
      clear hs e HK
      go_wp2
      go_ret
      exact ⟨retb HE.out.symm, hb.out⟩
end Go.Proofs.Ytoihjmdpbbcbjaa
