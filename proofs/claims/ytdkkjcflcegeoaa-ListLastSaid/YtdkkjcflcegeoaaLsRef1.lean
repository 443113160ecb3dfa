/- The document's lists (printed by gen_lsref1.py): at, isLive, has, Ahead, Words. -/
import Derived.Test.YtdkkjcflcegeoaaLs10
import Derived.Test.YtdkkjcflcegeoaaLsC
namespace Go.Proofs.Ytdkkjcflcegeoaa
open Go.RowKit
open Go.Proofs
set_option linter.unusedVariables false
attribute [local go_sem] Oper.semAt_some

theorem rat_any (p k : Nat) (V : World) (hp : p < 18446744073709551616) (hk : k ≤ 1000) : Calls Try.prog 44 #[.int .u64 ((p : Nat) : Int), .int .i64 ((k : Nat) : Int)] V (fun e W => e = .returned (.int .i64 ((posL p k : Nat) : Int)) ∧ W = V) := by
  by_cases h : 4096 < p
  · have t0 : decide (4096 < ((p : Nat) : Int)) = true := decide_eq_true (by omega)
    have HP : Hid (posL p k = 4096 + k) := hid (by unfold posL; omega)
    clear h
    go_enter Try.func44, Try.ntmps44
    go_wp2
    go_ret
    exact ⟨reti (by rw [HP.out]; go_num), rfl⟩
  · have t0 : decide (4096 < ((p : Nat) : Int)) = false := decide_eq_false (by omega)
    have HP : Hid (posL p k = p + k) := hid (by unfold posL; omega)
    have hp6 : ((p : Nat) : Int) ≤ 4096 := by omega
    clear h
    go_enter Try.func44, Try.ntmps44
    go_wp2
    go_ret
    exact ⟨reti (by rw [HP.out]; go_num), rfl⟩
theorem rat_ret (p k : Nat) (V : World) (hp : p < 18446744073709551616) (hk : k ≤ 1000) : Calls Try.prog 44 #[.int .u64 ((p : Nat) : Int), .int .i64 ((k : Nat) : Int)] V (Ret (.int .i64 ((posL p k : Nat) : Int)) V) :=
  (rat_any p k V hp hk).mono fun e W h => by obtain ⟨rfl, rfl⟩ := h; exact ⟨rfl, Below.refl _ _⟩
theorem rlive_any (M : Mem) (wa la : Option Addr) (wc lc q : Nat) (V : World) (h : MemL V wa wc la lc M) (hlen : M.L.length = M.W.length) (hq : q ≤ 1000000) :
    Calls Try.prog 43 #[memV wa wc la lc M, .int .i64 ((q : Nat) : Int)] V (Ret (.bool (liveN M q)) V) := by
  obtain ⟨V1, hV1, hb1, hs1, hl1⟩ := laid V #[.slice wa M.W.length wc, .slice la M.L.length lc, .bool M.F] 25
  obtain ⟨x0, x1, x2⟩ := cells3 hl1
  have HB1 := hid hb1
  have hwl := h.w.len
  have hll := h.l.len
  have hL := h.l.grow hb1
  unfold memV
  rw [hlen] at x1 hV1 hll hL ⊢
  obtain ⟨n, hn⟩ : ∃ n, M.W.length = n := ⟨_, rfl⟩
  rw [hn] at x0 x1 hV1 hll hwl hL ⊢
  obtain ⟨F, hF⟩ : ∃ n, M.F = n := ⟨_, rfl⟩
  rw [hF] at hV1 ⊢
  have t0 : decide ((0 : Int) ≤ ((q : Nat) : Int)) = true := decide_eq_true (by omega)
  by_cases hlt : q < n
  · have t1 : decide (((q : Nat) : Int) < ((n : Nat) : Int)) = true := decide_eq_true (by omega)
    obtain ⟨b, hb⟩ : ∃ b, M.L[q]? = some b := ⟨_, List.getElem?_eq_getElem (by rw [hlen, hn]; exact hlt)⟩
    obtain ⟨bb, oo, rfl, -, hc⟩ := hL.at hlt (bcell_at hb)
    have f1 := hc _ (Below.refl _ _)
    have HE : Hid (liveN M q = b) := hid (by unfold liveN; rw [hb]; rfl)
    clear h hL hb hc hl1 hs1 hb1 hlen hn hF x2
    go_enter Try.func43, Try.ntmps43
    go_wp2
    go_ret
    exact ⟨retb HE.out.symm, HB1.out⟩
  · have t1 : decide (((q : Nat) : Int) < ((n : Nat) : Int)) = false := decide_eq_false (by omega)
    have HE : Hid (liveN M q = false) := hid (by unfold liveN; rw [List.getElem?_eq_none (by rw [hlen, hn]; omega)]; rfl)
    clear h hL hl1 hs1 hb1 hlen hn hF x2
    go_enter Try.func43, Try.ntmps43
    go_wp2
    go_ret
    exact ⟨retb HE.out.symm, HB1.out⟩

def ncells (l : List Nat) : List Value := l.map fun x => .int .i64 ((x : Nat) : Int)
theorem ncell_at {l : List Nat} {k x : Nat} (h : l[k]? = some x) : (ncells l)[k]? = some (.int .i64 ((x : Nat) : Int)) := by unfold ncells; rw [List.getElem?_map, h]; rfl
theorem ncells_len (l : List Nat) : (ncells l).length = l.length := by simp [ncells]
theorem ncells_app (l r : List Nat) : ncells (l ++ r) = ncells l ++ ncells r := by simp [ncells]

theorem has_any (l : List Nat) (a : Option Addr) (n cap q : Nat) (V : World) (h : Leads V a n cap (ncells l)) (hn : l.length = n) :
    Calls Try.prog 45 #[.slice a n cap, .int .i64 ((q : Nat) : Int)] V (fun e W => e = .returned (.bool (decide (q ∈ l))) ∧ W = V) := by
  have hl := h.len
  have H := hid h
  have HN := hid hn
  clear h hn
  go_enter Try.func45, Try.ntmps45
  go_wp2
  go_loopg [9] n (fun g i wr => ∃ k : Nat, g + k = n ∧ i = .int .i64 (k : Nat) ∧ Hid (∀ x ∈ l.take k, x ≠ q) ∧ wr = V)
  case atStart => exact ⟨0, rfl, rfl, hid (by simp), rfl⟩
  case round =>
    obtain ⟨k, hk, rfl, hs, hwr⟩ := hrel
    subst hwr
    have HK := hid hk
    clear hk
    by_cases hlt : k < n
    · obtain ⟨x, hxk⟩ : ∃ x, l[k]? = some x := ⟨_, List.getElem?_eq_getElem (by rw [HN.out]; exact hlt)⟩
      obtain ⟨b, off, rfl, -, hc⟩ := H.out.at hlt (ncell_at hxk)
      have f1 := hc _ (Below.refl _ _)
      have HX := hid hxk
      clear hc hxk
      by_cases he : x = q
      · subst he
        have HE : Hid (decide (x ∈ l) = true) := hid (decide_eq_true (List.mem_of_getElem? HX.out))
        go_wp2
        go_ret
        exact ⟨retb HE.out.symm, rfl⟩
      · have t0 : (((x : Nat) : Int) == ((q : Nat) : Int)) = false := by simp; omega
        have HTK : Hid (∀ y ∈ l.take (k + 1), y ≠ q) := hid (by
          rw [take_snoc HX.out]
          intro y hy
          rcases List.mem_append.1 hy with hy | hy
          · exact hs.out y hy
          · rw [List.mem_singleton] at hy; subst hy; exact he)
        clear he
        go_wp2
        go_roundg (gk - 1)
        case measure => have := HK.out; omega
        case rel => exact ⟨k + 1, by have := HK.out; omega, by go_num, HTK, rfl⟩
    · have e := HK.out
      obtain rfl : k = n := by omega
      have HE : Hid (decide (q ∈ l) = false) := hid (decide_eq_false fun hm => by
        have := hs.out
        rw [List.take_of_length_le (by rw [HN.out]; exact Nat.le_refl _)] at this
        exact this q hm rfl)
      clear hs e HK
      go_wp2
      go_ret
      exact ⟨retb HE.out.symm, rfl⟩


theorem Ahead_any (a b c d : Nat) (V : World) : Calls Try.prog 46 #[.int .u64 ((a : Nat) : Int), .int .u64 ((b : Nat) : Int), .int .u64 ((c : Nat) : Int), .int .u64 ((d : Nat) : Int)] V (fun e W => e = .returned (.bool (decide (a < c) || (decide (a = c) && decide (b < d)))) ∧ W = V) := by
  obtain ⟨R, hR⟩ : ∃ R, (decide (a < c) || (decide (a = c) && decide (b < d))) = R := ⟨_, rfl⟩
  rw [hR]
  have HR := hid hR
  clear hR
  go_enter Try.func46, Try.ntmps46
  by_cases c1 : a < c
  · have t1 : decide (((a : Nat) : Int) < ((c : Nat) : Int)) = true := decide_eq_true (by omega)
    have HE : Hid (R = true) := hid (by rw [← HR.out]; simp [c1])
    go_wp2
    go_ret
    exact ⟨retb HE.out.symm, rfl⟩
  · have t1 : decide (((a : Nat) : Int) < ((c : Nat) : Int)) = false := decide_eq_false (by omega)
    by_cases c2 : a = c
    · have t2 : (((a : Nat) : Int) == ((c : Nat) : Int)) = true := by simp; omega
      by_cases c3 : b < d
      · have t3 : decide (((b : Nat) : Int) < ((d : Nat) : Int)) = true := decide_eq_true (by omega)
        have HE : Hid (R = true) := hid (by rw [← HR.out]; simp [c2, c3])
        clear c2
        go_wp2
        go_ret
        exact ⟨retb HE.out.symm, rfl⟩
      · have t3 : decide (((b : Nat) : Int) < ((d : Nat) : Int)) = false := decide_eq_false (by omega)
        have HE : Hid (R = false) := hid (by rw [← HR.out]; simp [c2, c3])
        clear c2
        go_wp2
        go_ret
        exact ⟨retb HE.out.symm, rfl⟩
    · have t2 : (((a : Nat) : Int) == ((c : Nat) : Int)) = false := by simp; omega
      have HE : Hid (R = false) := hid (by rw [← HR.out]; simp [c1, c2])
      go_wp2
      go_ret
      exact ⟨retb HE.out.symm, rfl⟩
end Go.Proofs.Ytdkkjcflcegeoaa
