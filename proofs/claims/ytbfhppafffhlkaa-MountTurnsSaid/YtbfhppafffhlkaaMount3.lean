/- The functions of package mount: check, Of, Resolve, New. -/
import Derived.Test.YtbfhppafffhlkaaMount2
import Derived.Test.YtbfhppafffhlkaaPath9
namespace Go.Proofs.Ytbfhppafffhlkaa
open Go.RowKit
open Go.Proofs
set_option linter.unusedVariables false

theorem chk2_ways (ms : List (Nat × Nat)) (nx x : Nat) : (chk2E ms nx x = 340 ∧ goodM ms nx = false) ∨ (chk2E ms nx x = 310 ∧ goodM ms nx = true ∧ rd x = none) ∨ (chk2E ms nx x = 0 ∧ goodM ms nx = true ∧ ∃ ps, rd x = some ps) := by
  unfold chk2E
  cases hg : goodM ms nx with
  | false => exact .inl ⟨rfl, rfl⟩
  | true =>
    unfold pathE
    cases hr : rd x with
    | none => exact .inr (.inl ⟨rfl, rfl, rfl⟩)
    | some ps => exact .inr (.inr ⟨rfl, rfl, ps, rfl⟩)

set_option maxRecDepth 100000 in
theorem mchk_any (ms : List (Nat × Nat)) (a : Option Addr) (n cap nx x : Nat) (w : World) (hl : ms.length = n) (hok : mok ms) (hn : n ≤ 1000) (hnx : nx < 18446744073709551616) (hx : x < 18446744073709551616) (h : Leads w a n cap (mcells ms)) :
    Calls Try.prog 31 #[.agg #[.slice a n cap, .int .u64 (nx : Nat)], .int .u64 (x : Nat)] w (Ret (.int .i64 (chk2E ms nx x)) w) := by
  obtain ⟨w1, hw1, hb1, hs1, hl1⟩ := laid w #[.slice a n cap, .int .u64 ((nx : Nat) : Int)] 25
  have hc0 : w1.cell? ⟨w.heap.size, 0, none⟩ = some (.slice a n cap) := cell_laid hl1 rfl
  have hc1 : w1.cell? ⟨w.heap.size, 1, none⟩ = some (.int .u64 ((nx : Nat) : Int)) := cell_laid hl1 rfl
  have hC := mCheck_any ms a n cap nx w1 hl hok hn hnx (h.grow hb1)
  have hP := fun W => Check_any x W hx
  unfold chk2E
  unfold chkE at hC
  cases hg : goodM ms nx with
  | false =>
    rw [hg, if_neg (by simp)] at hC
    have HC := hid hC
    clear hC hP hl hl1 hs1 hok hg h
    go_enter Try.func31, Try.ntmps31
    go_wp2_with fail
    refine HC.out.mono ?_
    rintro e w2 ⟨rfl, hb2⟩
    go_wp2
    go_ret
    exact ⟨rfl, step hb1 hb2⟩
  | true =>
    rw [hg, if_pos rfl] at hC
    have HC := hid hC
    have HP := hid hP
    rw [if_pos rfl]
    generalize pathE x = E at *
    clear hC hP hl hl1 hs1 hok hg h
    go_enter Try.func31, Try.ntmps31
    go_wp2_with fail
    refine HC.out.mono ?_
    rintro e w2 ⟨rfl, hb2⟩
    go_wp2_with fail
    refine (HP.out _).mono ?_
    rintro e w3 ⟨rfl, hb3⟩
    go_wp2
    go_ret
    exact ⟨rfl, step (step hb1 hb2) hb3⟩

def ofMV (ms : List (Nat × Nat)) (nx x : Nat) : Value :=
  if chk2E ms nx x = 0 then (if hasM ms x then .tuple #[.int .u64 ((atM ms x : Nat) : Int), .int .i64 0] else .tuple #[.int .u64 0, .int .i64 4]) else .tuple #[.int .u64 0, .int .i64 (chk2E ms nx x)]

set_option maxRecDepth 100000 in
theorem mOf_any (ms : List (Nat × Nat)) (a : Option Addr) (n cap nx x : Nat) (w : World) (hl : ms.length = n) (hok : mok ms) (hn : n ≤ 1000) (hnx : nx < 18446744073709551616) (hx : x < 18446744073709551616) (h : Leads w a n cap (mcells ms)) :
    Calls Try.prog 20 #[.agg #[.slice a n cap, .int .u64 (nx : Nat)], .int .u64 (x : Nat)] w (Ret (ofMV ms nx x) w) := by
  obtain ⟨w1, hw1, hb1, hs1, hl1⟩ := laid w #[.slice a n cap, .int .u64 ((nx : Nat) : Int)] 25
  have hc0 : w1.cell? ⟨w.heap.size, 0, none⟩ = some (.slice a n cap) := cell_laid hl1 rfl
  have hc1 : w1.cell? ⟨w.heap.size, 1, none⟩ = some (.int .u64 ((nx : Nat) : Int)) := cell_laid hl1 rfl
  have hC := mchk_any ms a n cap nx x w1 hl hok hn hnx hx (h.grow hb1)
  have HB := hid fun W (hW : Below w1.heap.size w1 W) => byPath_any ms a n cap ((nx : Nat) : Int) W hl hok hn (h.grow (step hb1 hW))
  have HL1 := hid hl1
  obtain ⟨E, hE⟩ : ∃ E, chk2E ms nx x = E := ⟨_, rfl⟩
  unfold ofMV
  rw [hE] at hC ⊢
  by_cases h0 : E = 0
  · subst h0
    rw [if_pos rfl]
    have HC := hid hC
    cases hh : hasM ms x with
    | false =>
      have HH := hid hh
      clear hC hl hl1 hs1 hok h hE hh
      rw [if_neg (by simp)]
      go_enter Try.func20, Try.ntmps20
      go_wp2_with fail
      refine HC.out.mono ?_
      rintro e w2 ⟨rfl, hb2⟩
      have hd0 : w2.cell? ⟨w.heap.size, 0, none⟩ = some (.slice a n cap) := cell_laid (keep_laid HL1.out hb2) rfl
      have hd1 : w2.cell? ⟨w.heap.size, 1, none⟩ = some (.int .u64 ((nx : Nat) : Int)) := cell_laid (keep_laid HL1.out hb2) rfl
      go_wp2_with fail
      refine (HB.out _ hb2).mono ?_
      rintro e w3 ⟨b, rfl, hbb, hI, hb3⟩
      go_wp2_with (at_lookup; refine wp_look rfl _ _ 66 rfl Try.underlying66 b x ms rfl hI rfl hx ?_; rw [HH.out])
      go_ret2
      exact ⟨rfl, step (step hb1 hb2) hb3⟩
    | true =>
      have HH := hid hh
      clear hC hl hl1 hs1 hok h hE hh
      rw [if_pos rfl]
      go_enter Try.func20, Try.ntmps20
      go_wp2_with fail
      refine HC.out.mono ?_
      rintro e w2 ⟨rfl, hb2⟩
      have hd0 : w2.cell? ⟨w.heap.size, 0, none⟩ = some (.slice a n cap) := cell_laid (keep_laid HL1.out hb2) rfl
      have hd1 : w2.cell? ⟨w.heap.size, 1, none⟩ = some (.int .u64 ((nx : Nat) : Int)) := cell_laid (keep_laid HL1.out hb2) rfl
      go_wp2_with fail
      refine (HB.out _ hb2).mono ?_
      rintro e w3 ⟨b, rfl, hbb, hI, hb3⟩
      go_wp2_with (at_lookup; refine wp_look rfl _ _ 66 rfl Try.underlying66 b x ms rfl hI rfl hx ?_; rw [HH.out])
      go_ret2
      exact ⟨rfl, step (step hb1 hb2) hb3⟩
  · have q : (E == 0) = false := by simpa using h0
    rw [if_neg h0]
    have HC := hid hC
    clear hC hl hl1 hs1 hok h hE h0
    go_enter Try.func20, Try.ntmps20
    go_wp2_with fail
    refine HC.out.mono ?_
    rintro e w2 ⟨rfl, hb2⟩
    go_wp2
    go_ret2
    exact ⟨rfl, step hb1 hb2⟩

theorem resAt_any (ms : List (Nat × Nat)) (u blk b : Nat) (w : World) (hu : u < 18446744073709551616) (hc : w.cell? ⟨blk, 0, none⟩ = some (.map (some b))) (hI : Ids w b ms) :
    Calls Try.prog 38 #[.int .u64 (u : Nat), .pointer (some ⟨blk, 0, none⟩)] w (Ret (.int .u64 ((atM ms u : Nat) : Int)) w) := by
  go_enter Try.func38, Try.ntmps38
  go_wp2_with (at_lookup; refine wp_at rfl _ _ 66 rfl Try.underlying66 b u ms rfl hI rfl hu ?_)
  go_ret
  exact ⟨rfl, Below.refl _ _⟩

def resMV (ms : List (Nat × Nat)) (nx x : Nat) : Value :=
  if chk2E ms nx x = 0 then (match rd x with
    | none => .tuple #[.int .u64 0, .int .i64 4]
    | some ps => match (ups ps).find? (fun u => decide (0 < atM ms u)) with
      | some u => .tuple #[.int .u64 ((atM ms u : Nat) : Int), .int .i64 0]
      | none => .tuple #[.int .u64 0, .int .i64 4]) else .tuple #[.int .u64 0, .int .i64 (chk2E ms nx x)]

theorem mount_ups_lt (x : Nat) (ps : List (List UInt8)) (h : rd x = some ps) (u : Nat) (hu : u ∈ ups ps) : u < 18446744073709551616 := by
  unfold ups at hu
  rw [List.mem_map] at hu
  obtain ⟨k, _, rfl⟩ := hu
  unfold numL
  split
  · rename_i h; exact textN_u64 _ h.1
  · decide
theorem find_first {α : Type} (p : α → Bool) (xs : List α) (x : α) (k : Nat) (hk : xs[k]? = some x) (hp : p x = true) (h : ∀ j y, j < k → xs[j]? = some y → p y = false) : xs.find? p = some x := by
  obtain ⟨hl, he⟩ := List.getElem?_eq_some_iff.1 hk
  rw [List.find?_eq_some_iff_getElem]
  exact ⟨hp, k, hl, he, fun j hj => by simpa using h j _ hj (List.getElem?_eq_getElem (by omega))⟩
theorem find_no {α : Type} (p : α → Bool) (xs : List α) (h : ∀ j y, j < xs.length → xs[j]? = some y → p y = false) : xs.find? p = none := by
  rw [List.find?_eq_none]
  intro x hx
  obtain ⟨j, hj, e⟩ := List.getElem_of_mem hx
  have := h j x hj (by rw [List.getElem?_eq_getElem hj, e])
  simpa using this

set_option maxRecDepth 100000 in
set_option maxHeartbeats 1000000 in
theorem mResolve_any (ms : List (Nat × Nat)) (a : Option Addr) (n cap nx x : Nat) (w : World) (hl : ms.length = n) (hok : mok ms) (hn : n ≤ 1000) (hnx : nx < 18446744073709551616) (hx : x < 18446744073709551616) (h : Leads w a n cap (mcells ms)) :
    Calls Try.prog 17 #[.agg #[.slice a n cap, .int .u64 (nx : Nat)], .int .u64 (x : Nat)] w (Ret (resMV ms nx x) w) := by
  obtain ⟨w1, hw1, hb1, hs1, hl1⟩ := laid w #[.slice a n cap, .int .u64 ((nx : Nat) : Int)] 25
  have hc0 : w1.cell? ⟨w.heap.size, 0, none⟩ = some (.slice a n cap) := cell_laid hl1 rfl
  have hc1 : w1.cell? ⟨w.heap.size, 1, none⟩ = some (.int .u64 ((nx : Nat) : Int)) := cell_laid hl1 rfl
  have hC := mchk_any ms a n cap nx x w1 hl hok hn hnx hx (h.grow hb1)
  have HB := hid fun W (hW : Below w1.heap.size w1 W) => byPath_any ms a n cap ((nx : Nat) : Int) W hl hok hn (h.grow (step hb1 hW))
  have HL1 := hid hl1
  unfold resMV
  rcases chk2_ways ms nx x with ⟨hE, hg⟩ | ⟨hE, hg, hr⟩ | ⟨hE, hg, ps, hr⟩
  · rw [hE] at hC ⊢
    rw [if_neg (by decide)]
    have HC := hid hC
    clear hC hl hl1 hs1 hok h hE hg
    go_enter Try.func17, Try.ntmps17
    go_wp2
    go_step3
    go_wp2_with fail
    refine HC.out.mono ?_
    rintro e w2 ⟨rfl, hb2⟩
    go_wp2
    rw [Exit.noGoto_ret]
    go_ret2
    exact ⟨rfl, step hb1 hb2⟩
  · rw [hE] at hC ⊢
    rw [if_neg (by decide)]
    have HC := hid hC
    clear hC hl hl1 hs1 hok h hE hg hr
    go_enter Try.func17, Try.ntmps17
    go_wp2
    go_step3
    go_wp2_with fail
    refine HC.out.mono ?_
    rintro e w2 ⟨rfl, hb2⟩
    go_wp2
    rw [Exit.noGoto_ret]
    go_ret2
    exact ⟨rfl, step hb1 hb2⟩
  · rw [hE] at hC ⊢
    rw [if_pos rfl, hr]
    dsimp only
    have HC := hid hC
    have HU := hid fun W => Up_some x ps W hx hr
    have HUP := hid fun u hu => mount_ups_lt x ps hr u hu
    obtain ⟨m, hm⟩ : ∃ m, (ups ps).length = m := ⟨_, rfl⟩
    have HM := hid hm
    have hm8 : m ≤ 1000 := by
      have := (rd_some hr).2.2.2.2.2.2
      rw [← hm]; unfold ups; simp; omega
    obtain ⟨V, hV⟩ : ∃ V, (match (ups ps).find? (fun u => decide (0 < atM ms u)) with | some u => Value.tuple #[.int .u64 ((atM ms u : Nat) : Int), .int .i64 0] | none => Value.tuple #[.int .u64 0, .int .i64 4]) = V := ⟨_, rfl⟩
    rw [hV]
    have HV := hid hV
    clear hC hl hl1 hs1 hok h hE hg hr hm hV
    go_enter Try.func17, Try.ntmps17
    go_wp2
    go_step3
    go_wp2_with fail
    refine HC.out.mono ?_
    rintro e w2 ⟨rfl, hb2⟩
    go_wp2_with fail
    refine (HU.out _).mono ?_
    rintro e w3 ⟨v, rfl, ho, hb3⟩
    rw [HM.out] at ho
    obtain ⟨a3, c3, rfl, hld⟩ := Leads.of_own ho
    have HLD := hid hld
    have hb23 := step hb2 hb3
    have hd0 : w3.cell? ⟨w.heap.size, 0, none⟩ = some (.slice a n cap) := cell_laid (keep_laid HL1.out hb23) rfl
    have hd1 : w3.cell? ⟨w.heap.size, 1, none⟩ = some (.int .u64 ((nx : Nat) : Int)) := cell_laid (keep_laid HL1.out hb23) rfl
    clear ho hld
    go_wp2_with fail
    refine (HB.out _ hb23).mono ?_
    rintro e w4 ⟨b, rfl, hbb, hI, hb4⟩
    obtain ⟨w5, hw5, hb5, hs5, hl5⟩ := laid w4 #[.map (some b)] 66
    have HI := hid (hI.grow hb5)
    have HL5 := hid hl5
    have HLD5 := hid (HLD.out.grow (step hb4 hb5))
    have hb05 := step (step (step hb1 hb23) hb4) hb5
    clear hI hl5 hs5 hbb
    go_wp2
    go_step3
    go_wp2
    go_loopg [11, 13, 30] m (fun g id _ i wr => ∃ k : Nat, g + k = m ∧ id = .int .u64 0 ∧ i = .int .i64 (k : Nat) ∧ Hid (∀ j u, j < k → (ups ps)[j]? = some u → decide (0 < atM ms u) = false) ∧ Below w5.heap.size w5 wr)
    case atStart => exact ⟨0, rfl, rfl, rfl, hid (fun j u h => absurd h (Nat.not_lt_zero j)), Below.refl _ _⟩
    case round =>
      obtain ⟨k, hk, rfl, rfl, hno, hb⟩ := hrel
      have HK := hid hk
      clear hk
      by_cases hlt : k < m
      · obtain ⟨u, hu⟩ : ∃ u, (ups ps)[k]? = some u := ⟨_, List.getElem?_eq_getElem (by rw [HM.out]; exact hlt)⟩
        obtain ⟨b1, off, rfl, hc⟩ := HLD5.out.at hlt (wcell_at hu)
        have hc1 := hc wr hb
        have huw := HUP.out u (List.mem_of_getElem? hu)
        have HA := hid (resAt_any ms u w4.heap.size b wr huw (cell_laid (keep_laid HL5.out hb) rfl) (HI.out.grow hb))
        obtain ⟨N, hN⟩ : ∃ N, atM ms u = N := ⟨_, rfl⟩
        rw [hN] at HA
        by_cases h0 : 0 < N
        · have HVV : Hid (V = .tuple #[.int .u64 ((N : Nat) : Int), .int .i64 0]) := hid (by
            rw [← HV.out, find_first _ _ u k hu (by rw [hN]; exact decide_eq_true h0) (fun j y hj hy => hno.out j y hj hy)]
            dsimp only
            rw [hN])
          have q : ((N : Int) == 0) = false := by simp; omega
          have q2 : decide ((0 : Int) < (N : Int)) = true := decide_eq_true (by omega)
          clear hc hu hN hno
          go_wp2_with fail
          refine HA.out.mono ?_
          rintro e w6 ⟨rfl, hb6⟩
          go_wp2
          rw [Exit.noGoto_ret]
          go_ret2
          exact ⟨by rw [HVV.out]; rfl, step hb05 (step hb hb6)⟩
        · have HN : Hid (∀ j u, j < k + 1 → (ups ps)[j]? = some u → decide (0 < atM ms u) = false) := hid (by
            intro j u' hj hu'
            by_cases e : j = k
            · subst e; rw [hu] at hu'; cases hu'; rw [hN]; exact decide_eq_false h0
            · exact hno.out j u' (by omega) hu')
          obtain rfl : N = 0 := by omega
          clear hc hu hN hno h0
          go_wp2_with fail
          refine HA.out.mono ?_
          rintro e w6 ⟨rfl, hb6⟩
          go_wp2
          go_roundg (gk - 1)
          case measure => have := HK.out; omega
          case rel => exact ⟨k + 1, by have := HK.out; omega, rfl, by go_num, HN, step hb hb6⟩
      · have HVV : Hid (V = .tuple #[.int .u64 0, .int .i64 4]) := hid (by
          rw [← HV.out, find_no _ _ (fun j y hj hy => hno.out j y (by rw [HM.out] at hj; have := HK.out; omega) hy)])
        clear hno HK
        go_wp2
        rw [Exit.noGoto_ret]
        go_ret2
        exact ⟨by rw [HVV.out]; rfl, step hb05 hb⟩
end Go.Proofs.Ytbfhppafffhlkaa
