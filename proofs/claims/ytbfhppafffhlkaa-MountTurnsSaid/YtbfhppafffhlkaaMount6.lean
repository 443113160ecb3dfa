/- The functions of package mount: kept. -/
import Derived.Test.YtbfhppafffhlkaaMount5
namespace Go.Proofs.Ytbfhppafffhlkaa
open Go.RowKit
open Go.Proofs
set_option linter.unusedVariables false

theorem elemMounts : Elem Try.prog 22 51 2 16 := Elem.mk' (z := .agg #[.int .u64 0, .int .u64 0]) Try.underlying22 (by kernel_rfl) rfl (by decide) (by decide)
def keptM (ms : List (Nat × Nat)) (x : Nat) : List (Nat × Nat) := ms.filter fun p => decide (p.1 ≠ x)
theorem keptM_snoc (ms : List (Nat × Nat)) (x k : Nat) (p : Nat × Nat) (h : ms[k]? = some p) : keptM (ms.take (k + 1)) x = keptM (ms.take k) x ++ (if p.1 ≠ x then [p] else []) := by
  unfold keptM
  rw [List.take_add_one, h, List.filter_append]
  simp only [Option.toList_some, List.filter_cons, List.filter_nil, decide_eq_true_eq]
theorem keptM_len (ms : List (Nat × Nat)) (x k : Nat) : (keptM (ms.take k) x).length ≤ k := by
  unfold keptM
  refine Nat.le_trans (List.length_filter_le _ _) ?_
  rw [List.length_take]; omega

theorem dropOf_any (p1 p2 x bx : Nat) (w : World) (hc : w.cell? ⟨bx, 0, none⟩ = some (.int .u64 ((x : Nat) : Int))) :
    Calls Try.prog 35 #[.agg #[.int .u64 ((p1 : Nat) : Int), .int .u64 ((p2 : Nat) : Int)], .pointer (some ⟨bx, 0, none⟩)] w (Ret (.bool (decide (p1 ≠ x))) w) := by
  obtain ⟨w1, hw1, hb1, hs1, hl1⟩ := laid w #[.int .u64 ((p1 : Nat) : Int), .int .u64 ((p2 : Nat) : Int)] 51
  have hc0 := cell_laid hl1 (i := 0) rfl
  have hx : w1.cell? ⟨bx, 0, none⟩ = some (.int .u64 ((x : Nat) : Int)) := by
    have hlt : bx < w.heap.size := by
      rw [World.cell?] at hc
      by_cases h : bx < w.heap.size
      · exact h
      · rw [Array.getElem?_eq_none (by show w.heap.size ≤ bx; omega)] at hc; cases hc
    exact (hb1.cell (p := ⟨bx, 0, none⟩) hlt).trans hc
  by_cases h : p1 = x
  · have q : (((p1 : Nat) : Int) != ((x : Nat) : Int)) = false := by simp; omega
    have HD : Hid (decide (p1 ≠ x) = false) := hid (decide_eq_false (by simpa using h))
    clear hs1 hl1 h hc
    go_enter Try.func35, Try.ntmps35
    go_wp2
    go_ret
    exact ⟨retb HD.out.symm, hb1⟩
  · have q : (((p1 : Nat) : Int) != ((x : Nat) : Int)) = true := by simp; omega
    have HD : Hid (decide (p1 ≠ x) = true) := hid (decide_eq_true h)
    clear hs1 hl1 h hc
    go_enter Try.func35, Try.ntmps35
    go_wp2
    go_ret
    exact ⟨retb HD.out.symm, hb1⟩

set_option maxRecDepth 100000 in
set_option maxHeartbeats 1000000 in
theorem kept_any (ms : List (Nat × Nat)) (a : Option Addr) (n cap x bx : Nat) (w : World) (hl : ms.length = n) (hn : n ≤ 1000) (hx : w.heap[bx]? = some (.cells #[.int .u64 ((x : Nat) : Int)] 23 (0, 0))) (h : Leads w a n cap (mcells ms)) :
    Calls Try.prog 34 #[.slice a n cap, .func (.func 35) #[] #[.pointer (some ⟨bx, 0, none⟩)]] w (fun e w' => ∃ v, e = .returned v ∧ w'.ownsRow w.heap.size 51 2 v (keptM ms x).length (mcells (keptM ms x)) ∧ Below w.heap.size w w') := by
  have H := hid h
  have HL := hid hl
  have HX := hid hx
  have hn1 := h.len.1
  clear h hl hx
  go_enter Try.func34, Try.ntmps34
  go_wp2
  go_loopg [5, 10] n (fun g v i wr => ∃ k : Nat, g + k = n ∧ i = .int .i64 (k : Nat) ∧ wr.ownsRow w.heap.size 51 2 v (keptM (ms.take k) x).length (mcells (keptM (ms.take k) x)) ∧ Below w.heap.size w wr)
  case atStart => exact ⟨0, rfl, rfl, World.ownsRow_nil _ _ _ _, Below.refl _ _⟩
  case round =>
    obtain ⟨k, hk, rfl, hown, hb⟩ := hrel
    have HK := hid hk
    have hbs := hb.size
    clear hk
    by_cases hlt : k < n
    · obtain ⟨⟨p1, p2⟩, hp⟩ : ∃ p, ms[k]? = some p := ⟨_, List.getElem?_eq_getElem (by rw [HL.out]; exact hlt)⟩
      obtain ⟨b, off, rfl, hbl, hc⟩ := H.out.mount hlt hp
      have hc1 := (hc wr hb).1
      have hc2 := (hc wr hb).2
      have hsn := keptM_snoc ms x k (p1, p2) hp
      dsimp only at hsn hc1 hc2
      have hml := keptM_len ms x k
      obtain ⟨m, hm⟩ : ∃ m, (keptM (ms.take k) x).length = m := ⟨_, rfl⟩
      rw [hm] at hown hml
      obtain ⟨wb, hwb, hbb, hsb, hlb⟩ := laid wr #[.int .u64 ((p1 : Nat) : Int), .int .u64 ((p2 : Nat) : Int)] 51
      have hx0 := cell_laid hlb (i := 0) rfl
      have hx1 := cell_laid hlb (i := 1) rfl
      have HLB := hid hlb
      have hbx := step hb hbb
      have HD := hid (dropOf_any p1 p2 x bx wb (cell_laid (keep_laid HX.out hbx) rfl))
      by_cases he : p1 = x
      · rw [if_neg (by simpa using he), List.append_nil] at hsn
        rw [decide_eq_false (by simpa using he)] at HD
        have HO := hid hown
        have HM := hid hm
        have HS := hid hsn
        clear hc hp hsn hown hm he hlb hsb
        go_wp2_with fail
        refine HD.out.mono ?_
        rintro e w1 ⟨rfl, hb1⟩
        go_wp2
        go_roundg (gk - 1)
        case measure => have := HK.out; omega
        case rel => exact ⟨k + 1, by have := HK.out; omega, by go_num, by rw [HS.out, HM.out]; exact own_grow (own_grow HO.out hbb) hb1, step hbx hb1⟩
      · rw [if_pos he] at hsn
        rw [decide_eq_true he] at HD
        have HO := hid (own_grow hown hbb)
        have HM := hid hm
        have HS := hid hsn
        clear hc hp hsn hown hm he hlb hsb
        go_wp2_with fail
        refine HD.out.mono ?_
        rintro e w1 ⟨rfl, hb1⟩
        have hy0 := cell_laid (keep_laid HLB.out hb1) (i := 0) rfl
        have hy1 := cell_laid (keep_laid HLB.out hb1) (i := 1) rfl
        obtain ⟨w2, hw2, hb2, hs2, hl2⟩ := laid w1 #[.int .u64 ((p1 : Nat) : Int), .int .u64 ((p2 : Nat) : Int)] 51
        have HL2 := hid hl2
        have hb12 := step hb1 hb2
        have hs5 : w.heap.size ≤ w2.heap.size := by have := hbx.size; have := hb12.size; omega
        clear hl2 hs2
        go_wp2_with ((with_reducible show wpList _ _ _ _ _ _); refine wp_append1 elemMounts rfl (.tmp 17) (.tmp 19) rfl w.heap.size u5 m _ rfl (own_grow HO.out hb12) w1.heap.size [.int .u64 ((p1 : Nat) : Int), .int .u64 ((p2 : Nat) : Int)] rfl rfl ?c1 ?c2 ?c3 ?c4 ?c5)
        case c1 =>
          intro j u hj
          exact cell_laid HL2.out (by simpa using hj)
        case c2 => first | (intro u hu; simp at hu; rcases hu with rfl | rfl <;> rfl) | simp [Value.oneCell']
        case c3 => omega
        case c4 => exact hs5
        case c5 =>
          intro v' w5 hown' hb5 hs6
          have HO' : Hid (w5.ownsRow w.heap.size 51 2 v' (keptM (ms.take (k + 1)) x).length (mcells (keptM (ms.take (k + 1)) x))) := hid (by
            rw [HS.out, List.length_append, HM.out]
            unfold mcells at *
            rw [List.flatMap_append]
            exact hown')
          clear hown'
          go_wp2
          go_roundg (gk - 1)
          case measure => have := HK.out; omega
          case rel => exact ⟨k + 1, by have := HK.out; omega, by go_num, HO'.out, (step hbx hb12).trans hb5⟩
    · have e := HK.out
      obtain rfl : n = k := by omega
      rw [List.take_of_length_le (by rw [HL.out]; exact Nat.le_refl _)] at hown
      have HO := hid hown
      clear hown e
      go_wp2
      go_ret
      exact ⟨_, rfl, HO.out, hb⟩
end Go.Proofs.Ytbfhppafffhlkaa
