/- MountTurns: the document's mounts, a turn, and the walk of the law (put together by merge.py). -/
import Derived.Test.YtbfhppafffhlkaaMountPlain2
import Derived.Test.YtbfhppafffhlkaaPathRef4
import Derived.Test.YtbfhppafffhlkaaMount10
import Derived.Laws.StructEq
import Derived.Deep.DeepCutAuto
import Derived.Deep.CutBlock
import Derived.Test.YtbfhppafffhlkaaMount14
import Derived.Test.YtbfhppafffhlkaaMountOnceWalk
namespace Go.Proofs.Ytbfhppafffhlkaa
open Go.RowKit
open Go.Proofs
set_option linter.unusedVariables false

def ofN (ms : List (Nat × Nat)) (x : Nat) : Nat := match ms.find? (fun p => decide (p.1 = x)) with | some p => p.2 | none => 0

set_option maxRecDepth 100000 in
theorem rmOf_any (ms : List (Nat × Nat)) (a : Option Addr) (n cap nx x : Nat) (w : World) (hl : ms.length = n) (hok : mok ms) (hn : n ≤ 1000) (h : Leads w a n cap (mcells ms)) :
    Calls Try.prog 36 #[.agg #[.slice a n cap, .int .u64 (nx : Nat)], .int .u64 (x : Nat)] w (Ret (.int .u64 ((ofN ms x : Nat) : Int)) w) := by
  obtain ⟨w1, hw1, hb1, hs1, hl1⟩ := laid w #[.slice a n cap, .int .u64 ((nx : Nat) : Int)] 25
  have hc0 : w1.cell? ⟨w.heap.size, 0, none⟩ = some (.slice a n cap) := cell_laid hl1 rfl
  obtain ⟨R, hR⟩ : ∃ R, ofN ms x = R := ⟨_, rfl⟩
  rw [hR]
  have HR := hid hR
  have H := hid (h.grow hb1)
  have HL := hid hl
  have HOK := hid hok
  have hnc := h.len.1
  clear h hl hok hl1 hs1 hR
  go_enter Try.func36, Try.ntmps36
  go_wp2
  go_loopg [10] n (fun g i wr => ∃ k : Nat, g + k = n ∧ i = .int .i64 (k : Nat) ∧ Hid (∀ (j : Nat) (p : Nat × Nat), j < k → ms[j]? = some p → decide (p.1 = x) = false) ∧ Below w1.heap.size w1 wr)
  case atStart => exact ⟨0, rfl, rfl, hid (fun j p hj => absurd hj (Nat.not_lt_zero j)), Below.refl _ _⟩
  case round =>
    obtain ⟨k, hk, rfl, hno, hb⟩ := hrel
    have HK := hid hk
    clear hk
    by_cases hlt : k < n
    · obtain ⟨⟨p1, p2⟩, hp⟩ : ∃ p, ms[k]? = some p := ⟨_, List.getElem?_eq_getElem (by rw [HL.out]; exact hlt)⟩
      obtain ⟨b, off, rfl, hbl, hc⟩ := H.out.mount hlt hp
      have hc1 := (hc wr hb).1
      have hc2 := (hc wr hb).2
      dsimp only at hc1 hc2
      obtain ⟨wb, hwb, hbb, hsb, hlb⟩ := laid wr #[.int .u64 ((p1 : Nat) : Int), .int .u64 ((p2 : Nat) : Int)] 51
      have hx0 := cell_laid hlb (i := 0) rfl
      have hx1 := cell_laid hlb (i := 1) rfl
      have hbw := step hb hbb
      by_cases he : p1 = x
      · have HE : Hid (R = p2) := hid (by
          rw [← HR.out]; unfold ofN
          rw [find_first _ _ (p1, p2) k hp (decide_eq_true he) (fun j y hj hy => hno.out j y hj hy)])
        have q : (((p1 : Nat) : Int) == ((x : Nat) : Int)) = true := by simp; omega
        clear hp hc hlb hsb hno he
        go_wp2
        go_ret
        exact ⟨reti (by rw [HE.out]), step hb1 hbw⟩
      · have q : (((p1 : Nat) : Int) == ((x : Nat) : Int)) = false := by simp; omega
        have HN : Hid (∀ (j : Nat) (p : Nat × Nat), j < k + 1 → ms[j]? = some p → decide (p.1 = x) = false) := hid (by
          intro j p hj hp'
          by_cases e : j = k
          · subst e; rw [hp] at hp'; cases hp'; exact decide_eq_false he
          · exact hno.out j p (by omega) hp')
        clear hp hc hlb hsb hno he
        go_wp2
        go_roundg (gk - 1)
        case measure => have := HK.out; omega
        case rel => exact ⟨k + 1, by have := HK.out; omega, by go_num, HN, hbw⟩
    · have HE : Hid (R = 0) := hid (by
        rw [← HR.out]; unfold ofN
        rw [find_no _ _ (fun j y hj hy => hno.out j y (by have := HK.out; have := HL.out; omega) hy)])
      clear HK hno
      go_wp2
      go_ret
      exact ⟨reti (by rw [HE.out]; rfl), step hb1 hb⟩

set_option maxRecDepth 100000 in
set_option maxHeartbeats 1000000 in
theorem rmUnder_any (ms : List (Nat × Nat)) (a : Option Addr) (n cap nx x : Nat) (w : World) (hl : ms.length = n) (hok : mok ms) (hn : n ≤ 1000) (hx : x < 18446744073709551616) (h : Leads w a n cap (mcells ms)) :
    Calls Try.prog 37 #[.agg #[.slice a n cap, .int .u64 (nx : Nat)], .int .u64 (x : Nat)] w (fun e w' => ∃ v, Words ((belowM ms x).map (·.2)) (fun v => v) w e w' v) := by
  obtain ⟨w1, hw1, hb1, hs1, hl1⟩ := laid w #[.slice a n cap, .int .u64 ((nx : Nat) : Int)] 25
  have hc0 : w1.cell? ⟨w.heap.size, 0, none⟩ = some (.slice a n cap) := cell_laid hl1 rfl
  have H := hid h
  have HL := hid hl
  have HOK := hid hok
  have hnc := h.len.1
  have hw1w : w.heap.size ≤ w1.heap.size := hb1.size
  clear h hl hok hl1 hs1
  go_enter Try.func37, Try.ntmps37
  go_wp2
  go_loopg [5, 11] n (fun g v i wr => ∃ k : Nat, g + k = n ∧ i = .int .i64 (k : Nat) ∧ wr.ownsRow w.heap.size 23 1 v (belowM (ms.take k) x).length (wcells ((belowM (ms.take k) x).map (·.2))) ∧ Below w.heap.size w wr)
  case atStart => exact ⟨0, rfl, rfl, World.ownsRow_nil _ _ _ _, hb1⟩
  case round =>
    obtain ⟨k, hk, rfl, hown, hb⟩ := hrel
    have HK := hid hk
    have hbs := hb.size
    clear hk
    by_cases hlt : k < n
    · obtain ⟨⟨p1, p2⟩, hp⟩ : ∃ p, ms[k]? = some p := ⟨_, List.getElem?_eq_getElem (by rw [HL.out]; exact hlt)⟩
      have hpw := (HOK.out _ (List.mem_of_getElem? hp)).1
      dsimp only at hpw
      obtain ⟨b, off, rfl, hbl, hc⟩ := H.out.mount hlt hp
      have hc1 := (hc wr hb).1
      have hc2 := (hc wr hb).2
      dsimp only at hc1 hc2
      obtain ⟨wb, hwb, hbb, hsb, hlb⟩ := laid wr #[.int .u64 ((p1 : Nat) : Int), .int .u64 ((p2 : Nat) : Int)] 51
      have hx0 := cell_laid hlb (i := 0) rfl
      have hx1 := cell_laid hlb (i := 1) rfl
      have HLB := hid hlb
      have hbw := step hb hbb
      have hA := fun W => rAhead_any x p1 W hx hpw
      have hsn := belowM_snoc ms x k (p1, p2) hp
      dsimp only at hsn
      have hml := belowM_len ms x k
      obtain ⟨m, hm⟩ : ∃ m, (belowM (ms.take k) x).length = m := ⟨_, rfl⟩
      rw [hm] at hown hml
      by_cases hyx : p1 = x
      · rw [if_neg (by simp [hyx]), List.append_nil] at hsn
        have hq : (((p1 : Nat) : Int) != ((x : Nat) : Int)) = false := by simp; omega
        have HO := hid hown
        have HM := hid hm
        have HS := hid hsn
        clear hc hp hA hsn hown hm hlb hsb hyx
        go_wp2
        go_roundg (gk - 1)
        case measure => have := HK.out; omega
        case rel => exact ⟨k + 1, by have := HK.out; omega, by go_num, by rw [HS.out, HM.out]; exact own_grow HO.out hbb, hbw⟩
      · have hq : (((p1 : Nat) : Int) != ((x : Nat) : Int)) = true := by simp; omega
        cases ha : aheadB x p1 with
        | false =>
          rw [ha, Bool.and_false, if_neg (by simp), List.append_nil] at hsn
          rw [ha] at hA
          have HA := hid hA
          have HO := hid hown
          have HM := hid hm
          have HS := hid hsn
          clear hc hp hA hsn hown hm ha hlb hsb hyx
          go_wp2_with fail
          refine (HA.out _).mono ?_
          rintro e w2 ⟨rfl, hb2⟩
          go_wp2
          go_roundg (gk - 1)
          case measure => have := HK.out; omega
          case rel => exact ⟨k + 1, by have := HK.out; omega, by go_num, by rw [HS.out, HM.out]; exact own_grow (own_grow HO.out hbb) hb2, step hbw hb2⟩
        | true =>
          rw [ha, Bool.and_true, if_pos (by simpa using hyx)] at hsn
          rw [ha] at hA
          have HA := hid hA
          have HO := hid hown
          have HM := hid hm
          have HS := hid hsn
          clear hc hp hA hsn hown hm ha hlb hsb hyx
          go_wp2_with fail
          refine (HA.out _).mono ?_
          rintro e w2 ⟨rfl, hb2⟩
          have hy0 := cell_laid (keep_laid HLB.out hb2) (i := 0) rfl
          have hy1 := cell_laid (keep_laid HLB.out hb2) (i := 1) rfl
          obtain ⟨w3, hw3, hb3, hs3, hl3⟩ := laid w2 #[.int .u64 ((p2 : Nat) : Int)] 23
          have HL3 := hid hl3
          have hb23 := step hb2 hb3
          have hs5 : w.heap.size ≤ w3.heap.size := by have := hb23.size; have := hbb.size; omega
          clear hl3 hs3
          go_wp2_with ((with_reducible show wpList _ _ _ _ _ _); refine wp_append1 elemWords rfl (.tmp 25) (.tmp 28) rfl w.heap.size u5 m _ rfl (own_grow (own_grow HO.out hbb) hb23) w2.heap.size [.int .u64 ((p2 : Nat) : Int)] rfl rfl ?c1 ?c2 ?c3 ?c4 ?c5)
          case c1 =>
            intro j u hj
            exact cell_laid HL3.out (by simpa using hj)
          case c2 => intro u hu; simp at hu; subst hu; rfl
          case c3 => omega
          case c4 => exact hs5
          case c5 =>
            intro v' w5 hown' hb5 hs6
            have HO' : Hid (w5.ownsRow w.heap.size 23 1 v' (belowM (ms.take (k + 1)) x).length (wcells ((belowM (ms.take (k + 1)) x).map (·.2)))) := hid (by
              rw [HS.out, List.length_append, HM.out, List.map_append]
              unfold wcells at *
              rw [List.map_append]
              exact hown')
            clear hown'
            have hb15 : Below w.heap.size w w5 := (step hbw hb23).trans hb5
            go_wp2
            go_roundg (gk - 1)
            case measure => have := HK.out; omega
            case rel => exact ⟨k + 1, by have := HK.out; omega, by go_num, HO'.out, hb15⟩
    · have e := HK.out
      obtain rfl : n = k := by omega
      rw [List.take_of_length_le (by rw [HL.out]; exact Nat.le_refl _)] at hown
      have HO := hid hown
      clear hown e
      go_wp2
      go_ret
      exact ⟨_, rfl, by rw [List.length_map]; exact HO.out, hb⟩
end Go.Proofs.Ytbfhppafffhlkaa
namespace Go.Proofs.Ytbfhppafffhlkaa
open Go.RowKit
open Go.Proofs
set_option linter.unusedVariables false

theorem neq_mount (a b c d : Int) (w : World) : (binOp .neq 51 (.agg #[.int .u64 a, .int .u64 b]) (.agg #[.int .u64 c, .int .u64 d])).run Try.prog w = .ok (.bool (!(a == c && b == d))) w := by
  have h1 : Try.prog.underlying 51 = some (.struct (Try.prog.fieldsOf 51)) := by kernel_rfl
  have h2 : Try.prog.stoodInHeld 51 = false := by kernel_rfl
  have h3 : Try.prog.underlying 23 = some (.int .u64) := Try.underlying23
  rw [run_neq_struct, run_equalIn_agg w 9999 _ _ _ h1 h2]
  simp only [Program.fieldsOf, Try.underlying51]
  cases hac : (a == c) <;> cases hbd : (b == d) <;> simp [go_sem, Op.eqFields, run_equalIn_int, h3, hac, hbd]
def sameB (ms ms' : List (Nat × Nat)) (nx nx' : Nat) : Bool := decide (nx = nx') && decide (ms = ms')

set_option maxRecDepth 100000 in
set_option maxHeartbeats 1000000 in
theorem rmSame_any (ms ms' : List (Nat × Nat)) (a a' : Option Addr) (n n' cap cap' nx nx' : Nat) (w : World) (hl : ms.length = n) (hl' : ms'.length = n') (hn : n ≤ 1000) (hn' : n' ≤ 1000) (h : Leads w a n cap (mcells ms)) (h' : Leads w a' n' cap' (mcells ms')) :
    Calls Try.prog 15 #[.agg #[.slice a n cap, .int .u64 (nx : Nat)], .agg #[.slice a' n' cap', .int .u64 (nx' : Nat)]] w (Ret (.bool (sameB ms ms' nx nx')) w) := by
  obtain ⟨B, hB⟩ : ∃ B, w.heap.size = B := ⟨_, rfl⟩
  obtain ⟨w1, hw1, hb1, hs1, hl1⟩ := laid w #[.slice a n cap, .int .u64 ((nx : Nat) : Int)] 25
  obtain ⟨w2, hw2, hb2, hs2, hl2⟩ := laid w1 #[.slice a' n' cap', .int .u64 ((nx' : Nat) : Int)] 25
  rw [hB] at hs1 hl1
  rw [hs1] at hs2 hl2
  have L1 := keep_laid hl1 hb2
  have hc0 : w2.cell? ⟨B, 0, none⟩ = some (.slice a n cap) := cell_laid L1 rfl
  have hc1 : w2.cell? ⟨B, 1, none⟩ = some (.int .u64 ((nx : Nat) : Int)) := cell_laid L1 rfl
  have hd0 : w2.cell? ⟨B + 1, 0, none⟩ = some (.slice a' n' cap') := cell_laid hl2 rfl
  have hd1 : w2.cell? ⟨B + 1, 1, none⟩ = some (.int .u64 ((nx' : Nat) : Int)) := cell_laid hl2 rfl
  have hb02 := step hb1 hb2
  have HL1 := hid L1
  have HL2 := hid hl2
  have H := hid (h.grow hb02)
  have H' := hid (h'.grow hb02)
  have HL := hid hl
  have HL' := hid hl'
  have hnc := h.len.1
  have hnc' := h'.len.1
  obtain ⟨R, hR⟩ : ∃ R, sameB ms ms' nx nx' = R := ⟨_, rfl⟩
  rw [hR]
  have HR := hid hR
  clear h h' hl hl' hl1 hl2 L1 hs2 hR
  by_cases e1 : nx = nx'
  · have q1 : (((nx : Nat) : Int) != ((nx' : Nat) : Int)) = false := by simp; omega
    by_cases e2 : n = n'
    · have q2 : (((n : Nat) : Int) != ((n' : Nat) : Int)) = false := by simp; omega
      have HE1 := hid e1
      have HE2 := hid e2
      clear e1 e2
      go_enter Try.func15, Try.ntmps15
      go_wp2
      go_loopg [5, 24] n (fun g _ i wr => ∃ k : Nat, g + k = n ∧ i = .int .i64 (k : Nat) ∧ Hid (ms.take k = ms'.take k) ∧ Below w2.heap.size w2 wr)
      case atStart => exact ⟨0, rfl, rfl, hid rfl, Below.refl _ _⟩
      case round =>
        obtain ⟨k, hk, rfl, hsm, hb⟩ := hrel
        have HK := hid hk
        clear hk
        by_cases hlt : k < n
        · have hlt' : k < n' := by have := HE2.out; omega
          obtain ⟨⟨p1, p2⟩, hp⟩ : ∃ p, ms[k]? = some p := ⟨_, List.getElem?_eq_getElem (by rw [HL.out]; exact hlt)⟩
          obtain ⟨⟨r1, r2⟩, hr⟩ : ∃ p, ms'[k]? = some p := ⟨_, List.getElem?_eq_getElem (by rw [HL'.out]; exact hlt')⟩
          obtain ⟨b, off, rfl, hbl, hc⟩ := H.out.mount hlt hp
          obtain ⟨b', off', rfl, hbl', hc'⟩ := H'.out.mount hlt' hr
          have x0 := (hc wr hb).1
          have x1 := (hc wr hb).2
          dsimp only at x0 x1
          obtain ⟨wb, hwb, hbb, hsb, hlb⟩ := laid wr #[.int .u64 ((p1 : Nat) : Int), .int .u64 ((p2 : Nat) : Int)] 51
          have HLB := hid hlb
          have hbw := step hb hbb
          have f0 : ∀ z : Ext wb, z.v.cell? ⟨wr.heap.size, 0, none⟩ = some (.int .u64 ((p1 : Nat) : Int)) := fun z => cell_laid (keep_laid HLB.out z.b) rfl
          have f1 : ∀ z : Ext wb, z.v.cell? ⟨wr.heap.size, 1, none⟩ = some (.int .u64 ((p2 : Nat) : Int)) := fun z => cell_laid (keep_laid HLB.out z.b) rfl
          have f2 : ∀ z : Ext wb, z.v.cell? ⟨B + 1, 0, none⟩ = some (.slice (some ⟨b', off', none⟩) n' cap') := fun z => cell_laid (keep_laid HL2.out (step hbw z.b)) rfl
          have f3 : ∀ z : Ext wb, z.v.cell? ⟨b', off' + k * 2, none⟩ = some (.int .u64 ((r1 : Nat) : Int)) := fun z => (hc' z.v (step hbw z.b)).1
          have f4 : ∀ z : Ext wb, z.v.cell? ⟨b', off' + k * 2 + 1, none⟩ = some (.int .u64 ((r2 : Nat) : Int)) := fun z => (hc' z.v (step hbw z.b)).2
          by_cases he : p1 = r1 ∧ p2 = r2
          · have q : ∀ W : World, (binOp .neq 51 (.agg #[.int .u64 ((p1 : Nat) : Int), .int .u64 ((p2 : Nat) : Int)]) (.agg #[.int .u64 ((r1 : Nat) : Int), .int .u64 ((r2 : Nat) : Int)])).run Try.prog W = .ok (.bool false) W := fun W => by
              rw [neq_mount, show (((p1 : Nat) : Int) == ((r1 : Nat) : Int) && ((p2 : Nat) : Int) == ((r2 : Nat) : Int)) = true by simp; omega]; rfl
            have HS : Hid (ms.take (k + 1) = ms'.take (k + 1)) := hid (by rw [List.take_add_one, List.take_add_one, hsm.out, hp, hr, he.1, he.2])
            clear hp hr hc hc' hlb hsb he hsm
            go_upto_region 6 with (fail)
            refine wp_region_ext (by kernel_rfl) (by kernel_rfl) ?_
            repeat (go_big_quiet_step (fail))
            refine wpQuiet_nil ?_
            rintro w5 ⟨⟨_, hb5⟩, rfl⟩
            go_wp2
            go_roundg (gk - 1)
            case measure => have := HK.out; omega
            case rel => exact ⟨k + 1, by have := HK.out; omega, by go_num, HS, step hbw hb5⟩
          · have q : ∀ W : World, (binOp .neq 51 (.agg #[.int .u64 ((p1 : Nat) : Int), .int .u64 ((p2 : Nat) : Int)]) (.agg #[.int .u64 ((r1 : Nat) : Int), .int .u64 ((r2 : Nat) : Int)])).run Try.prog W = .ok (.bool true) W := fun W => by
              rw [neq_mount, show (((p1 : Nat) : Int) == ((r1 : Nat) : Int) && ((p2 : Nat) : Int) == ((r2 : Nat) : Int)) = false by rw [Bool.eq_false_iff]; intro h; simp at h; omega]; rfl
            have HE : Hid (R = false) := hid (by
              rw [← HR.out]; unfold sameB
              rw [Bool.and_eq_false_iff]; right
              refine decide_eq_false fun e => he ?_
              rw [e, hr] at hp; cases hp; exact ⟨rfl, rfl⟩)
            clear hp hr hc hc' hlb hsb he hsm
            go_upto_region 6 with (fail)
            refine wp_region_ext (by kernel_rfl) (by kernel_rfl) ?_
            repeat (go_big_quiet_step (fail))
            refine wpQuiet_nil ?_
            rintro w5 ⟨⟨_, hb5⟩, rfl⟩
            go_wp2
            go_ret
            exact ⟨retb HE.out.symm, step hb02 (step hbw hb5)⟩
        · have HE : Hid (R = true) := hid (by
            rw [← HR.out]; unfold sameB
            have h1 := hsm.out
            rw [List.take_of_length_le (by have := HL.out; have := HK.out; omega), List.take_of_length_le (by have := HL'.out; have := HE2.out; have := HK.out; omega)] at h1
            rw [decide_eq_true HE1.out, decide_eq_true h1]; rfl)
          clear HK hsm
          go_wp2
          go_ret
          exact ⟨retb HE.out.symm, step hb02 hb⟩
    · have q2 : (((n : Nat) : Int) != ((n' : Nat) : Int)) = true := by simp; omega
      have HE : Hid (R = false) := hid (by
        rw [← HR.out]; unfold sameB
        rw [Bool.and_eq_false_iff]; right
        refine decide_eq_false fun e => e2 ?_
        rw [← HL.out, ← HL'.out, e])
      clear e1 e2
      go_enter Try.func15, Try.ntmps15
      go_wp2
      go_ret
      exact ⟨retb HE.out.symm, hb02⟩
  · have q1 : (((nx : Nat) : Int) != ((nx' : Nat) : Int)) = true := by simp; omega
    have HE : Hid (R = false) := hid (by
      rw [← HR.out]; unfold sameB
      rw [decide_eq_false e1]; rfl)
    clear e1
    go_enter Try.func15, Try.ntmps15
    go_wp2
    go_ret
    exact ⟨retb HE.out.symm, hb02⟩
end Go.Proofs.Ytbfhppafffhlkaa
namespace Go.Proofs.Ytbfhppafffhlkaa
open Go.RowKit
open Go.Proofs
set_option linter.unusedVariables false

def lastId (a : Nat) : List (Nat × Nat) → Nat
  | [] => a
  | p :: r => lastId p.2 r
theorem lastId_snoc (p : Nat × Nat) : ∀ (l : List (Nat × Nat)) (a : Nat), lastId a (l ++ [p]) = p.2
  | [], _ => rfl
  | q :: r, a => lastId_snoc p r q.2
theorem chkGo_at (nx : Nat) (p : Nat × Nat) : ∀ (l : List (Nat × Nat)) (a : Nat), chkGo nx a (l ++ [p]) = (chkGo nx a l && ((rd p.1).isSome && decide (lastId a l < p.2) && decide (p.2 < nx)))
  | [], a => by simp [chkGo, lastId]; rfl
  | q :: r, a => by
    rw [List.cons_append]
    simp only [chkGo, lastId]
    rw [chkGo_at nx p r q.2]
    simp [Bool.and_assoc]; rfl
theorem chkGo_app (nx : Nat) (s : List (Nat × Nat)) : ∀ (l : List (Nat × Nat)) (a : Nat), chkGo nx a (l ++ s) = true → chkGo nx a l = true
  | [], _, _ => rfl
  | q :: r, a, h => by
    rw [List.cons_append] at h
    simp only [chkGo, Bool.and_eq_true] at h ⊢
    exact ⟨h.1, chkGo_app nx s r q.2 h.2⟩
theorem good_take {ms : List (Nat × Nat)} {nx : Nat} (h : goodM ms nx = true) (k : Nat) : chkGo nx 0 (ms.take k) = true ∧ ((ms.take k).map (·.1)).Nodup := by
  obtain ⟨h1, -, h3, -, -⟩ := good_spec.1 h
  refine ⟨chkGo_app nx (ms.drop k) _ 0 (by rw [List.take_append_drop]; exact h1), ?_⟩
  exact List.Nodup.sublist ((List.take_sublist k ms).map _) h3
/-- Does the mount at k not fit behind those ahead? -/
def badAt (ms : List (Nat × Nat)) (nx k : Nat) (p : Nat × Nat) : Bool := !((rd p.1).isSome && decide (lastId 0 (ms.take k) < p.2) && decide (p.2 < nx))
theorem bad_good {ms : List (Nat × Nat)} {nx k : Nat} {p : Nat × Nat} (hp : ms[k]? = some p) (hb : badAt ms nx k p = true) : goodM ms nx = false := by
  cases h : goodM ms nx with
  | false => rfl
  | true =>
    have h1 := (good_take h (k + 1)).1
    rw [List.take_add_one, hp, Option.toList_some, chkGo_at] at h1
    unfold badAt at hb
    rw [Bool.and_eq_true] at h1
    rw [h1.2] at hb
    cases hb
theorem good_next {ms : List (Nat × Nat)} {nx k : Nat} {p : Nat × Nat} (hp : ms[k]? = some p) (h : chkGo nx 0 (ms.take k) = true) (hb : badAt ms nx k p = false) : chkGo nx 0 (ms.take (k + 1)) = true := by
  rw [List.take_add_one, hp, Option.toList_some, chkGo_at, h]
  unfold badAt at hb
  simpa using hb
theorem last_at {ms : List (Nat × Nat)} {k : Nat} {q : Nat × Nat} (hq : ms[k]? = some q) : lastId 0 (ms.take (k + 1)) = q.2 := by
  rw [List.take_add_one, hq, Option.toList_some, lastId_snoc]

set_option maxRecDepth 100000 in
set_option maxHeartbeats 4000000 in
theorem rmRight_any (ms : List (Nat × Nat)) (a : Option Addr) (n cap nx : Nat) (w : World) (hl : ms.length = n) (hok : mok ms) (hn : n ≤ 1000) (hnx : nx < 18446744073709551616) (h : Leads w a n cap (mcells ms)) :
    Calls Try.prog 9 #[.agg #[.slice a n cap, .int .u64 (nx : Nat)]] w (Ret (.bool (goodM ms nx)) w) := by
  obtain ⟨B, hB⟩ : ∃ B, w.heap.size = B := ⟨_, rfl⟩
  obtain ⟨w1, hw1, hb1, hs1, hl1⟩ := laid w #[.slice a n cap, .int .u64 ((nx : Nat) : Int)] 25
  rw [hB] at hl1
  have hc0 : w1.cell? ⟨B, 0, none⟩ = some (.slice a n cap) := cell_laid hl1 rfl
  have HL1 := hid hl1
  have H := hid (h.grow hb1)
  have HL := hid hl
  have HOK := hid hok
  have hnc := h.len.1
  have hnn := h.1
  have hcm := h.len.2
  obtain ⟨R, hR⟩ : ∃ R, goodM ms nx = R := ⟨_, rfl⟩
  rw [hR]
  have HR := hid hR
  clear h hl hok hl1 hs1 hR
  go_enter Try.func9, Try.ntmps9
  go_wp2
  go_loopg [3, 10, 52] n (fun g _ i _ wr => ∃ k : Nat, g + k = n ∧ i = .int .i64 (k : Nat) ∧ Hid (chkGo nx 0 (ms.take k) = true ∧ ((ms.take k).map (·.1)).Nodup) ∧ Below w1.heap.size w1 wr)
  case atStart => exact ⟨0, rfl, rfl, hid ⟨rfl, List.nodup_nil⟩, Below.refl _ _⟩
  case round =>
    obtain ⟨k, hk, rfl, hgd, hb⟩ := hrel
    have HK := hid hk
    clear hk
    by_cases hlt : k < n
    · obtain ⟨⟨p1, p2⟩, hp⟩ : ∃ p, ms[k]? = some p := ⟨_, List.getElem?_eq_getElem (by rw [HL.out]; exact hlt)⟩
      obtain ⟨hp1, hp2⟩ := HOK.out _ (List.mem_of_getElem? hp)
      dsimp only at hp1 hp2
      obtain ⟨b, off, ea, hbl, hc⟩ := H.out.mount hlt hp
      have x0 := (hc wr hb).1
      have x1 := (hc wr hb).2
      dsimp only at x0 x1
      obtain ⟨wb, hwb, hbb, hsb, hlb⟩ := laid wr #[.int .u64 ((p1 : Nat) : Int), .int .u64 ((p2 : Nat) : Int)] 51
      have HLB := hid hlb
      have hbw := step hb hbb
      have f0 : ∀ z : Ext wb, z.v.cell? ⟨wr.heap.size, 0, none⟩ = some (.int .u64 ((p1 : Nat) : Int)) := fun z => cell_laid (keep_laid HLB.out z.b) rfl
      have f1 : ∀ z : Ext wb, z.v.cell? ⟨wr.heap.size, 1, none⟩ = some (.int .u64 ((p2 : Nat) : Int)) := fun z => cell_laid (keep_laid HLB.out z.b) rfl
      have f2 : ∀ z : Ext wb, z.v.cell? ⟨B, 0, none⟩ = some (.slice a n cap) := fun z => cell_laid (keep_laid HL1.out (step hbw z.b)) rfl
      have f3 : ∀ z : Ext wb, z.v.cell? ⟨B, 1, none⟩ = some (.int .u64 ((nx : Nat) : Int)) := fun z => cell_laid (keep_laid HL1.out (step hbw z.b)) rfl
      have hRg := fun W => rRight_any p1 W hp1
      obtain ⟨bad, hbad⟩ : ∃ bad, badAt ms nx k (p1, p2) = bad := ⟨_, rfl⟩
      have HBAD := hid hbad
      have HP := hid hp
      subst ea
      clear hp hc hlb hsb hbad hbl
      go_upto_region 4 with (fail)
      go_cut [46] (fun t46 ws => t46 = .bool bad ∧ Below wb.heap.size wb ws)
      case first =>
        cases hs : (rd p1).isSome with
        | false =>
          rw [hs] at hRg
          have HRg := hid hRg
          have HBT : Hid (bad = true) := hid (by rw [← HBAD.out]; unfold badAt; rw [hs]; rfl)
          clear hRg hs
          refine wp_region_ext (by kernel_rfl) (by kernel_rfl) ?_
          repeat (go_big_quiet_step ((go_at_call 10; exact ext_of (HRg.out _))))
          refine wpQuiet_nil ?_
          rintro w5 ⟨⟨_, hb5⟩, rfl⟩
          go_wp2
          go_meet
          exact ⟨by rw [HBT.out], hb5⟩
        | true =>
          rw [hs] at hRg
          have HRg := hid hRg
          have HBV : Hid (bad = !(decide (lastId 0 (ms.take k) < p2) && decide (p2 < nx))) := hid (by rw [← HBAD.out]; unfold badAt; rw [hs]; rfl)
          clear hRg hs
          by_cases h1 : p2 = 0
          · have HBT : Hid (bad = true) := hid (by rw [HBV.out, decide_eq_false (by omega)]; rfl)
            have d1 : decide (((p2 : Nat) : Int) < 1) = true := decide_eq_true (by omega)
            clear h1
            refine wp_region_ext (by kernel_rfl) (by kernel_rfl) ?_
            repeat (go_big_quiet_step ((go_at_call 10; exact ext_of (HRg.out _))))
            refine wpQuiet_nil ?_
            rintro w5 ⟨⟨_, hb5⟩, rfl⟩
            go_wp2
            go_meet
            exact ⟨by rw [HBT.out], hb5⟩
          · have d1 : decide (((p2 : Nat) : Int) < 1) = false := decide_eq_false (by omega)
            by_cases h2 : nx ≤ p2
            · have HBT : Hid (bad = true) := hid (by rw [HBV.out, decide_eq_false (show ¬ p2 < nx by omega), Bool.and_false]; rfl)
              have d2 : decide (nx ≤ p2) = true := decide_eq_true (by omega)
              clear h1 h2
              refine wp_region_ext (by kernel_rfl) (by kernel_rfl) ?_
              repeat (go_big_quiet_step ((go_at_call 10; exact ext_of (HRg.out _))))
              refine wpQuiet_nil ?_
              rintro w5 ⟨⟨_, hb5⟩, rfl⟩
              go_wp2
              go_meet
              exact ⟨by rw [HBT.out], hb5⟩
            · have d2 : decide (nx ≤ p2) = false := decide_eq_false (by omega)
              by_cases h3 : k = 0
              · have HBT : Hid (bad = false) := hid (by
                  rw [HBV.out, decide_eq_true (show p2 < nx by omega), h3]
                  show (!(decide (0 < p2) && true)) = false
                  rw [decide_eq_true (show 0 < p2 by omega)]; rfl)
                have d3 : decide (0 < k) = false := decide_eq_false (by omega)
                clear h1 h2 h3
                refine wp_region_ext (by kernel_rfl) (by kernel_rfl) ?_
                repeat (go_big_quiet_step ((go_at_call 10; exact ext_of (HRg.out _))))
                refine wpQuiet_nil ?_
                rintro w5 ⟨⟨_, hb5⟩, rfl⟩
                go_wp2
                go_meet
                exact ⟨by rw [HBT.out], hb5⟩
              · have d3 : decide (0 < k) = true := decide_eq_true (by omega)
                obtain ⟨k1, hk1⟩ : ∃ k1, k = k1 + 1 := ⟨k - 1, by omega⟩
                have hk1n : k1 < n := by omega
                have e38 : ((k : Nat) : Int) - 1 = ((k1 : Nat) : Int) := by omega
                obtain ⟨⟨q1, q2⟩, hq⟩ : ∃ p, ms[k1]? = some p := ⟨_, List.getElem?_eq_getElem (by rw [HL.out]; exact hk1n)⟩
                obtain ⟨b', off', eb, hbl', hc'⟩ := H.out.mount hk1n hq
                cases eb
                have f4 : ∀ z : Ext wb, z.v.cell? ⟨b, off + k1 * 2 + 1, none⟩ = some (.int .u64 ((q2 : Nat) : Int)) := fun z => (hc' z.v (step hbw z.b)).2
                have hq64 := (HOK.out _ (List.mem_of_getElem? hq)).2
                dsimp only at hq64
                have hla : lastId 0 (ms.take k) = q2 := by rw [hk1]; exact last_at hq
                by_cases h4 : p2 ≤ q2
                · have HBT : Hid (bad = true) := hid (by rw [HBV.out, hla, decide_eq_false (show ¬ q2 < p2 by omega)]; rfl)
                  have d4 : decide (p2 ≤ q2) = true := decide_eq_true (by omega)
                  have HK1 := hid hk1
                  clear h1 h2 h3 h4 hk1 hq hc' hla
                  refine wp_region_ext (by kernel_rfl) (by kernel_rfl) ?_
                  repeat (go_big_quiet_step ((go_at_call 10; exact ext_of (HRg.out _))))
                  refine wpQuiet_nil ?_
                  rintro w5 ⟨⟨_, hb5⟩, rfl⟩
                  go_wp2
                  go_meet
                  exact ⟨by rw [HBT.out], hb5⟩
                · have HBT : Hid (bad = false) := hid (by rw [HBV.out, hla, decide_eq_true (show q2 < p2 by omega), decide_eq_true (show p2 < nx by omega)]; rfl)
                  have d4 : decide (p2 ≤ q2) = false := decide_eq_false (by omega)
                  have HK1 := hid hk1
                  clear h1 h2 h3 h4 hk1 hq hc' hla
                  refine wp_region_ext (by kernel_rfl) (by kernel_rfl) ?_
                  repeat (go_big_quiet_step ((go_at_call 10; exact ext_of (HRg.out _))))
                  refine wpQuiet_nil ?_
                  rintro w5 ⟨⟨_, hb5⟩, rfl⟩
                  go_wp2
                  go_meet
                  exact ⟨by rw [HBT.out], hb5⟩
      case rest =>
        obtain ⟨rfl, hbc⟩ := hcut
        have hb1c := step hbw hbc
        cases bad with
        | true =>
          have HE : Hid (R = false) := hid (by rw [← HR.out]; exact bad_good HP.out HBAD.out)
          clear HK hgd HBAD
          go_wp2
          go_ret
          exact ⟨retb HE.out.symm, step hb1 hb1c⟩
        | false =>
          have HGN := hid (good_next HP.out hgd.out.1 HBAD.out)
          have y0 := f2 ⟨_, hbc⟩
          dsimp only at y0
          have kle : (k : Int) ≤ (cap : Int) := by omega
          obtain ⟨G, hG⟩ : ∃ G, G = gk - 1 := ⟨_, rfl⟩
          have HGK := hid hG
          clear hG f0 f1 f2 f3
          go_wp2
          go_loopg [52] k (fun g i wq => ∃ j : Nat, g + j = k ∧ i = .int .i64 (j : Nat) ∧ Hid (∀ (j' : Nat) (q : Nat × Nat), j' < j → ms[j']? = some q → q.1 ≠ p1) ∧ Below wc.heap.size wc wq)
          case atStart => exact ⟨0, rfl, rfl, hid (fun j' q hj => absurd hj (Nat.not_lt_zero j')), Below.refl _ _⟩
          case round =>
            obtain ⟨j, hj, rfl, hno, hbq⟩ := hrel
            have HJ := hid hj
            clear hj
            have hbcr := step hbc hbq
            have z0 := cell_laid (keep_laid HLB.out hbcr) (i := 0) rfl
            by_cases hjk : j < k
            · have hjn : j < n := by omega
              obtain ⟨⟨q1, q2⟩, hq⟩ : ∃ p, ms[j]? = some p := ⟨_, List.getElem?_eq_getElem (by rw [HL.out]; exact hjn)⟩
              obtain ⟨b', off', eb, hbl', hc'⟩ := H.out.mount hjn hq
              cases eb
              have x2 := (hc' wr (step hb1c hbq)).1
              have x3 := (hc' wr (step hb1c hbq)).2
              dsimp only at x2 x3
              obtain ⟨wd, hwd, hbd, hsd, hld⟩ := laid wr #[.int .u64 ((q1 : Nat) : Int), .int .u64 ((q2 : Nat) : Int)] 51
              have u0 := cell_laid (i := 0) hld rfl
              have u1 := cell_laid (i := 1) hld rfl
              have z1 := cell_laid (keep_laid HLB.out (step hbcr hbd)) (i := 0) rfl
              by_cases he : q1 = p1
              · have q : (((q1 : Nat) : Int) == ((p1 : Nat) : Int)) = true := by simp; omega
                have HE : Hid (R = false) := hid (by
                  rw [← HR.out]
                  cases hgg : goodM ms nx with
                  | false => rfl
                  | true =>
                    have h1 := (good_take hgg (k + 1)).2
                    rw [List.take_add_one, HP.out, Option.toList_some, List.map_append, List.nodup_append] at h1
                    exact absurd rfl (h1.2.2 p1 (List.mem_map.2 ⟨(q1, q2), List.mem_of_getElem? (i := j) (by rw [List.getElem?_take, if_pos hjk]; exact hq), he⟩) p1 (by simp)))
                clear HJ hno hq hc' hld hsd he
                go_wp2
                go_ret
                exact ⟨retb HE.out.symm, step hb1 (step (step hb1c hbq) hbd)⟩
              · have q : (((q1 : Nat) : Int) == ((p1 : Nat) : Int)) = false := by simp; omega
                have HN : Hid (∀ (j' : Nat) (q : Nat × Nat), j' < j + 1 → ms[j']? = some q → q.1 ≠ p1) := hid (by
                  intro j' q' hj' hq'
                  by_cases e : j' = j
                  · subst e; rw [hq] at hq'; cases hq'; exact he
                  · exact hno.out j' q' (by omega) hq')
                clear hno hq hc' hld hsd he
                go_wp2
                go_roundg (gk - 1)
                case measure => have := HJ.out; omega
                case rel => exact ⟨j + 1, by have := HJ.out; omega, by go_num, HN, step hbq hbd⟩
            · have HND : Hid (((ms.take (k + 1)).map (·.1)).Nodup) := hid (by
                rw [List.take_add_one, HP.out, Option.toList_some, List.map_append, List.nodup_append]
                refine ⟨hgd.out.2, by simp, ?_⟩
                intro x hx y hy
                simp at hy
                subst hy
                rw [List.mem_map] at hx
                obtain ⟨q, hq, rfl⟩ := hx
                obtain ⟨j', hj', e⟩ := List.getElem_of_mem hq
                rw [List.length_take] at hj'
                have h2 : ms[j']? = some q := by
                  have h3 : (ms.take k)[j']? = some q := by rw [List.getElem?_eq_getElem (by rw [List.length_take]; exact hj'), e]
                  rw [List.getElem?_take, if_pos (by omega)] at h3
                  exact h3
                exact hno.out j' q (by have := HJ.out; omega) h2)
              clear HJ hno z0
              go_wp2
              go_roundg G
              case measure => have := HGK.out; have := HK.out; omega
              case rel => exact ⟨k + 1, by have := HGK.out; have := HK.out; omega, by go_num, hid ⟨HGN.out, HND.out⟩, step hb1c hbq⟩
    · have HGO : Hid (R = (decide (n ≤ 16) && decide (1 ≤ nx) && decide (nx ≤ 1073741825))) := hid (by
        have h1 := hgd.out
        rw [List.take_of_length_le (by have := HL.out; have := HK.out; omega)] at h1
        rw [← HR.out]
        unfold goodM apartM
        rw [h1.1, decide_eq_true h1.2, HL.out]
        simp)
      have y0 := cell_laid (i := 0) (keep_laid HL1.out hb) rfl
      have y1 := cell_laid (i := 1) (keep_laid HL1.out hb) rfl
      clear HK hgd
      by_cases h1 : n ≤ 16
      · by_cases h2 : 1 ≤ nx
        · have HE : Hid (R = decide (((nx : Nat) : Int) ≤ 1073741825)) := hid (by
            rw [HGO.out, decide_eq_true h1, decide_eq_true h2, Bool.eq_iff_iff]; simp; omega)
          have e1 : decide (((n : Nat) : Int) ≤ 16) = true := decide_eq_true (by omega)
          have e2 : decide ((1 : Int) ≤ ((nx : Nat) : Int)) = true := decide_eq_true (by omega)
          clear h1 h2 HGO
          go_wp2
          go_ret
          exact ⟨retb (by rw [HE.out]), step hb1 hb⟩
        · have HE : Hid (R = false) := hid (by rw [HGO.out, decide_eq_false h2]; simp)
          have e1 : decide (((n : Nat) : Int) ≤ 16) = true := decide_eq_true (by omega)
          have e2 : decide ((1 : Int) ≤ ((nx : Nat) : Int)) = false := decide_eq_false (by omega)
          clear h1 h2 HGO
          go_wp2
          go_ret
          exact ⟨retb HE.out.symm, step hb1 hb⟩
      · have HE : Hid (R = false) := hid (by rw [HGO.out, decide_eq_false h1]; simp)
        have e1 : decide (((n : Nat) : Int) ≤ 16) = false := decide_eq_false (by omega)
        clear h1 HGO
        go_wp2
        go_ret
        exact ⟨retb HE.out.symm, step hb1 hb⟩
end Go.Proofs.Ytbfhppafffhlkaa
namespace Go.Proofs.Ytbfhppafffhlkaa
open Go.RowKit
open Go.Proofs
set_option linter.unusedVariables false

def raddE (ms : List (Nat × Nat)) (nx x : Nat) : Int := if ofN ms x = 0 then (if ms.length = 16 ∨ nx = 1073741825 then 6 else 0) else 5
/-- What the document's Add gives. -/
def RAddP (ms : List (Nat × Nat)) (nx x : Nat) (w : World) (e : Ending) (w' : World) : Prop :=
  ∃ v, (if raddE ms nx x = 0 then e = .returned (.tuple #[.agg #[v, .int .u64 ((nx + 1 : Nat) : Int)], .int .u64 ((nx : Nat) : Int), .int .i64 0]) ∧ w'.ownsRow w.heap.size 51 2 v (ms.length + 1) (mcells (ms ++ [(x, nx)])) else e = .returned (.tuple #[.agg #[.slice none 0 0, .int .u64 0], .int .u64 0, .int .i64 (raddE ms nx x)])) ∧ Below w.heap.size w w'
theorem radd_no {ms : List (Nat × Nat)} {nx x : Nat} {w w' : World} {E : Int} (h : raddE ms nx x = E) (hE : E ≠ 0) (hb : Below w.heap.size w w') : RAddP ms nx x w (.returned (.tuple #[.agg #[.slice none 0 0, .int .u64 0], .int .u64 0, .int .i64 E])) w' := by
  refine ⟨.slice none 0 0, ?_, hb⟩
  rw [h, if_neg hE]
theorem radd_result {W : World} {b : Nat} {v0 v1 v5 v6 : Value} {tmps : Array Value} (h : W.heap[b]? = some (.cells #[v0, v1] 25 (0, 0))) (hp : tmps[4]?.getD undef = .pointer (some ⟨b, 0, none⟩)) (h5 : tmps[5]?.getD undef = v5) (h6 : tmps[6]?.getD undef = v6) :
    (results Try.f14 tmps).run Try.prog W = .ok (.tuple #[.agg #[v0, v1], v5, v6]) W := by
  have h0 := cell_laid (i := 0) (v := v0) h rfl
  have h1 := cell_laid (i := 1) (v := v1) h rfl
  simp [results, Try.results14, go_sem, hp, h5, h6, h0, h1]

set_option maxRecDepth 100000 in
set_option maxHeartbeats 2000000 in
theorem rmAdd_any (ms : List (Nat × Nat)) (a : Option Addr) (n cap nx x : Nat) (w : World) (hl : ms.length = n) (hok : mok ms) (hn : n ≤ 1000) (hnx : nx ≤ 1073741825) (hx : x < 18446744073709551616) (h : Leads w a n cap (mcells ms)) :
    Calls Try.prog 14 #[.agg #[.slice a n cap, .int .u64 (nx : Nat)], .int .u64 (x : Nat)] w (RAddP ms nx x w) := by
  obtain ⟨B, hB⟩ : ∃ B, w.heap.size = B := ⟨_, rfl⟩
  obtain ⟨w1, hw1, hb1, hs1, hl1⟩ := laid w #[.slice a n cap, .int .u64 ((nx : Nat) : Int)] 25
  obtain ⟨w2, hw2, hb2, hs2, hl2⟩ := laid w1 #[.slice none 0 0, .int .u64 0] 25
  rw [hB] at hs1 hl1
  rw [hs1] at hs2 hl2
  have L1 := keep_laid hl1 hb2
  have hc0 : w2.cell? ⟨B, 0, none⟩ = some (.slice a n cap) := cell_laid L1 rfl
  have hc1 : w2.cell? ⟨B, 1, none⟩ = some (.int .u64 ((nx : Nat) : Int)) := cell_laid L1 rfl
  have hb02 := step hb1 hb2
  have HL1 := hid L1
  have HL2 := hid hl2
  have hO := rmOf_any ms a n cap nx x w2 hl hok hn (h.grow hb02)
  have H := hid (h.grow hb02)
  have HL := hid hl
  have hnc := h.len.1
  have hsz2 : B + 2 ≤ w2.heap.size := by omega
  have hwB : w.heap.size ≤ B := by omega
  have H1 := hid (one_mounts ms)
  obtain ⟨o, ho⟩ : ∃ o, ofN ms x = o := ⟨_, rfl⟩
  rw [ho] at hO
  have HO := hid hO
  clear hl1 hl2 L1 hs2 hO h hl hok
  by_cases h0 : o = 0
  · have q0 : (((o : Nat) : Int) != 0) = false := by simp; omega
    by_cases hf : n = 16 ∨ nx = 1073741825
    · have HE : Hid (raddE ms nx x = 6) := hid (by unfold raddE; rw [ho, if_pos h0, HL.out, if_pos hf])
      by_cases h16 : n = 16
      · have q1 : (((n : Nat) : Int) == 16) = true := by simp; omega
        clear ho h0 hf h16
        go_enter Try.func14, Try.ntmps14
        go_wp2_with fail
        refine HO.out.mono ?_
        rintro e w5 ⟨rfl, hb5⟩
        have k0 : w5.cell? ⟨B, 0, none⟩ = some (.slice a n cap) := cell_laid (keep_laid HL1.out hb5) rfl
        have k1 : w5.cell? ⟨B, 1, none⟩ = some (.int .u64 ((nx : Nat) : Int)) := cell_laid (keep_laid HL1.out hb5) rfl
        have k3 := keep_laid HL2.out hb5
        have hf0 := free_laid (i := 0) k3
        have hf1 := free_laid (i := 1) k3
        have hd0 := cell_laid (i := 0) k3 rfl
        have hd1 := cell_laid (i := 1) k3 rfl
        have HEND := hid (set_laid (i := 1) (set_laid (i := 0) k3 (.slice none 0 0)) (.int .u64 0))
        have HBF := hid (((step hb02 hb5).setCell (p := ⟨B + 1, 0, none⟩) (by show w.heap.size ≤ B + 1; omega) (.slice none 0 0)).setCell (p := ⟨B + 1, 1, none⟩) (by show w.heap.size ≤ B + 1; omega) (.int .u64 0))
        clear k3
        go_wp2
        refine bodyPost_ret (radd_result HEND.out rfl rfl rfl) rfl (radd_no HE.out (by decide) HBF.out)
      · have q1 : (((n : Nat) : Int) == 16) = false := by simp; omega
        have q2 : (((nx : Nat) : Int) == 1073741825) = true := by simp; omega
        clear ho h0 hf h16
        go_enter Try.func14, Try.ntmps14
        go_wp2_with fail
        refine HO.out.mono ?_
        rintro e w5 ⟨rfl, hb5⟩
        have k0 : w5.cell? ⟨B, 0, none⟩ = some (.slice a n cap) := cell_laid (keep_laid HL1.out hb5) rfl
        have k1 : w5.cell? ⟨B, 1, none⟩ = some (.int .u64 ((nx : Nat) : Int)) := cell_laid (keep_laid HL1.out hb5) rfl
        have k3 := keep_laid HL2.out hb5
        have hf0 := free_laid (i := 0) k3
        have hf1 := free_laid (i := 1) k3
        have hd0 := cell_laid (i := 0) k3 rfl
        have hd1 := cell_laid (i := 1) k3 rfl
        have HEND := hid (set_laid (i := 1) (set_laid (i := 0) k3 (.slice none 0 0)) (.int .u64 0))
        have HBF := hid (((step hb02 hb5).setCell (p := ⟨B + 1, 0, none⟩) (by show w.heap.size ≤ B + 1; omega) (.slice none 0 0)).setCell (p := ⟨B + 1, 1, none⟩) (by show w.heap.size ≤ B + 1; omega) (.int .u64 0))
        clear k3
        go_wp2
        refine bodyPost_ret (radd_result HEND.out rfl rfl rfl) rfl (radd_no HE.out (by decide) HBF.out)
    · have q1 : (((n : Nat) : Int) == 16) = false := by simp; omega
      have q2 : (((nx : Nat) : Int) == 1073741825) = false := by simp; omega
      have HE : Hid (raddE ms nx x = 0) := hid (by unfold raddE; rw [ho, if_pos h0, HL.out, if_neg hf])
      clear ho h0 hf
      go_enter Try.func14, Try.ntmps14
      go_wp2_with fail
      refine HO.out.mono ?_
      rintro e w5 ⟨rfl, hb5⟩
      have k0 : w5.cell? ⟨B, 0, none⟩ = some (.slice a n cap) := cell_laid (keep_laid HL1.out hb5) rfl
      have k1 : w5.cell? ⟨B, 1, none⟩ = some (.int .u64 ((nx : Nat) : Int)) := cell_laid (keep_laid HL1.out hb5) rfl
      obtain ⟨w6, hw6, hb6, hs6, hl6⟩ := laid w5 #[] 51
      have hown6 : w6.ownsRow w5.heap.size 51 2 (.slice (some ⟨w5.heap.size, 0, none⟩) 0 0) 0 [] := by rw [← hw6]; exact World.ownsRow_made w5 #[] 0 (Nat.le_refl _) (Nat.zero_le _) (by simp)
      have HO6 := hid hown6
      have j0 : w6.cell? ⟨B, 0, none⟩ = some (.slice a n cap) := cell_laid (keep_laid HL1.out (step hb5 hb6)) rfl
      have hb26 := step hb5 hb6
      have hw5s := hb5.size
      clear hown6 hl6 hs6
      cases a with
      | none =>
        obtain ⟨rfl, hms⟩ : n = 0 ∧ ms = [] := by
          obtain ⟨_, _, ⟨h0, hz⟩ | ⟨b, off, h, _⟩⟩ := H.out
          · subst h0
            exact ⟨rfl, List.eq_nil_of_length_eq_zero HL.out⟩
          · cases h
        have HMS := hid hms
        clear hms
        obtain ⟨w8, hw8, hb8, hs8, hl8⟩ := laid w6 #[.int .u64 ((x : Nat) : Int), .int .u64 ((nx : Nat) : Int)] 51
        have HL8 := hid hl8
        have hs8' : w5.heap.size ≤ w8.heap.size := by have := hb8.size; have := hb6.size; omega
        clear hl8 hs8
        go_wp2_with ((with_reducible show wpList _ _ _ _ _ _); refine wp_append1 elemMounts rfl (.tmp 28) (.tmp 32) rfl w5.heap.size _ 0 [] rfl (own_grow HO6.out hb8) w6.heap.size [.int .u64 ((x : Nat) : Int), .int .u64 ((nx : Nat) : Int)] rfl rfl ?c1 ?c2 ?c3 ?c4 ?c5)
        case c1 =>
          intro j u hj
          exact cell_laid HL8.out (by simpa using hj)
        case c2 => intro u hu; simp at hu; rcases hu with rfl | rfl <;> rfl
        case c3 => omega
        case c4 => exact hs8'
        case c5 =>
          intro v9 w9 hown9 hb9 hs9
          obtain ⟨a', c', rfl, -⟩ := Leads.of_own hown9
          have hb29 : Below w2.heap.size w2 w9 := ((hb26).trans (hb8.mono hb26.size)).trans (hb9.mono hw5s)
          have k3 := keep_laid HL2.out hb29
          have hf0 := free_laid (i := 0) k3
          have hf1 := free_laid (i := 1) k3
          have hd0 := cell_laid (i := 0) k3 rfl
          have hd1 := cell_laid (i := 1) k3 rfl
          obtain ⟨n1, hn1⟩ : ∃ n1, 0 + 1 = n1 := ⟨_, rfl⟩
          obtain ⟨N1, hN1⟩ : ∃ N1 : Nat, nx + 1 = N1 := ⟨_, rfl⟩
          have eN1 : ((nx : Nat) : Int) + 1 = ((N1 : Nat) : Int) := by omega
          have HOWN9 := hid hown9
          have HEND := hid (set_laid (i := 1) (set_laid (i := 0) k3 (.slice a' (0 + 1) c')) (.int .u64 (((nx : Nat) : Int) + 1)))
          have HBF := hid (((step hb02 hb29).setCell (p := ⟨B + 1, 0, none⟩) (by show w.heap.size ≤ B + 1; omega) (.slice a' (0 + 1) c')).setCell (p := ⟨B + 1, 1, none⟩) (by show w.heap.size ≤ B + 1; omega) (.int .u64 (((nx : Nat) : Int) + 1)))
          have hBb : B + 1 < w5.heap.size := by omega
          have HRES : Hid (RAddP ms nx x w (.returned (.tuple #[.agg #[.slice a' (0 + 1) c', .int .u64 (((nx : Nat) : Int) + 1)], .int .u64 ((nx : Nat) : Int), .int .i64 0])) ((w9.setCell ⟨B + 1, 0, none⟩ (.slice a' (0 + 1) c')).setCell ⟨B + 1, 1, none⟩ (.int .u64 (((nx : Nat) : Int) + 1)))) := hid (by
            refine ⟨.slice a' (0 + 1) c', ?_, HBF.out⟩
            rw [if_pos HE.out, HL.out]
            refine ⟨by go_num, ?_⟩
            have hq := own_base (ownsRow_setCell_below (a := ⟨B + 1, 1, none⟩) (ownsRow_setCell_below (a := ⟨B + 1, 0, none⟩) HOWN9.out hBb (.slice a' (0 + 1) c')) hBb (.int .u64 (((nx : Nat) : Int) + 1))) (show w.heap.size ≤ w5.heap.size by omega)
            unfold mcells at *
            rw [List.flatMap_append]
            rw [HMS.out]
            exact hq)
          clear hown9 k3 hn1 hN1 eN1
          go_wp2
          refine bodyPost_ret (radd_result HEND.out rfl rfl rfl) rfl HRES.out
      | some ad =>
        have HC := hid (show ∀ j u, (mcells ms)[j]? = some u → w6.cell? (ad.add j) = some u by
          obtain ⟨_, _, ⟨_, hz⟩ | ⟨b, off, h, _, h5⟩⟩ := H.out.grow hb26
          · intro j u hj; rw [hz] at hj; cases hj
          · cases h
            intro j u hj
            have := h5 j u hj
            rcases j with _ | j
            · simpa [Addr.add] using this
            · simpa [Addr.add] using this)
        go_wp2_with (at_builtin; refine wp_appendN elemMounts rfl (.tmp 25) (.tmp 27) rfl w5.heap.size _ 0 [] rfl HO6.out ad n cap (mcells ms) rfl ?qc1 ?qc2 ?qc3 ?qc4 ?qc5 ?_)
        case qc1 => rw [mcells_len, HL.out]
        case qc2 => exact fun j u hj => HC.out j u hj
        case qc3 => exact H1.out
        case qc4 => omega
        case qc5 => exact hb6.size
        intro v7 w7 hown7 hb7 hs7
        have hown7 : w7.ownsRow w5.heap.size 51 2 v7 n (mcells ms) := by simpa using hown7
        obtain ⟨a7, c7, rfl, -⟩ := Leads.of_own hown7
        have HO7 := hid hown7
        have hb27 : Below w2.heap.size w2 w7 := hb26.trans (hb7.mono hw5s)
        clear hown7
        obtain ⟨w8, hw8, hb8, hs8, hl8⟩ := laid w7 #[.int .u64 ((x : Nat) : Int), .int .u64 ((nx : Nat) : Int)] 51
        have HL8 := hid hl8
        have hs8' : w5.heap.size ≤ w8.heap.size := by have := hb8.size; have := hb6.size; omega
        clear hl8 hs8
        go_wp2_with ((with_reducible show wpList _ _ _ _ _ _); refine wp_append1 elemMounts rfl (.tmp 28) (.tmp 32) rfl w5.heap.size _ n (mcells ms) rfl (own_grow HO7.out hb8) w7.heap.size [.int .u64 ((x : Nat) : Int), .int .u64 ((nx : Nat) : Int)] rfl rfl ?c1 ?c2 ?c3 ?c4 ?c5)
        case c1 =>
          intro j u hj
          exact cell_laid HL8.out (by simpa using hj)
        case c2 => intro u hu; simp at hu; rcases hu with rfl | rfl <;> rfl
        case c3 => omega
        case c4 => exact hs8'
        case c5 =>
          intro v9 w9 hown9 hb9 hs9
          obtain ⟨a', c', rfl, -⟩ := Leads.of_own hown9
          have hb29 : Below w2.heap.size w2 w9 := ((hb27).trans (hb8.mono hb27.size)).trans (hb9.mono hw5s)
          have k3 := keep_laid HL2.out hb29
          have hf0 := free_laid (i := 0) k3
          have hf1 := free_laid (i := 1) k3
          have hd0 := cell_laid (i := 0) k3 rfl
          have hd1 := cell_laid (i := 1) k3 rfl
          obtain ⟨n1, hn1⟩ : ∃ n1, n + 1 = n1 := ⟨_, rfl⟩
          obtain ⟨N1, hN1⟩ : ∃ N1 : Nat, nx + 1 = N1 := ⟨_, rfl⟩
          have eN1 : ((nx : Nat) : Int) + 1 = ((N1 : Nat) : Int) := by omega
          have HOWN9 := hid hown9
          have HEND := hid (set_laid (i := 1) (set_laid (i := 0) k3 (.slice a' (n + 1) c')) (.int .u64 (((nx : Nat) : Int) + 1)))
          have HBF := hid (((step hb02 hb29).setCell (p := ⟨B + 1, 0, none⟩) (by show w.heap.size ≤ B + 1; omega) (.slice a' (n + 1) c')).setCell (p := ⟨B + 1, 1, none⟩) (by show w.heap.size ≤ B + 1; omega) (.int .u64 (((nx : Nat) : Int) + 1)))
          have hBb : B + 1 < w5.heap.size := by omega
          have HRES : Hid (RAddP ms nx x w (.returned (.tuple #[.agg #[.slice a' (n + 1) c', .int .u64 (((nx : Nat) : Int) + 1)], .int .u64 ((nx : Nat) : Int), .int .i64 0])) ((w9.setCell ⟨B + 1, 0, none⟩ (.slice a' (n + 1) c')).setCell ⟨B + 1, 1, none⟩ (.int .u64 (((nx : Nat) : Int) + 1)))) := hid (by
            refine ⟨.slice a' (n + 1) c', ?_, HBF.out⟩
            rw [if_pos HE.out, HL.out]
            refine ⟨by go_num, ?_⟩
            have hq := own_base (ownsRow_setCell_below (a := ⟨B + 1, 1, none⟩) (ownsRow_setCell_below (a := ⟨B + 1, 0, none⟩) HOWN9.out hBb (.slice a' (n + 1) c')) hBb (.int .u64 (((nx : Nat) : Int) + 1))) (show w.heap.size ≤ w5.heap.size by omega)
            unfold mcells at *
            rw [List.flatMap_append]
            exact hq)
          clear hown9 k3 hn1 hN1 eN1
          go_wp2
          refine bodyPost_ret (radd_result HEND.out rfl rfl rfl) rfl HRES.out
  · have q0 : (((o : Nat) : Int) != 0) = true := by simp; omega
    have HE : Hid (raddE ms nx x = 5) := hid (by unfold raddE; rw [ho, if_neg h0])
    clear ho h0
    go_enter Try.func14, Try.ntmps14
    go_wp2_with fail
    refine HO.out.mono ?_
    rintro e w5 ⟨rfl, hb5⟩
    have k3 := keep_laid HL2.out hb5
    have hf0 := free_laid (i := 0) k3
    have hf1 := free_laid (i := 1) k3
    have hd0 := cell_laid (i := 0) k3 rfl
    have hd1 := cell_laid (i := 1) k3 rfl
    have HEND := hid (set_laid (i := 1) (set_laid (i := 0) k3 (.slice none 0 0)) (.int .u64 0))
    have HBF := hid (((step hb02 hb5).setCell (p := ⟨B + 1, 0, none⟩) (by show w.heap.size ≤ B + 1; omega) (.slice none 0 0)).setCell (p := ⟨B + 1, 1, none⟩) (by show w.heap.size ≤ B + 1; omega) (.int .u64 0))
    clear k3
    go_wp2
    refine bodyPost_ret (radd_result HEND.out rfl rfl rfl) rfl (radd_no HE.out (by decide) HBF.out)
end Go.Proofs.Ytbfhppafffhlkaa
namespace Go.Proofs.Ytbfhppafffhlkaa
open Go.RowKit
open Go.Proofs
set_option linter.unusedVariables false

def rdropE (ms : List (Nat × Nat)) (x : Nat) : Int := if ofN ms x = 0 then 4 else if belowM ms x = [] then 0 else 341
/-- What the document's Drop gives. -/
def RDropP (ms : List (Nat × Nat)) (nx x : Nat) (w : World) (e : Ending) (w' : World) : Prop :=
  ∃ v, (if rdropE ms x = 0 then e = .returned (.tuple #[.agg #[v, .int .u64 ((nx : Nat) : Int)], .int .i64 0]) ∧ w'.ownsRow w.heap.size 51 2 v (keptM ms x).length (mcells (keptM ms x)) else e = .returned (.tuple #[.agg #[.slice none 0 0, .int .u64 0], .int .i64 (rdropE ms x)])) ∧ Below w.heap.size w w'
theorem rdrop_no {ms : List (Nat × Nat)} {nx x : Nat} {w w' : World} {E : Int} (h : rdropE ms x = E) (hE : E ≠ 0) (hb : Below w.heap.size w w') : RDropP ms nx x w (.returned (.tuple #[.agg #[.slice none 0 0, .int .u64 0], .int .i64 E])) w' := by
  refine ⟨.slice none 0 0, ?_, hb⟩
  rw [h, if_neg hE]
theorem rdrop_result {W : World} {b : Nat} {v0 v1 v5 : Value} {tmps : Array Value} (h : W.heap[b]? = some (.cells #[v0, v1] 25 (0, 0))) (hp : tmps[4]?.getD undef = .pointer (some ⟨b, 0, none⟩)) (h5 : tmps[5]?.getD undef = v5) :
    (results Try.f12 tmps).run Try.prog W = .ok (.tuple #[.agg #[v0, v1], v5]) W := by
  have h0 := cell_laid (i := 0) (v := v0) h rfl
  have h1 := cell_laid (i := 1) (v := v1) h rfl
  simp [results, Try.results12, go_sem, hp, h5, h0, h1]

/-- What the loop has made. -/
structure RDropJ (B E : Nat) (ms : List (Nat × Nat)) (nx x k : Nat) (va : Option Addr) (m vc : Nat) (w W : World) : Prop where
  out : W.heap[B + 1]? = some (.cells #[.slice none 0 0, .int .u64 0] 25 (0, 0))
  blk : W.heap[E]? = some (.cells #[.slice va m vc, .int .u64 ((nx : Nat) : Int)] 25 (0, 0))
  row : W.ownsRow (E + 1) 51 2 (.slice va m vc) m (mcells (keptM (ms.take k) x))
  len : (keptM (ms.take k) x).length = m
  below : Below w.heap.size w W
  size : E + 1 ≤ W.heap.size

set_option maxRecDepth 100000 in
set_option maxHeartbeats 2000000 in
theorem rmDrop_any (ms : List (Nat × Nat)) (a : Option Addr) (n cap nx x : Nat) (w : World) (hl : ms.length = n) (hok : mok ms) (hn : n ≤ 1000) (hx : x < 18446744073709551616) (h : Leads w a n cap (mcells ms)) :
    Calls Try.prog 12 #[.agg #[.slice a n cap, .int .u64 (nx : Nat)], .int .u64 (x : Nat)] w (RDropP ms nx x w) := by
  obtain ⟨B, hB⟩ : ∃ B, w.heap.size = B := ⟨_, rfl⟩
  obtain ⟨w1, hw1, hb1, hs1, hl1⟩ := laid w #[.slice a n cap, .int .u64 ((nx : Nat) : Int)] 25
  obtain ⟨w2, hw2, hb2, hs2, hl2⟩ := laid w1 #[.slice none 0 0, .int .u64 0] 25
  rw [hB] at hs1 hl1
  rw [hs1] at hs2 hl2
  have L1 := keep_laid hl1 hb2
  have hc0 : w2.cell? ⟨B, 0, none⟩ = some (.slice a n cap) := cell_laid L1 rfl
  have hc1 : w2.cell? ⟨B, 1, none⟩ = some (.int .u64 ((nx : Nat) : Int)) := cell_laid L1 rfl
  have hb02 := step hb1 hb2
  have HL1 := hid L1
  have HL2 := hid hl2
  have hO := rmOf_any ms a n cap nx x w2 hl hok hn (h.grow hb02)
  have HU := hid fun W (hW : Below w2.heap.size w2 W) => rmUnder_any ms a n cap nx x W hl hok hn hx (h.grow (step hb02 hW))
  have H := hid h
  have HL := hid hl
  have hnc := h.len.1
  have hsz2 : B + 2 ≤ w2.heap.size := by omega
  have hwB : w.heap.size ≤ B := by omega
  obtain ⟨o, ho⟩ : ∃ o, ofN ms x = o := ⟨_, rfl⟩
  rw [ho] at hO
  have HO := hid hO
  clear hl1 hl2 L1 hs2 hO h hl hok
  by_cases h0 : o = 0
  · have q0 : (((o : Nat) : Int) == 0) = true := by simp; omega
    have HE : Hid (rdropE ms x = 4) := hid (by unfold rdropE; rw [ho, if_pos h0])
    clear ho h0
    go_enter Try.func12, Try.ntmps12
    go_wp2_with fail
    refine HO.out.mono ?_
    rintro e w5 ⟨rfl, hb5⟩
    have k3 := keep_laid HL2.out hb5
    have hf0 := free_laid (i := 0) k3
    have hf1 := free_laid (i := 1) k3
    have hd0 := cell_laid (i := 0) k3 rfl
    have hd1 := cell_laid (i := 1) k3 rfl
    have HEND := hid (set_laid (i := 1) (set_laid (i := 0) k3 (.slice none 0 0)) (.int .u64 0))
    have HBF := hid (((step hb02 hb5).setCell (p := ⟨B + 1, 0, none⟩) (by show w.heap.size ≤ B + 1; omega) (.slice none 0 0)).setCell (p := ⟨B + 1, 1, none⟩) (by show w.heap.size ≤ B + 1; omega) (.int .u64 0))
    clear k3
    go_wp2
    refine bodyPost_ret (rdrop_result HEND.out rfl rfl) rfl (rdrop_no HE.out (by decide) HBF.out)
  · have q0 : (((o : Nat) : Int) == 0) = false := by simp; omega
    obtain ⟨u, hu⟩ : ∃ u, ((belowM ms x).map (·.2)).length = u := ⟨_, rfl⟩
    have HUL := hid hu
    by_cases hbe : belowM ms x = []
    · have HE : Hid (rdropE ms x = 0) := hid (by unfold rdropE; rw [ho, if_neg h0, if_pos hbe])
      obtain rfl : u = 0 := by rw [← hu, hbe]; rfl
      clear ho h0 hu hbe
      go_enter Try.func12, Try.ntmps12
      go_wp2_with fail
      refine HO.out.mono ?_
      rintro e w5 ⟨rfl, hb5⟩
      have k0 : w5.cell? ⟨B, 0, none⟩ = some (.slice a n cap) := cell_laid (keep_laid HL1.out hb5) rfl
      have k1 : w5.cell? ⟨B, 1, none⟩ = some (.int .u64 ((nx : Nat) : Int)) := cell_laid (keep_laid HL1.out hb5) rfl
      go_wp2_with fail
      refine (HU.out _ hb5).mono ?_
      rintro e w6 ⟨v, rfl, hov, hb6⟩
      rw [HUL.out] at hov
      obtain ⟨av, cv, rfl, hlv⟩ := Leads.of_own hov
      have hlv2 := hlv.len
      have hb26 := step hb5 hb6
      have m0 : w6.cell? ⟨B, 0, none⟩ = some (.slice a n cap) := cell_laid (keep_laid HL1.out hb26) rfl
      have m1 : w6.cell? ⟨B, 1, none⟩ = some (.int .u64 ((nx : Nat) : Int)) := cell_laid (keep_laid HL1.out hb26) rfl
      obtain ⟨E, hE⟩ : ∃ E, w6.heap.size = E := ⟨_, rfl⟩
      obtain ⟨w7, hw7, hb7, hs7, hl7⟩ := laid w6 #[.slice none 0 0, .int .u64 ((nx : Nat) : Int)] 25
      rw [hE] at hs7 hl7
      have hBE : B + 2 ≤ E := by have := hb26.size; omega
      have hb27 := step hb26 hb7
      have HJ0 : Hid (RDropJ B E ms nx x 0 none 0 0 w w7) := hid ⟨keep_laid HL2.out hb27, hl7, World.ownsRow_nil _ _ _ _, rfl, step hb02 hb27, by omega⟩
      have n0 : w7.cell? ⟨B, 0, none⟩ = some (.slice a n cap) := cell_laid (keep_laid HL1.out hb27) rfl
      clear hov hlv hl7 hs7
      go_wp2
      go_loopg [26] n (fun g i wr => ∃ (k m : Nat) (va : Option Addr) (vc : Nat), g + k = n ∧ i = .int .i64 (k : Nat) ∧ Hid (RDropJ B E ms nx x k va m vc w wr))
      case atStart => exact ⟨0, 0, none, 0, rfl, rfl, HJ0⟩
      case round =>
        obtain ⟨k, m, va, vc, hk, rfl, HJ⟩ := hrel
        have HK := hid hk
        clear hk
        by_cases hlt : k < n
        · obtain ⟨⟨p1, p2⟩, hp⟩ : ∃ p, ms[k]? = some p := ⟨_, List.getElem?_eq_getElem (by rw [HL.out]; exact hlt)⟩
          obtain ⟨b, off, ea, hbl, hc⟩ := H.out.mount hlt hp
          have hc1 := (hc wr HJ.out.below).1
          have hc2 := (hc wr HJ.out.below).2
          dsimp only at hc1 hc2
          have hsn := keptM_snoc ms x k (p1, p2) hp
          dsimp only at hsn
          have hml : m ≤ k := by have := keptM_len ms x k; have := HJ.out.len; omega
          obtain ⟨wb, hwb, hbb, hsb, hlb⟩ := laid wr #[.int .u64 ((p1 : Nat) : Int), .int .u64 ((p2 : Nat) : Int)] 51
          have hx0 := cell_laid hlb (i := 0) rfl
          have hx1 := cell_laid hlb (i := 1) rfl
          have HLB := hid hlb
          subst ea
          by_cases he : p1 = x
          · have q : (((p1 : Nat) : Int) != ((x : Nat) : Int)) = false := by simp; omega
            rw [if_neg (by simpa using he), List.append_nil] at hsn
            have HS := hid hsn
            have HJN : Hid (RDropJ B E ms nx x (k + 1) va m vc w wb) := hid ⟨keep_laid HJ.out.out hbb, keep_laid HJ.out.blk hbb, by rw [HS.out]; exact own_grow HJ.out.row hbb, by rw [HS.out]; exact HJ.out.len, step HJ.out.below hbb, by have := HJ.out.size; have := hbb.size; omega⟩
            clear hc hp hsn he hlb hsb hbl
            go_wp2
            go_roundg (gk - 1)
            case measure => have := HK.out; omega
            case rel => exact ⟨k + 1, m, va, vc, by have := HK.out; omega, by go_num, HJN⟩
          · have q : (((p1 : Nat) : Int) != ((x : Nat) : Int)) = true := by simp; omega
            rw [if_pos he] at hsn
            have HS := hid hsn
            have e0 := cell_laid (i := 0) (keep_laid HJ.out.blk hbb) rfl
            have e1 := cell_laid (i := 1) (keep_laid HJ.out.blk hbb) rfl
            obtain ⟨w8, hw8, hb8, hs8, hl8⟩ := laid wb #[.int .u64 ((p1 : Nat) : Int), .int .u64 ((p2 : Nat) : Int)] 51
            have HL8 := hid hl8
            have hbr8 := step hbb hb8
            have hs8' : E + 1 ≤ w8.heap.size := by have := HJ.out.size; have := hbr8.size; omega
            clear hc hp hsn he hlb hsb hbl hl8 hs8
            go_wp2_with ((with_reducible show wpList _ _ _ _ _ _); refine wp_append1 elemMounts rfl (.tmp 35) (.tmp 37) rfl (E + 1) (.slice va m vc) m _ rfl (own_grow HJ.out.row hbr8) wb.heap.size [.int .u64 ((p1 : Nat) : Int), .int .u64 ((p2 : Nat) : Int)] rfl rfl ?c1 ?c2 ?c3 ?c4 ?c5)
            case c1 =>
              intro j u hj
              exact cell_laid HL8.out (by simpa using hj)
            case c2 => first | (intro u hu; simp at hu; rcases hu with rfl | rfl <;> rfl) | simp [Value.oneCell']
            case c3 => omega
            case c4 => exact hs8'
            case c5 =>
              intro v9 w9 hown9 hb9 hs9
              obtain ⟨va', vc', rfl, -⟩ := Leads.of_own hown9
              have hblk : w9.heap[E]? = some (.cells #[.slice va m vc, .int .u64 ((nx : Nat) : Int)] 25 (0, 0)) := (hb9.block E (by omega)).trans (keep_laid HJ.out.blk hbr8)
              have hf0 := free_laid (i := 0) hblk
              have hd0 := cell_laid (i := 0) hblk rfl
              have HJN : Hid (RDropJ B E ms nx x (k + 1) va' (m + 1) vc' w (w9.setCell ⟨E, 0, none⟩ (.slice va' (m + 1) vc'))) := hid
                ⟨other_laid ((hb9.block (B + 1) (by omega)).trans (keep_laid HJ.out.out hbr8)) (by omega) _, set_laid (i := 0) hblk (.slice va' (m + 1) vc'),
                  ownsRow_setCell_below (a := ⟨E, 0, none⟩) (by rw [HS.out]; unfold mcells at *; rw [List.flatMap_append]; exact hown9) (by show E < E + 1; omega) (.slice va' (m + 1) vc'),
                  by rw [HS.out, List.length_append, HJ.out.len]; rfl,
                  ((step HJ.out.below hbr8).trans (hb9.mono (by omega))).setCell (p := ⟨E, 0, none⟩) (by show w.heap.size ≤ E; omega) (.slice va' (m + 1) vc'), by simp only [World.setCell, Array.size_modify]; omega⟩
              clear hown9 hblk
              go_wp2
              go_roundg (gk - 1)
              case measure => have := HK.out; omega
              case rel => exact ⟨k + 1, m + 1, va', vc', by have := HK.out; omega, by go_num, HJN⟩
        · have hke : k = n := by have := HK.out; omega
          subst hke
          have e0 := cell_laid (i := 0) HJ.out.blk rfl
          have e1 := cell_laid (i := 1) HJ.out.blk rfl
          have hf0 := free_laid (i := 0) HJ.out.out
          have hf1 := free_laid (i := 1) HJ.out.out
          have hd0 := cell_laid (i := 0) HJ.out.out rfl
          have hd1 := cell_laid (i := 1) HJ.out.out rfl
          have HEND := hid (set_laid (i := 1) (set_laid (i := 0) HJ.out.out (.slice va m vc)) (.int .u64 ((nx : Nat) : Int)))
          have HBF := hid ((HJ.out.below.setCell (p := ⟨B + 1, 0, none⟩) (by show w.heap.size ≤ B + 1; omega) (.slice va m vc)).setCell (p := ⟨B + 1, 1, none⟩) (by show w.heap.size ≤ B + 1; omega) (.int .u64 ((nx : Nat) : Int)))
          have hBE1 : B + 1 < E + 1 := by omega
          have HRES : Hid (RDropP ms nx x w (.returned (.tuple #[.agg #[.slice va m vc, .int .u64 ((nx : Nat) : Int)], .int .i64 0])) ((wr.setCell ⟨B + 1, 0, none⟩ (.slice va m vc)).setCell ⟨B + 1, 1, none⟩ (.int .u64 ((nx : Nat) : Int)))) := hid (by
            refine ⟨.slice va m vc, ?_, HBF.out⟩
            have h1 := HJ.out.len
            have h2 := own_base (ownsRow_setCell_below (a := ⟨B + 1, 1, none⟩) (ownsRow_setCell_below (a := ⟨B + 1, 0, none⟩) HJ.out.row hBE1 (.slice va m vc)) hBE1 (.int .u64 ((nx : Nat) : Int))) (show w.heap.size ≤ E + 1 by omega)
            rw [List.take_of_length_le (by rw [HL.out]; exact Nat.le_refl _)] at h1 h2
            rw [if_pos HE.out, h1]
            exact ⟨rfl, h2⟩)
          clear HK
          go_wp2
          refine bodyPost_ret (rdrop_result HEND.out rfl rfl) rfl HRES.out
    · have HE : Hid (rdropE ms x = 341) := hid (by unfold rdropE; rw [ho, if_neg h0, if_neg hbe])
      have hu0 : 0 < u := by rw [← hu, List.length_map]; exact List.length_pos_iff.2 hbe
      clear ho h0 hu hbe
      go_enter Try.func12, Try.ntmps12
      go_wp2_with fail
      refine HO.out.mono ?_
      rintro e w5 ⟨rfl, hb5⟩
      have k0 : w5.cell? ⟨B, 0, none⟩ = some (.slice a n cap) := cell_laid (keep_laid HL1.out hb5) rfl
      have k1 : w5.cell? ⟨B, 1, none⟩ = some (.int .u64 ((nx : Nat) : Int)) := cell_laid (keep_laid HL1.out hb5) rfl
      go_wp2_with fail
      refine (HU.out _ hb5).mono ?_
      rintro e w6 ⟨v, rfl, hov, hb6⟩
      rw [HUL.out] at hov
      obtain ⟨av, cv, rfl, hlv⟩ := Leads.of_own hov
      have hlv2 := hlv.len
      have hb26 := step hb5 hb6
      have k3 := keep_laid HL2.out hb26
      have hf0 := free_laid (i := 0) k3
      have hf1 := free_laid (i := 1) k3
      have hd0 := cell_laid (i := 0) k3 rfl
      have hd1 := cell_laid (i := 1) k3 rfl
      have HEND := hid (set_laid (i := 1) (set_laid (i := 0) k3 (.slice none 0 0)) (.int .u64 0))
      have HBF := hid (((step hb02 hb26).setCell (p := ⟨B + 1, 0, none⟩) (by show w.heap.size ≤ B + 1; omega) (.slice none 0 0)).setCell (p := ⟨B + 1, 1, none⟩) (by show w.heap.size ≤ B + 1; omega) (.int .u64 0))
      clear k3 hov hlv
      go_wp2
      refine bodyPost_ret (rdrop_result HEND.out rfl rfl) rfl (rdrop_no HE.out (by decide) HBF.out)
end Go.Proofs.Ytbfhppafffhlkaa
namespace Go.Proofs.Ytbfhppafffhlkaa
open Go.RowKit
open Go.Proofs
set_option linter.unusedVariables false

theorem find_ofN {ms : List (Nat × Nat)} {nx x : Nat} (hg : goodM ms nx = true) : ofN ms x = 0 ↔ hasM ms x = false := by
  unfold ofN hasM
  cases hf : ms.find? (fun p => decide (p.1 = x)) with
  | none =>
    rw [List.find?_eq_none] at hf
    simp only [true_iff]
    rw [List.any_eq_false]
    exact hf
  | some p =>
    have h1 := List.find?_some hf
    have h2 := List.mem_of_find?_eq_some hf
    have h3 := (good_pos hg p h2).1
    constructor
    · intro h; simp only at h; omega
    · intro h
      rw [List.any_eq_false] at h
      exact absurd h1 (h p h2)
theorem radd_add {ms : List (Nat × Nat)} {nx x : Nat} (hg : goodM ms nx = true) (hr : (rd x).isSome = true) : raddE ms nx x = addE ms nx x := by
  have h0 : chk2E ms nx x = 0 := by unfold chk2E pathE; rw [hg, if_pos rfl, if_pos hr]
  have hn := (good_spec.1 hg).2.2.2.2
  unfold raddE addE
  rw [if_pos h0]
  cases hh : hasM ms x with
  | true =>
    rw [if_neg (by rw [find_ofN hg, hh]; simp), if_pos rfl]
  | false =>
    rw [if_pos ((find_ofN hg).2 hh)]
    simp only [Bool.false_eq_true, if_false]
    by_cases h1 : ms.length = 16 ∨ nx = 1073741825
    · rw [if_pos h1, if_pos (by omega)]
    · rw [if_neg h1, if_neg (by omega)]
theorem rdrop_drop {ms : List (Nat × Nat)} {nx x : Nat} (hg : goodM ms nx = true) (hr : (rd x).isSome = true) : rdropE ms x = dropE ms nx x := by
  have h0 : chk2E ms nx x = 0 := by unfold chk2E pathE; rw [hg, if_pos rfl, if_pos hr]
  unfold rdropE dropE
  rw [if_pos h0]
  cases hh : hasM ms x with
  | true => rw [if_neg (by rw [find_ofN hg, hh]; simp), if_pos rfl]
  | false =>
    rw [if_pos ((find_ofN hg).2 hh)]
    simp only [Bool.false_eq_true, if_false]

/-- What a Drop gives. -/
def TD (lg : List (Nat × Nat)) (mg Ng : Nat) (E : Int) (W : World) (e : Ending) (w' : World) : Prop :=
  ∃ (a' : Option Addr) (c' : Nat), e = .returned (.tuple #[.agg #[.slice a' mg c', .int .u64 ((Ng : Nat) : Int)], .int .i64 E]) ∧ w'.ownsRow W.heap.size 51 2 (.slice a' mg c') mg (mcells lg) ∧ Below W.heap.size W w'
/-- What an Add gives. -/
def TA (lg : List (Nat × Nat)) (mg Ng I : Nat) (E : Int) (W : World) (e : Ending) (w' : World) : Prop :=
  ∃ (a' : Option Addr) (c' : Nat), e = .returned (.tuple #[.agg #[.slice a' mg c', .int .u64 ((Ng : Nat) : Int)], .int .u64 ((I : Nat) : Int), .int .i64 E]) ∧ w'.ownsRow W.heap.size 51 2 (.slice a' mg c') mg (mcells lg) ∧ Below W.heap.size W w'
/-- The facts of a turn's outcome. -/
structure TurnF (l : List (Nat × Nat)) (nx x : Nat) (lg : List (Nat × Nat)) (mg Ng I : Nat) (E : Int) : Prop where
  len : lg.length = mg
  ok : mok lg
  good : E = 0 → goodM lg Ng = true ∧ goodM l nx = true
  not : goodM l nx = false → E = 340
  path : goodM l nx = true → (rd x).isSome = false → E = 310
  zero : E ≠ 0 → lg = [] ∧ mg = 0 ∧ Ng = 0 ∧ I = 0
  le : mg ≤ 18
  leN : Ng ≤ 1073741825
theorem chk2_of {l : List (Nat × Nat)} {nx x : Nat} : (goodM l nx = false → chk2E l nx x = 340) ∧ (goodM l nx = true → (rd x).isSome = false → chk2E l nx x = 310) := by
  unfold chk2E pathE
  constructor
  · intro h; rw [h]; rfl
  · intro h h2; rw [h, h2]; rfl
theorem turn_drop (l : List (Nat × Nat)) (m nx x : Nat) (hl : l.length = m) (hok : mok l) (hm : m ≤ 18) (hnx : nx < 18446744073709551616) (hx : x < 18446744073709551616) :
    ∃ (lg : List (Nat × Nat)) (mg Ng : Nat) (E : Int), TurnF l nx x lg mg Ng 0 E ∧
      (∀ (W : World) (a : Option Addr) (c : Nat), Leads W a m c (mcells l) → Calls Try.prog 11 #[.agg #[.slice a m c, .int .u64 (nx : Nat)], .int .u64 (x : Nat)] W (TD lg mg Ng E W)) ∧
      (goodM l nx = true → (rd x).isSome = true → ∀ (W : World) (a : Option Addr) (c : Nat), Leads W a m c (mcells l) → Calls Try.prog 12 #[.agg #[.slice a m c, .int .u64 (nx : Nat)], .int .u64 (x : Nat)] W (TD lg mg Ng E W)) := by
  by_cases hE : dropE l nx x = 0
  · obtain ⟨hg, hr, hh, hb⟩ := drop_good hE
    have hkl := kept_len hg hh
    have hgk := good_kept x hg
    refine ⟨keptM l x, (keptM l x).length, nx, 0, ⟨rfl, kept_ok hok, fun _ => ⟨hgk, hg⟩, fun h => (by rw [hg] at h; cases h), fun _ h => (by rw [hr] at h; cases h), fun h => absurd rfl h, by omega, (good_spec.1 hg).2.2.2.2⟩, ?_, ?_⟩
    · intro W a c h
      refine (mDrop_any l a m c nx x W hl hok (by omega) hnx hx h).mono ?_
      rintro e w' ⟨v, h1, hb⟩
      rw [if_pos hE] at h1
      obtain ⟨rfl, ho⟩ := h1
      obtain ⟨a', c', rfl, -⟩ := Leads.of_own ho
      exact ⟨a', c', rfl, ho, hb⟩
    · intro _ _ W a c h
      refine (rmDrop_any l a m c nx x W hl hok (by omega) hx h).mono ?_
      rintro e w' ⟨v, h1, hb⟩
      rw [if_pos ((rdrop_drop hg hr).trans hE)] at h1
      obtain ⟨rfl, ho⟩ := h1
      obtain ⟨a', c', rfl, -⟩ := Leads.of_own ho
      exact ⟨a', c', rfl, ho, hb⟩
  · refine ⟨[], 0, 0, dropE l nx x, ⟨rfl, (fun p hp => nomatch hp), fun h => absurd h hE, fun h => ?_, fun h1 h2 => ?_, fun _ => ⟨rfl, rfl, rfl, rfl⟩, by omega, by omega⟩, ?_, ?_⟩
    · have h1 := (chk2_of (x := x)).1 h
      unfold dropE; rw [h1, if_neg (by decide)]
    · have h3 := (chk2_of).2 h1 h2
      unfold dropE; rw [h3, if_neg (by decide)]
    · intro W a c h
      refine (mDrop_any l a m c nx x W hl hok (by omega) hnx hx h).mono ?_
      rintro e w' ⟨v, h1, hb⟩
      rw [if_neg hE] at h1
      exact ⟨none, 0, h1, World.ownsRow_nil _ _ _ _, hb⟩
    · intro hg hr W a c h
      refine (rmDrop_any l a m c nx x W hl hok (by omega) hx h).mono ?_
      rintro e w' ⟨v, h1, hb⟩
      rw [if_neg (by rw [rdrop_drop hg hr]; exact hE), rdrop_drop hg hr] at h1
      exact ⟨none, 0, h1, World.ownsRow_nil _ _ _ _, hb⟩
theorem turn_add (l : List (Nat × Nat)) (m nx x : Nat) (hl : l.length = m) (hok : mok l) (hm : m ≤ 18) (hnx : nx < 18446744073709551616) (hx : x < 18446744073709551616) :
    ∃ (lg : List (Nat × Nat)) (mg Ng I : Nat) (E : Int), TurnF l nx x lg mg Ng I E ∧
      (∀ (W : World) (a : Option Addr) (c : Nat), Leads W a m c (mcells l) → Calls Try.prog 13 #[.agg #[.slice a m c, .int .u64 (nx : Nat)], .int .u64 (x : Nat)] W (TA lg mg Ng I E W)) ∧
      (goodM l nx = true → (rd x).isSome = true → ∀ (W : World) (a : Option Addr) (c : Nat), Leads W a m c (mcells l) → Calls Try.prog 14 #[.agg #[.slice a m c, .int .u64 (nx : Nat)], .int .u64 (x : Nat)] W (TA lg mg Ng I E W)) := by
  by_cases hE : addE l nx x = 0
  · obtain ⟨hg', hg, hr, hn⟩ := good_added hE
    have hl16 := (good_spec.1 hg').2.1
    refine ⟨l ++ [(x, nx)], l.length + 1, nx + 1, nx, 0, ⟨by simp, added_ok hok hx hnx, fun _ => ⟨hg', hg⟩, fun h => (by rw [hg] at h; cases h), fun _ h => (by rw [hr] at h; cases h), fun h => absurd rfl h, by simp at hl16; omega, by omega⟩, ?_, ?_⟩
    · intro W a c h
      refine (mAdd_any l a m c nx x W hl hok (by omega) hnx hx h).mono ?_
      rintro e w' ⟨v, h1, hb⟩
      rw [if_pos hE] at h1
      obtain ⟨rfl, ho⟩ := h1
      obtain ⟨a', c', rfl, -⟩ := Leads.of_own ho
      exact ⟨a', c', rfl, ho, hb⟩
    · intro _ _ W a c h
      refine (rmAdd_any l a m c nx x W hl hok (by omega) (by omega) hx h).mono ?_
      rintro e w' ⟨v, h1, hb⟩
      rw [if_pos ((radd_add hg hr).trans hE)] at h1
      obtain ⟨rfl, ho⟩ := h1
      obtain ⟨a', c', rfl, -⟩ := Leads.of_own ho
      exact ⟨a', c', rfl, ho, hb⟩
  · refine ⟨[], 0, 0, 0, addE l nx x, ⟨rfl, (fun p hp => nomatch hp), fun h => absurd h hE, fun h => ?_, fun h1 h2 => ?_, fun _ => ⟨rfl, rfl, rfl, rfl⟩, by omega, by omega⟩, ?_, ?_⟩
    · have h1 := (chk2_of (x := x)).1 h
      unfold addE; rw [h1, if_neg (by decide)]
    · have h3 := (chk2_of).2 h1 h2
      unfold addE; rw [h3, if_neg (by decide)]
    · intro W a c h
      refine (mAdd_any l a m c nx x W hl hok (by omega) hnx hx h).mono ?_
      rintro e w' ⟨v, h1, hb⟩
      rw [if_neg hE] at h1
      exact ⟨none, 0, h1, World.ownsRow_nil _ _ _ _, hb⟩
    · intro hg hr W a c h
      refine (rmAdd_any l a m c nx x W hl hok (by omega) (good_spec.1 hg).2.2.2.2 hx h).mono ?_
      rintro e w' ⟨v, h1, hb⟩
      rw [if_neg (by rw [radd_add hg hr]; exact hE), radd_add hg hr] at h1
      exact ⟨none, 0, h1, World.ownsRow_nil _ _ _ _, hb⟩

theorem grown_set {w w' : World} {g i : Nat} {u : Value} (h : w.grownBy w' (some g)) : w.grownBy (w'.setCell ⟨g, i, none⟩ u) (some g) :=
  ⟨h.os, h.tape, h.output, by simpa [World.setCell] using h.size, fun k hk hne => (Below.heap_setCell w' ⟨g, i, none⟩ u k (fun e => hne (by rw [e]))).trans (h.block k hk hne)⟩
theorem grown_refl (w : World) (r : Option Nat) : w.grownBy w r := ⟨rfl, rfl, rfl, Nat.le_refl _, fun _ _ _ => rfl⟩
theorem grown_weak {w w' : World} {r : Option Nat} (h : w.grownBy w' none) : w.grownBy w' r := ⟨h.os, h.tape, h.output, h.size, fun k hk _ => h.block k hk (by simp)⟩
theorem grown_below {w w1 w' : World} {r : Option Nat} (hb : Below w.heap.size w w1) (h : w1.grownBy w' r) : w.grownBy w' r :=
  ⟨h.os.trans hb.os, h.tape.trans hb.tape, h.output.trans hb.output, Nat.le_trans hb.size h.size, fun k hk hne => (h.block k (Nat.lt_of_lt_of_le hk hb.size) hne).trans (hb.block k hk)⟩

set_option maxRecDepth 100000 in
set_option maxHeartbeats 1000000 in
theorem spoilG_any (a : Option Addr) (n cap base : Nat) (cs0 : List Value) (nx : Int) (w : World) (hn : n ≤ 1000) (hown : w.ownsRow base 51 2 (.slice a n cap) n cs0) (hcs0 : ∀ v ∈ cs0, ∃ z : Int, v = .int .u64 z) :
    Calls Try.prog 16 #[.agg #[.slice a n cap, .int .u64 nx]] w (fun e w' => (∃ v, e = .returned v) ∧ w.grownBy w' (Value.ownBlock (.slice a n cap))) := by
  obtain ⟨B, hB⟩ : ∃ B, w.heap.size = B := ⟨_, rfl⟩
  obtain ⟨w1, hw1, hb1, hs1, hl1⟩ := laid w #[.slice a n cap, .int .u64 nx] 25
  rw [hB] at hl1
  have HL1 := hid hl1
  have hc0 : w1.cell? ⟨B, 0, none⟩ = some (.slice a n cap) := cell_laid hl1 rfl
  have HO := hid (own_grow hown hb1)
  have HC0 := hid hcs0
  have hgB : Hid (∀ g0, a = some ⟨g0, 0, none⟩ → 0 < n → g0 < B) := hid (by
    intro g0 e hpos
    have := own_lt hown g0 (by rw [e]; rfl)
    omega)
  have HG1 := hid (grown_below hb1 (grown_refl w1 (Value.ownBlock (.slice a n cap))))
  clear hown hl1 hs1 hcs0
  go_enter Try.func16, Try.ntmps16
  go_wp2
  go_loopg [2, 6] n (fun g _ i wr => ∃ (j : Nat) (cs : List Value), g + j = n ∧ i = .int .i64 (j : Nat) ∧ wr.ownsRow base 51 2 (.slice a n cap) n cs ∧ Hid (∀ v ∈ cs, ∃ z : Int, v = .int .u64 z) ∧ Hid (wr.heap[B]? = some (.cells #[.slice a n cap, .int .u64 nx] 25 (0, 0))) ∧ Hid (w.grownBy wr (Value.ownBlock (.slice a n cap))))
  case atStart => exact ⟨0, _, rfl, rfl, HO.out, HC0, HL1, HG1⟩
  case round =>
    obtain ⟨j, cs, hj, rfl, hown, hcs, hm, hgr⟩ := hrel
    have HJ := hid hj
    clear hj
    by_cases hjm : j < n
    · have hcl : cs.length = n * 2 := hown.1
      rcases hown.2 with ⟨h, _⟩ | ⟨g0, c, cur, e, hg, hh, -⟩
      · cases h; omega
      cases e
      have hgB2 := hgB.out g0 rfl (by omega)
      have hcj := hown.cellAt (j * 2 + 1) (by omega)
      rw [List.getElem?_eq_getElem (by omega)] at hcj
      have hfr := hown.frozenAt (j * 2 + 1)
      have HST := hid fun z : Int => (hown.stored (j * 2 + 1) (.int .u64 z)).1
      obtain ⟨z, hz⟩ := hcs.out _ (List.getElem_mem (by omega : j * 2 + 1 < cs.length))
      rw [hz] at hcj
      have HCS := hid fun z : Int => ints_set (j * 2 + 1) z hcs.out
      have hcm := cell_laid (i := 0) hm.out rfl
      have hmz := hid fun z : Int => other_laid hm.out (show B ≠ g0 by omega) (i := j * 2 + 1) (.int .u64 z)
      have HGS := hid fun z : Int => grown_set (i := j * 2 + 1) (u := .int .u64 z) hgr.out
      clear hcl hown hh hz hcs
      go_wp2
      go_roundg (gk - 1)
      case measure => have := HJ.out; omega
      case rel => exact ⟨j + 1, _, by have := HJ.out; omega, by go_num, HST.out _, hid (HCS.out _), hid (hmz.out _), hid (HGS.out _)⟩
    · clear HJ hown hcs
      go_wp2
      go_end0
      exact ⟨⟨_, rfl⟩, hgr.out⟩
end Go.Proofs.Ytbfhppafffhlkaa
namespace Go.Proofs.Ytbfhppafffhlkaa
open Go.RowKit
open Go.Proofs
set_option linter.unusedVariables false

theorem sameB_self (l : List (Nat × Nat)) (nx : Nat) : sameB l l nx nx = true := by unfold sameB; simp
theorem Leads.grownR {w w' : World} {a : Option Addr} {n cap : Nat} {cs : List Value} {r : Option Nat} (h : Leads w a n cap cs) (hg : w.grownBy w' r) (hne : ∀ k b off, r = some k → a = some ⟨b, off, none⟩ → b ≠ k) : Leads w' a n cap cs := by
  obtain ⟨h1, h2, h | ⟨b, off, h3, h4, h5⟩⟩ := h
  · exact ⟨h1, h2, .inl h⟩
  · refine ⟨h1, h2, .inr ⟨b, off, h3, Nat.lt_of_lt_of_le h4 hg.size, fun i v hv => ?_⟩⟩
    rw [← h5 i v hv]
    exact World.cell?_of_block (hg.block b h4 (fun e => hne b b off e.symm h3 rfl))
/-- What holds ahead of each round. -/
structure TurnJ (D : Nat) (l : List (Nat × Nat)) (a : Option Addr) (m c nx : Nat) (RG : Bool) (w W : World) : Prop where
  blk : W.heap[D]? = some (.cells #[.slice a m c, .int .u64 ((nx : Nat) : Int)] 25 (0, 0))
  ld : Leads W a m c (mcells l)
  ap : ∀ b off, a = some ⟨b, off, none⟩ → b ≠ D
  len : l.length = m
  ok : mok l
  good : goodM l nx = RG
  below : Below w.heap.size w W
theorem TurnJ.grow {D : Nat} {l : List (Nat × Nat)} {a : Option Addr} {m c nx : Nat} {RG : Bool} {w W W' : World} (h : TurnJ D l a m c nx RG w W) (hb : Below W.heap.size W W') : TurnJ D l a m c nx RG w W' :=
  ⟨keep_laid h.blk hb, h.ld.grow hb, h.ap, h.len, h.ok, h.good, step h.below hb⟩
/-- What both answers are, behind a turn. -/
structure TurnM (G X : Nat) (lg : List (Nat × Nat)) (mg Ng : Nat) (ag : Option Addr) (cg : Nat) (aw : Option Addr) (cw : Nat) (w0 W : World) : Prop where
  got : W.heap[G]? = some (.cells #[.slice ag mg cg, .int .u64 ((Ng : Nat) : Int)] 25 (0, 0))
  want : W.heap[X]? = some (.cells #[.slice aw mg cw, .int .u64 ((Ng : Nat) : Int)] 25 (0, 0))
  row : W.ownsRow w0.heap.size 51 2 (.slice ag mg cg) mg (mcells lg)
  wld : Leads W aw mg cw (mcells lg)
  below : Below w0.heap.size w0 W

set_option maxRecDepth 100000 in
set_option maxHeartbeats 8000000 in
theorem mountTurns.walk (a0 : Option Addr) (cap0 nx0 : Nat) (ms : List (Nat × Nat)) (at0 : Option Addr) (capt : Nat) (ts : List (Bool × Nat)) (w : World) (h0 : Leads w a0 ms.length cap0 (mcells ms)) (ok0 : mok ms) (hnx0 : nx0 < 18446744073709551616) (ht : Leads w at0 ts.length capt (turncells ts)) (okt : turnok ts) :
    Calls Try.prog 3 #[.agg #[.slice a0 ms.length cap0, .int .u64 (nx0 : Nat)], .slice at0 ts.length capt] w (Ret (.bool true) w) := by
  obtain ⟨n0, en0⟩ : ∃ n, ms.length = n := ⟨_, rfl⟩
  rw [en0] at h0 ⊢
  obtain ⟨nt, ent⟩ : ∃ n, ts.length = n := ⟨_, rfl⟩
  rw [ent] at ht ⊢
  obtain ⟨n, hn⟩ : ∃ n : Nat, min (n0 : Int) 18 = (n : Int) := ⟨min n0 18, by omega⟩
  have hn18 : n ≤ 18 := by omega
  obtain ⟨l, hlt⟩ : ∃ l, ms.take n = l := ⟨_, rfl⟩
  have hll : l.length = n := by rw [← hlt, List.length_take, en0]; omega
  have hlk : mok l := fun p hp => ok0 p (List.mem_of_mem_take (hlt ▸ hp))
  obtain ⟨w1, hw1, hb1, hs1, hl1⟩ := laid w #[.slice a0 n0 cap0, .int .u64 ((nx0 : Nat) : Int)] 25
  have HL1 := hid hl1
  have HLL := hid hll
  have HLK := hid hlk
  have HT := hid ht
  have HNT := hid ent
  have HOT := hid okt
  have hntc := ht.len.1
  have HOWN := hid fun W (hW : Below w1.heap.size w1 W) => own_any ms a0 n0 n cap0 nx0 W en0 hn (h0.grow (step hb1 hW))
  rw [hlt] at HOWN
  have hRT := fun W a c h => rmRight_any l a n c nx0 W HLL.out HLK.out (by omega) hnx0 h
  obtain ⟨RG, hRG⟩ : ∃ RG, goodM l nx0 = RG := ⟨_, rfl⟩
  rw [hRG] at hRT
  have HRT := hid hRT
  have HRG := hid hRG
  clear hl1 hll hlk hlt h0 ok0 en0 hs1 hn ht ent okt hRT hRG
  go_enter Try.func3, Try.ntmps3
  go_wp2_with fail
  refine (wakes_any _).mono ?_
  rintro e w2 ⟨rfl, hb2⟩
  have k0 := cell_laid (i := 0) (keep_laid HL1.out hb2) rfl
  have k1 := cell_laid (i := 1) (keep_laid HL1.out hb2) rfl
  go_wp2_with fail
  refine (HOWN.out _ hb2).mono ?_
  rintro e w3 ⟨v, rfl, ho, hb3⟩
  obtain ⟨a1, c1, rfl, hld⟩ := Leads.of_own ho
  obtain ⟨w4, hw4, hb4, hs4, hl4⟩ := laid w3 #[.slice a1 n c1, .int .u64 ((nx0 : Nat) : Int)] 25
  obtain ⟨D, hD⟩ : ∃ D, w3.heap.size = D := ⟨_, rfl⟩
  rw [hD] at hl4 hs4
  have hb14 := step (step (step hb1 hb2) hb3) hb4
  have hwD : w.heap.size ≤ D := by have := (step (step hb1 hb2) hb3).size; omega
  have HJ4 : Hid (TurnJ D l a1 n c1 nx0 RG w w4) := hid ⟨hl4, hld.grow hb4, own_ne_lt ho (by omega), HLL.out, HLK.out, HRG.out, hb14⟩
  have m0 := cell_laid (i := 0) hl4 rfl
  have m1 := cell_laid (i := 1) hl4 rfl
  clear k0 k1 ho hld hl4 hs4 HL1
  go_wp2_with fail
  refine (HRT.out _ _ _ HJ4.out.ld).mono ?_
  rintro e w5 ⟨rfl, hb5⟩
  have HJ5 := hid (HJ4.out.grow hb5)
  clear m0 m1
  go_wp2
  go_loopg [7, 12, 13, 14, 15, 16, 26] nt (fun g _ _ _ _ _ _ i wr => ∃ (q m : Nat) (l : List (Nat × Nat)) (a : Option Addr) (c nx : Nat), g + q = nt ∧ q ≤ 24 ∧ i = .int .i64 (q : Nat) ∧ m ≤ 18 ∧ nx < 18446744073709551616 ∧ Hid (TurnJ D l a m c nx RG w wr))
  case atStart => exact ⟨0, n, l, a1, c1, nx0, rfl, Nat.zero_le _, rfl, hn18, hnx0, HJ5⟩
  case round =>
    obtain ⟨q, m, l, a, c, nx, hq, hq24, rfl, hm18, hnx, HJ⟩ := hrel
    have HQ := hid hq
    clear hq HJ5 HJ4 HRG HLL HLK HRT HOWN hnx0 hn18
    by_cases hlt : q < nt
    · obtain ⟨⟨dr, x⟩, hp⟩ : ∃ p, ts[q]? = some p := ⟨_, List.getElem?_eq_getElem (by rw [HNT.out]; exact hlt)⟩
      have hx := HOT.out _ (List.mem_of_getElem? hp)
      dsimp only at hx
      obtain ⟨tb, toff, eta, hc⟩ := HT.out.turn hlt hp
      have hc1 := (hc wr HJ.out.below).1
      have hc2 := (hc wr HJ.out.below).2
      dsimp only at hc1 hc2
      subst eta
      obtain ⟨TB, hTB⟩ : ∃ TB, wr.heap.size = TB := ⟨_, rfl⟩
      obtain ⟨wb, hwb, hbb, hsb, hlb⟩ := laid wr #[.bool dr, .int .u64 ((x : Nat) : Int)] 31
      rw [hTB] at hlb
      have HLB := hid hlb
      have HJB := hid (HJ.out.grow hbb)
      have b0 := cell_laid (i := 0) HJB.out.blk rfl
      have b1 := cell_laid (i := 1) HJB.out.blk rfl
      clear hp hc hlb hsb
      by_cases h24 : q = 24
      · subst h24
        have hfin := HJB.out.below
        clear HQ
        go_wp2
        go_ret
        exact ⟨rfl, hfin⟩
      · have q24 : (((q : Nat) : Int) == 24) = false := by simp; omega
        have hq23 : q + 1 ≤ 24 := by omega
        have hmin : min ((m : Nat) : Int) 18 = ((m : Nat) : Int) := by omega
        have HOWL := hid fun W a c h => own_any l a m m c nx W HJ.out.len hmin h
        have htk : l.take m = l := List.take_of_length_le (by rw [HJ.out.len]; exact Nat.le_refl _)
        rw [htk] at HOWL
        clear h24 htk
        go_wp2_with fail
        refine (HOWL.out _ _ _ HJB.out.ld).mono ?_
        rintro e wo ⟨v, rfl, ho, hbo⟩
        obtain ⟨aO, cO, rfl, hld⟩ := Leads.of_own ho
        obtain ⟨w0, hw0, hb0, hs0, hl0⟩ := laid wo #[.slice aO m cO, .int .u64 ((nx : Nat) : Int)] 25
        obtain ⟨TW, hTW⟩ : ∃ TW, wo.heap.size = TW := ⟨_, rfl⟩
        rw [hTW] at hl0 hs0
        have hbb0 := step hbo hb0
        have HJ0 := hid (HJB.out.grow hbb0)
        have HTB := hid (keep_laid HLB.out hbb0)
        have HTW := hid hl0
        have HWL := hid (hld.grow hb0)
        obtain ⟨wG, hwG, hbG, hsG, hlG⟩ := laid w0 #[.slice none 0 0, .int .u64 0] 25
        obtain ⟨G, hG⟩ : ∃ G, w0.heap.size = G := ⟨_, rfl⟩
        obtain ⟨wX, hwX, hbX, hsX, hlX⟩ := laid wG #[.slice none 0 0, .int .u64 0] 25
        obtain ⟨X, hX⟩ : ∃ X, wG.heap.size = X := ⟨_, rfl⟩
        rw [hG] at hlG hsG
        rw [hX] at hlX
        have hGX : G < X := by omega
        have hb0X := step hbG hbX
        have HGZ := hid (keep_laid hlG hbX)
        have HXZ := hid hlX
        have hDw0 : D < w0.heap.size := lt_laid HJ0.out.blk
        have hTW0 : TW < w0.heap.size := lt_laid HTW.out
        clear ho hld hl0 hs0 hlG hsG hlX b0 b1 HLB HJB
        obtain ⟨N0, hN0⟩ : ∃ N0 : Int, (if RG then 310 else 340) = N0 := ⟨_, rfl⟩
        obtain ⟨S, hS⟩ : ∃ S, (rd x).isSome = S := ⟨_, rfl⟩
        have HRX := hid fun W => rRight_any x W hx
        rw [hS] at HRX
        have HN0 := hid hN0
        have HS := hid hS
        clear hN0 hS
        go_upto_if 35 with (fail)
        go_cut [15] (fun t15 ws => t15 = .int .i64 N0 ∧ ws = wX)
        case first =>
          cases RG with
          | true =>
            obtain rfl : N0 = 310 := HN0.out.symm
            go_wp2
            go_meet
            exact ⟨rfl, rfl⟩
          | false =>
            obtain rfl : N0 = 340 := HN0.out.symm
            go_wp2
            go_meet
            exact ⟨rfl, rfl⟩
        case rest =>
          obtain ⟨rfl, rfl⟩ := hcut
          have u0 := cell_laid (i := 0) (keep_laid HTB.out hb0X) rfl
          have u1 := cell_laid (i := 1) (keep_laid HTB.out hb0X) rfl
          go_upto_region 16 with (fail)
          go_cut [16] (fun t16 ws => ∃ MAY, (RG && S) = MAY ∧ t16 = .bool MAY ∧ Below wc.heap.size wc ws)
          case first =>
            cases RG with
            | false =>
              go_wp2
              go_meet
              exact ⟨_, rfl, rfl, Below.refl _ _⟩
            | true =>
              go_wp2_with fail
              refine (HRX.out _).mono ?_
              rintro e w6 ⟨rfl, hb6⟩
              go_wp2
              go_meet
              exact ⟨_, rfl, rfl, hb6⟩
          case rest =>
            obtain ⟨MAY, hMAY, rfl, hb6⟩ := hcut
            have HMAY := hid hMAY
            clear hMAY
            have hb06 := step hb0X hb6
            have HG6 := hid (keep_laid HGZ.out hb6)
            have HX6 := hid (keep_laid HXZ.out hb6)
            have t0 := cell_laid (i := 0) (keep_laid HTB.out hb06) rfl
            have t1 := cell_laid (i := 1) (keep_laid HTB.out hb06) rfl
            clear u0 u1 HGZ HXZ hb6 hb0X HRX
            go_upto_if 43 with (fail)
            go_cut [12, 13, 14, 15] (fun t12 t13 t14 t15 ws => ∃ (lg : List (Nat × Nat)) (mg Ng I : Nat) (E : Int) (ag : Option Addr) (cg : Nat) (aw : Option Addr) (cw : Nat), t12 = .int .u64 (I : Nat) ∧ t13 = .int .u64 (I : Nat) ∧ t14 = .int .i64 E ∧ t15 = .int .i64 E ∧ Hid (TurnF l nx x lg mg Ng I E) ∧ TurnM G X lg mg Ng ag cg aw cw w0 ws)
            case first =>
              have d0 := cell_laid (i := 0) (HJ0.out.grow hb06).blk rfl
              have d1 := cell_laid (i := 1) (HJ0.out.grow hb06).blk rfl
              cases dr with
              | true =>
                obtain ⟨lg, mg, Ng, E, hF, hP, hR⟩ := turn_drop l m nx x HJ.out.len HJ.out.ok hm18 hnx hx
                obtain ⟨I, hI⟩ : ∃ I, 0 = I := ⟨_, rfl⟩
                rw [hI] at hF
                have HI := hid hI
                clear hI
                have HF := hid hF
                have HP := hid hP
                have HR := hid hR
                clear hF hP hR
                go_wp2_with fail
                refine (HP.out _ _ _ (HJ0.out.ld.grow hb06)).mono ?_
                rintro e w7 ⟨ag, cg, rfl, hrow, hb7⟩
                have hb07 := step hb06 hb7
                have HROW := hid (own_base hrow (show w0.heap.size ≤ wc.heap.size from hb06.size))
                have HG7 := hid (keep_laid HG6.out hb7)
                have HX7 := hid (keep_laid HX6.out hb7)
                have hf0 := free_laid (i := 0) HG7.out
                have hf1 := free_laid (i := 1) HG7.out
                have hd0 := cell_laid (i := 0) HG7.out rfl
                have hd1 := cell_laid (i := 1) HG7.out rfl
                have hGc : G < wc.heap.size := lt_laid HG6.out
                have hXc : X < wc.heap.size := lt_laid HX6.out
                have HGS := hid (set_laid (i := 1) (set_laid (i := 0) HG7.out (.slice ag mg cg)) (.int .u64 ((Ng : Nat) : Int)))
                have HXS := hid (other_laid (other_laid HX7.out (show X ≠ G by omega) (i := 0) (.slice ag mg cg)) (show X ≠ G by omega) (i := 1) (.int .u64 ((Ng : Nat) : Int)))
                have HRS := hid (ownsRow_setCell_below (a := ⟨G, 1, none⟩) (ownsRow_setCell_below (a := ⟨G, 0, none⟩) hrow hGc (.slice ag mg cg)) hGc (.int .u64 ((Ng : Nat) : Int)))
                have hGw : w0.heap.size ≤ G := by omega
                have HBS := hid ((hb07.setCell (p := ⟨G, 0, none⟩) (by show w0.heap.size ≤ G; exact hGw) (.slice ag mg cg)).setCell (p := ⟨G, 1, none⟩) (by show w0.heap.size ≤ G; exact hGw) (.int .u64 ((Ng : Nat) : Int)))
                obtain ⟨wS, hwS⟩ : ∃ wS, (w7.setCell ⟨G, 0, none⟩ (.slice ag mg cg)).setCell ⟨G, 1, none⟩ (.int .u64 ((Ng : Nat) : Int)) = wS := ⟨_, rfl⟩
                rw [hwS] at HGS HXS HRS HBS
                clear hrow t0 t1 d0 d1
                cases MAY with
                | false =>
                  have hRGS := HMAY.out
                  obtain ⟨rfl, rfl, rfl, rfl, rfl⟩ : E = N0 ∧ lg = [] ∧ mg = 0 ∧ Ng = 0 ∧ I = 0 := by
                    have hE : E = N0 ∧ E ≠ 0 := by
                      rw [← HN0.out]
                      cases hr : RG with
                      | false => have := HF.out.not (by rw [HJ.out.good, hr]); rw [this]; exact ⟨rfl, by decide⟩
                      | true =>
                        rw [hr, Bool.true_and] at hRGS
                        have := HF.out.path (by rw [HJ.out.good, hr]) (by rw [HS.out, hRGS])
                        rw [this]; exact ⟨rfl, by decide⟩
                    exact ⟨hE.1, HF.out.zero hE.2⟩
                  have hwS' : (w7.setCell ⟨G, 0, none⟩ (.slice ag 0 cg)).setCell ⟨G, 1, none⟩ (.int .u64 0) = wS := hwS
                  clear hRGS hwS
                  go_wp2
                  go_meet
                  exact ⟨[], 0, 0, 0, E, ag, cg, none, 0, rfl, rfl, rfl, rfl, HF, HGS.out, HXS.out, own_base HRS.out hb06.size, ⟨Nat.le_refl _, Nat.zero_le _, .inl ⟨rfl, rfl⟩⟩, HBS.out⟩
                | true =>
                  have hrs : RG = true ∧ S = true := by simpa using HMAY.out
                  have HR2 := hid (HR.out (HJ.out.good.trans hrs.1) (HS.out.trans hrs.2))
                  have f0 : ∀ z : Ext w0, z.v.cell? ⟨D, 0, none⟩ = some (.slice a m c) := fun z => cell_laid (keep_laid HJ0.out.blk z.b) rfl
                  have f1 : ∀ z : Ext w0, z.v.cell? ⟨D, 1, none⟩ = some (.int .u64 ((nx : Nat) : Int)) := fun z => cell_laid (keep_laid HJ0.out.blk z.b) rfl
                  have f2 : ∀ z : Ext w0, z.v.cell? ⟨TB, 1, none⟩ = some (.int .u64 ((x : Nat) : Int)) := fun z => cell_laid (keep_laid HTB.out z.b) rfl
                  clear hrs
                  go_upto_region 20 with (fail)
                  refine wp_region_mix2 (fun w' => ∃ z : Ext w0, w' = z.v) 10 (.q 0 (.q 2 (.q 3 (.h 1 (.h 4 (.q 5 (.q 6 (.q 7 (.h 8 (.q 9 (.done))))))))))) (by kernel_rfl) (by kernel_rfl) ⟨⟨_, HBS.out.drew⟩, rfl⟩ ?_
                  repeat (refine wpMix2_q rfl rfl ?_; go_big_quiet_step (fail); refine wpQuiet_nil ?_)
                  refine wpMix2_h rfl fun R' hR' hO => ?_
                  go_wp2_with fail
                  refine (HOWL.out _ _ _ (HJ0.out.ld.grow HBS.out.drew)).mono ?_
                  rintro e w8 ⟨v, rfl, ho8, hb8⟩
                  obtain ⟨a8, c8, rfl, hld8⟩ := Leads.of_own ho8
                  have HLD8 := hid hld8
                  have hS8 : Below wS.heap.size wS w8 := (Below.refl _ _).drew.trans hb8
                  have hb08 : Below w0.heap.size w0 w8 := step HBS.out hS8
                  clear ho8 hld8
                  go_wp2
                  refine hR' _ _ ⟨⟨_, hb08⟩, rfl⟩ ?_
                  refine wpMix2_h rfl fun R' hR' hO => ?_
                  go_wp2_with fail
                  refine (HR2.out _ _ _ HLD8.out).mono ?_
                  rintro e w9 ⟨aw, cw, rfl, hwr, hb9⟩
                  have hS9 := step hS8 hb9
                  have hb09 := step hb08 hb9
                  have HX9 := hid (keep_laid HXS.out hS9)
                  have HG9 := hid (keep_laid HGS.out hS9)
                  have HR9 := hid (own_grow HRS.out hS9)
                  have hX8 : X < w8.heap.size := by have := lt_laid HXS.out; have := hS8.size; omega
                  have HWR := hid (leads_own (ownsRow_setCell_below (a := ⟨X, 1, none⟩) (ownsRow_setCell_below (a := ⟨X, 0, none⟩) hwr hX8 (.slice aw mg cw)) hX8 (.int .u64 ((Ng : Nat) : Int))))
                  have hXw : w0.heap.size ≤ X := by omega
                  have HBE := hid ((hb09.setCell (p := ⟨X, 0, none⟩) (by show w0.heap.size ≤ X; exact hXw) (.slice aw mg cw)).setCell (p := ⟨X, 1, none⟩) (by show w0.heap.size ≤ X; exact hXw) (.int .u64 ((Ng : Nat) : Int)))
                  have HGE := hid (other_laid (other_laid HG9.out (show G ≠ X by omega) (i := 0) (.slice aw mg cw)) (show G ≠ X by omega) (i := 1) (.int .u64 ((Ng : Nat) : Int)))
                  have HXE := hid (set_laid (i := 1) (set_laid (i := 0) HX9.out (.slice aw mg cw)) (.int .u64 ((Ng : Nat) : Int)))
                  have HRE := hid (ownsRow_setCell_below (a := ⟨X, 1, none⟩) (ownsRow_setCell_below (a := ⟨X, 0, none⟩) HR9.out hXc (.slice aw mg cw)) hXc (.int .u64 ((Ng : Nat) : Int)))
                  have hg0 := free_laid (i := 0) HX9.out
                  have hg1 := free_laid (i := 1) HX9.out
                  have he0 := cell_laid (i := 0) HX9.out rfl
                  have he1 := cell_laid (i := 1) HX9.out rfl
                  clear hwr
                  go_wp2
                  refine hR' _ _ ⟨⟨_, hb09⟩, rfl⟩ ?_
                  repeat (refine wpMix2_q rfl rfl ?_; go_big_quiet_step (fail); refine wpQuiet_nil ?_)
                  refine wpMix2_h rfl fun R' hR' hO => ?_
                  go_wp2
                  refine hR' _ _ ⟨⟨_, HBE.out⟩, rfl⟩ ?_
                  repeat (refine wpMix2_q rfl rfl ?_; go_big_quiet_step (fail); refine wpQuiet_nil ?_)
                  refine wpMix2_done ?_
                  simp only [List.drop_succ_cons, List.drop_nil]
                  go_wp2
                  go_meet
                  exact ⟨lg, mg, Ng, I, E, ag, cg, aw, cw, by rw [← HI.out]; rfl, by rw [← HI.out]; rfl, rfl, rfl, HF, HGE.out, HXE.out, own_base HRE.out hb06.size, HWR.out, HBE.out⟩
              | false =>
                obtain ⟨lg, mg, Ng, I, E, hF, hP, hR⟩ := turn_add l m nx x HJ.out.len HJ.out.ok hm18 hnx hx
                have HF := hid hF
                have HP := hid hP
                have HR := hid hR
                clear hF hP hR
                go_wp2_with fail
                refine (HP.out _ _ _ (HJ0.out.ld.grow hb06)).mono ?_
                rintro e w7 ⟨ag, cg, rfl, hrow, hb7⟩
                have hb07 := step hb06 hb7
                have HROW := hid (own_base hrow (show w0.heap.size ≤ wc.heap.size from hb06.size))
                have HG7 := hid (keep_laid HG6.out hb7)
                have HX7 := hid (keep_laid HX6.out hb7)
                have hf0 := free_laid (i := 0) HG7.out
                have hf1 := free_laid (i := 1) HG7.out
                have hd0 := cell_laid (i := 0) HG7.out rfl
                have hd1 := cell_laid (i := 1) HG7.out rfl
                have hGc : G < wc.heap.size := lt_laid HG6.out
                have hXc : X < wc.heap.size := lt_laid HX6.out
                have HGS := hid (set_laid (i := 1) (set_laid (i := 0) HG7.out (.slice ag mg cg)) (.int .u64 ((Ng : Nat) : Int)))
                have HXS := hid (other_laid (other_laid HX7.out (show X ≠ G by omega) (i := 0) (.slice ag mg cg)) (show X ≠ G by omega) (i := 1) (.int .u64 ((Ng : Nat) : Int)))
                have HRS := hid (ownsRow_setCell_below (a := ⟨G, 1, none⟩) (ownsRow_setCell_below (a := ⟨G, 0, none⟩) hrow hGc (.slice ag mg cg)) hGc (.int .u64 ((Ng : Nat) : Int)))
                have hGw : w0.heap.size ≤ G := by omega
                have HBS := hid ((hb07.setCell (p := ⟨G, 0, none⟩) (by show w0.heap.size ≤ G; exact hGw) (.slice ag mg cg)).setCell (p := ⟨G, 1, none⟩) (by show w0.heap.size ≤ G; exact hGw) (.int .u64 ((Ng : Nat) : Int)))
                obtain ⟨wS, hwS⟩ : ∃ wS, (w7.setCell ⟨G, 0, none⟩ (.slice ag mg cg)).setCell ⟨G, 1, none⟩ (.int .u64 ((Ng : Nat) : Int)) = wS := ⟨_, rfl⟩
                rw [hwS] at HGS HXS HRS HBS
                clear hrow t0 t1 d0 d1
                cases MAY with
                | false =>
                  have hRGS := HMAY.out
                  obtain ⟨rfl, rfl, rfl, rfl, rfl⟩ : E = N0 ∧ lg = [] ∧ mg = 0 ∧ Ng = 0 ∧ I = 0 := by
                    have hE : E = N0 ∧ E ≠ 0 := by
                      rw [← HN0.out]
                      cases hr : RG with
                      | false => have := HF.out.not (by rw [HJ.out.good, hr]); rw [this]; exact ⟨rfl, by decide⟩
                      | true =>
                        rw [hr, Bool.true_and] at hRGS
                        have := HF.out.path (by rw [HJ.out.good, hr]) (by rw [HS.out, hRGS])
                        rw [this]; exact ⟨rfl, by decide⟩
                    exact ⟨hE.1, HF.out.zero hE.2⟩
                  have hwS' : (w7.setCell ⟨G, 0, none⟩ (.slice ag 0 cg)).setCell ⟨G, 1, none⟩ (.int .u64 0) = wS := hwS
                  clear hRGS hwS
                  go_wp2
                  go_meet
                  exact ⟨[], 0, 0, 0, E, ag, cg, none, 0, rfl, rfl, rfl, rfl, HF, HGS.out, HXS.out, own_base HRS.out hb06.size, ⟨Nat.le_refl _, Nat.zero_le _, .inl ⟨rfl, rfl⟩⟩, HBS.out⟩
                | true =>
                  have hrs : RG = true ∧ S = true := by simpa using HMAY.out
                  have HR2 := hid (HR.out (HJ.out.good.trans hrs.1) (HS.out.trans hrs.2))
                  have f0 : ∀ z : Ext w0, z.v.cell? ⟨D, 0, none⟩ = some (.slice a m c) := fun z => cell_laid (keep_laid HJ0.out.blk z.b) rfl
                  have f1 : ∀ z : Ext w0, z.v.cell? ⟨D, 1, none⟩ = some (.int .u64 ((nx : Nat) : Int)) := fun z => cell_laid (keep_laid HJ0.out.blk z.b) rfl
                  have f2 : ∀ z : Ext w0, z.v.cell? ⟨TB, 1, none⟩ = some (.int .u64 ((x : Nat) : Int)) := fun z => cell_laid (keep_laid HTB.out z.b) rfl
                  clear hrs
                  go_upto_region 23 with (fail)
                  refine wp_region_mix2 (fun w' => ∃ z : Ext w0, w' = z.v) 12 (.q 0 (.q 2 (.q 3 (.h 1 (.h 4 (.q 5 (.q 6 (.q 7 (.q 8 (.h 9 (.q 10 (.q 11 (.done))))))))))))) (by kernel_rfl) (by kernel_rfl) ⟨⟨_, HBS.out.drew⟩, rfl⟩ ?_
                  repeat (refine wpMix2_q rfl rfl ?_; go_big_quiet_step (fail); refine wpQuiet_nil ?_)
                  refine wpMix2_h rfl fun R' hR' hO => ?_
                  go_wp2_with fail
                  refine (HOWL.out _ _ _ (HJ0.out.ld.grow HBS.out.drew)).mono ?_
                  rintro e w8 ⟨v, rfl, ho8, hb8⟩
                  obtain ⟨a8, c8, rfl, hld8⟩ := Leads.of_own ho8
                  have HLD8 := hid hld8
                  have hS8 : Below wS.heap.size wS w8 := (Below.refl _ _).drew.trans hb8
                  have hb08 : Below w0.heap.size w0 w8 := step HBS.out hS8
                  clear ho8 hld8
                  go_wp2
                  refine hR' _ _ ⟨⟨_, hb08⟩, rfl⟩ ?_
                  refine wpMix2_h rfl fun R' hR' hO => ?_
                  go_wp2_with fail
                  refine (HR2.out _ _ _ HLD8.out).mono ?_
                  rintro e w9 ⟨aw, cw, rfl, hwr, hb9⟩
                  have hS9 := step hS8 hb9
                  have hb09 := step hb08 hb9
                  have HX9 := hid (keep_laid HXS.out hS9)
                  have HG9 := hid (keep_laid HGS.out hS9)
                  have HR9 := hid (own_grow HRS.out hS9)
                  have hX8 : X < w8.heap.size := by have := lt_laid HXS.out; have := hS8.size; omega
                  have HWR := hid (leads_own (ownsRow_setCell_below (a := ⟨X, 1, none⟩) (ownsRow_setCell_below (a := ⟨X, 0, none⟩) hwr hX8 (.slice aw mg cw)) hX8 (.int .u64 ((Ng : Nat) : Int))))
                  have hXw : w0.heap.size ≤ X := by omega
                  have HBE := hid ((hb09.setCell (p := ⟨X, 0, none⟩) (by show w0.heap.size ≤ X; exact hXw) (.slice aw mg cw)).setCell (p := ⟨X, 1, none⟩) (by show w0.heap.size ≤ X; exact hXw) (.int .u64 ((Ng : Nat) : Int)))
                  have HGE := hid (other_laid (other_laid HG9.out (show G ≠ X by omega) (i := 0) (.slice aw mg cw)) (show G ≠ X by omega) (i := 1) (.int .u64 ((Ng : Nat) : Int)))
                  have HXE := hid (set_laid (i := 1) (set_laid (i := 0) HX9.out (.slice aw mg cw)) (.int .u64 ((Ng : Nat) : Int)))
                  have HRE := hid (ownsRow_setCell_below (a := ⟨X, 1, none⟩) (ownsRow_setCell_below (a := ⟨X, 0, none⟩) HR9.out hXc (.slice aw mg cw)) hXc (.int .u64 ((Ng : Nat) : Int)))
                  have hg0 := free_laid (i := 0) HX9.out
                  have hg1 := free_laid (i := 1) HX9.out
                  have he0 := cell_laid (i := 0) HX9.out rfl
                  have he1 := cell_laid (i := 1) HX9.out rfl
                  clear hwr
                  go_wp2
                  refine hR' _ _ ⟨⟨_, hb09⟩, rfl⟩ ?_
                  repeat (refine wpMix2_q rfl rfl ?_; go_big_quiet_step (fail); refine wpQuiet_nil ?_)
                  refine wpMix2_h rfl fun R' hR' hO => ?_
                  go_wp2
                  refine hR' _ _ ⟨⟨_, HBE.out⟩, rfl⟩ ?_
                  repeat (refine wpMix2_q rfl rfl ?_; go_big_quiet_step (fail); refine wpQuiet_nil ?_)
                  refine wpMix2_done ?_
                  simp only [List.drop_succ_cons, List.drop_nil]
                  go_wp2
                  go_meet
                  exact ⟨lg, mg, Ng, I, E, ag, cg, aw, cw, rfl, rfl, rfl, rfl, HF, HGE.out, HXE.out, own_base HRE.out hb06.size, HWR.out, HBE.out⟩
            case rest =>
              obtain ⟨lg, mg, Ng, I, E, ag, cg, aw, cw, rfl, rfl, rfl, rfl, HF, hM⟩ := hcut
              have HM := hid hM
              have g0 := cell_laid (i := 0) hM.got rfl
              have g1 := cell_laid (i := 1) hM.got rfl
              have x0 := cell_laid (i := 0) hM.want rfl
              have x1 := cell_laid (i := 1) hM.want rfl
              have hmg := HF.out.le
              have hNg := HF.out.leN
              have HSM := hid (rmSame_any lg lg ag aw mg mg cg cw Ng Ng wc HF.out.len HF.out.len (by omega) (by omega) (leads_own hM.row) hM.wld)
              rw [sameB_self] at HSM
              have hming : min ((mg : Nat) : Int) 18 = ((mg : Nat) : Int) := by omega
              have HOWG := hid fun W a c h => own_any lg a mg mg c Ng W HF.out.len hming h
              rw [show lg.take mg = lg from List.take_of_length_le (by rw [HF.out.len]; exact Nat.le_refl _)] at HOWG
              clear hM t0 t1
              go_wp2_with fail
              refine HSM.out.mono ?_
              rintro e w7 ⟨rfl, hb7⟩
              have y0 := cell_laid (i := 0) (keep_laid HM.out.got hb7) rfl
              have y1 := cell_laid (i := 1) (keep_laid HM.out.got hb7) rfl
              clear g0 g1 x0 x1
              go_wp2_with fail
              refine (HOWG.out _ _ _ (leads_own (own_grow HM.out.row hb7))).mono ?_
              rintro e w8 ⟨v, rfl, ho8, hb8⟩
              obtain ⟨an, cn, rfl, hld8⟩ := Leads.of_own ho8
              obtain ⟨w9, hw9, hb9, hs9, hl9⟩ := laid w8 #[.slice an mg cn, .int .u64 ((Ng : Nat) : Int)] 25
              obtain ⟨T, hT⟩ : ∃ T, w8.heap.size = T := ⟨_, rfl⟩
              rw [hT] at hl9
              have hb79 := step hb8 hb9
              have hb69 := step hb7 hb79
              have HL9 := hid hl9
              have HLD9 := hid (hld8.grow hb9)
              have HAN : Hid (∀ b off, an = some ⟨b, off, none⟩ → w7.heap.size ≤ b) := hid (fun b off e => (ho8.lt b (by rw [e]; rfl)).1)
              have hTc : wc.heap.size ≤ T := by have := hb7.size; have := hb8.size; omega
              have z0 := cell_laid (i := 0) (keep_laid HM.out.got hb69) rfl
              have z1 := cell_laid (i := 1) (keep_laid HM.out.got hb69) rfl
              have HSP := hid (spoilG_any ag mg cg w0.heap.size (mcells lg) ((Ng : Nat) : Int) w9 (by omega) (own_grow HM.out.row hb69) (mwords_int lg))
              clear y0 y1 ho8 hld8 hl9 hs9
              go_wp2_with fail
              refine HSP.out.mono ?_
              rintro e w10 ⟨⟨v, rfl⟩, hg10⟩
              have HG10 := hid hg10
              have HBK : Hid (∀ k, Value.ownBlock (.slice ag mg cg) = some k → w0.heap.size ≤ k ∧ k < wc.heap.size) := hid (fun k e => HM.out.row.lt k e)
              have hb010 : Below w0.heap.size w0 w10 := ((HM.out.below.trans (hb69.mono HM.out.below.size))).grown hg10 (by have := HM.out.below.size; have := hb69.size; omega) (fun k e => (HBK.out k e).1)
              have HJ10 := hid (HJ0.out.grow hb010)
              have HT10 := hid (keep_grown HL9.out hg10 (fun k e => by have := (HBK.out k e).2; omega))
              have HLD10 := hid (HLD9.out.grownR hg10 (fun k b off e e2 => by have h1 := (HBK.out k e).2; have h2 := HAN.out b off e2; have h3 := hb7.size; omega))
              have HW10 := hid (keep_laid HTW.out hb010)
              have j0 := cell_laid (i := 0) HJ10.out.blk rfl
              have j1 := cell_laid (i := 1) HJ10.out.blk rfl
              have j2 := cell_laid (i := 0) HW10.out rfl
              have j3 := cell_laid (i := 1) HW10.out rfl
              have HSM2 := hid (rmSame_any l l a aO m m c cO nx nx w10 HJ.out.len HJ.out.len (by omega) (by omega) HJ10.out.ld (HWL.out.grow hb010))
              rw [sameB_self] at HSM2
              clear z0 z1 hg10
              go_wp2_with fail
              refine HSM2.out.mono ?_
              rintro e w11 ⟨rfl, hb11⟩
              have HJ11 := hid (HJ10.out.grow hb11)
              clear j0 j1 j2 j3
              by_cases hE : E = 0
              · have HGD := hid (HF.out.good hE)
                subst hE
                have v0 := cell_laid (i := 0) (keep_laid HT10.out hb11) rfl
                have v1 := cell_laid (i := 1) (keep_laid HT10.out hb11) rfl
                have e0 := cell_laid (i := 0) HJ11.out.blk rfl
                have e1 := cell_laid (i := 1) HJ11.out.blk rfl
                have hf0 := free_laid (i := 0) HJ11.out.blk
                have hf1 := free_laid (i := 1) HJ11.out.blk
                have hap : ∀ b off, an = some ⟨b, off, none⟩ → b ≠ D := fun b off e => by have h1 := HAN.out b off e; have h2 := hb7.size; have h3 := HM.out.below.size; omega
                have HJE : Hid (TurnJ D lg an mg cn Ng RG w ((w11.setCell ⟨D, 0, none⟩ (.slice an mg cn)).setCell ⟨D, 1, none⟩ (.int .u64 ((Ng : Nat) : Int)))) := hid
                  ⟨set_laid (i := 1) (set_laid (i := 0) HJ11.out.blk (.slice an mg cn)) (.int .u64 ((Ng : Nat) : Int)), ((HLD10.out.grow hb11).apart_set hap).apart_set hap, hap, HF.out.len, HF.out.ok,
                    HGD.out.1.trans (HGD.out.2.symm.trans HJ11.out.good),
                    (HJ11.out.below.setCell (p := ⟨D, 0, none⟩) (by show w.heap.size ≤ D; exact hwD) (.slice an mg cn)).setCell (p := ⟨D, 1, none⟩) (by show w.heap.size ≤ D; exact hwD) (.int .u64 ((Ng : Nat) : Int))⟩
                clear hap
                go_wp2
                go_roundg (gk - 1)
                case measure => have := HQ.out; omega
                case rel => exact ⟨q + 1, mg, lg, an, cn, Ng, by have := HQ.out; omega, hq23, by go_num, hmg, by omega, HJE⟩
              · have qE : (E == 0) = false := by simpa using hE
                go_wp2
                go_roundg (gk - 1)
                case measure => have := HQ.out; omega
                case rel => exact ⟨q + 1, m, l, a, c, nx, by have := HQ.out; omega, hq23, by go_num, hm18, hnx, HJ11⟩
    · have hbl := HJ.out.below
      clear HQ
      go_wp2
      go_ret
      exact ⟨rfl, hbl⟩
end Go.Proofs.Ytbfhppafffhlkaa
