/- The functions of package path: the longest, and those below. -/
import Derived.Test.YtdjckgcjdbdeiaaPath8
namespace Go.Proofs.Ytdjckgcjdbdeiaa
open Go.RowKit Go.Shelf
open Go.Proofs
set_option linter.unusedVariables false

theorem wcell_at {xs : List Nat} {k x : Nat} (h : xs[k]? = some x) : (wcells xs)[k]? = some (.int .u64 ((x : Nat) : Int)) := by unfold wcells; rw [List.getElem?_map, h]; rfl

set_option maxHeartbeats 1000000 in
theorem IndexU_any (xs : List Nat) (a : Option Addr) (n cap y : Nat) (w : World) (hxn : xs.length = n) (hl : Leads w a n cap (wcells xs)) :
    Calls Try.prog 36 #[.slice a n cap, .int .u64 (y : Nat)] w (Ret (.int .i64 (idxI (fun x => decide (y = x)) xs)) w) := by
  have hln := hl.len.1
  have HL := hid hl
  have HN := hid hxn
  clear hl hxn
  go_enter Try.func36, Try.ntmps36
  go_wp2
  go_loopg [5, 8] n (fun g _ i wr => ∃ k : Nat, g + k = n ∧ i = .int .i64 (k : Nat) ∧ Hid ((xs.take k).any (fun x => decide (y = x)) = false) ∧ Below w.heap.size w wr)
  case atStart => exact ⟨0, rfl, rfl, rfl, Below.refl _ _⟩
  case round =>
    obtain ⟨k, hk, rfl, hno, hb⟩ := hrel
    have HK := hid hk
    clear hk
    by_cases hlt : k < n
    · obtain ⟨x, hx⟩ : ∃ x, xs[k]? = some x := ⟨_, List.getElem?_eq_getElem (by rw [HN.out]; exact hlt)⟩
      obtain ⟨b, off, rfl, hc⟩ := HL.out.at hlt (wcell_at hx)
      have hc1 := hc wr hb
      by_cases he : y = x
      · have HI := hid (idx_at (fun x => decide (y = x)) xs k x hno.out hx (decide_eq_true he))
        subst he
        clear hc hx hno
        go_wp2
        go_ret
        exact ⟨reti HI.out.symm, hb⟩
      · have HI := hid (any_snoc (fun x => decide (y = x)) xs k x hno.out hx (decide_eq_false he))
        have hq : (((y : Nat) : Int) == ((x : Nat) : Int)) = false := by simp; omega
        clear hc hx hno he
        go_wp2
        go_roundg (gk - 1)
        case measure => have := HK.out; omega
        case rel => exact ⟨k + 1, by have := HK.out; omega, by go_num, HI, hb⟩
    · have HI : Hid (idxI (fun x => decide (y = x)) xs = -1) := by
        have e := HK.out
        have := hno.out
        rw [List.take_of_length_le (by rw [HN.out]; omega)] at this
        exact idx_end _ xs this
      clear hno
      go_wp2
      go_ret
      exact ⟨reti HI.out.symm, hb⟩

theorem has_any (xs : List Nat) (y : Nat) : xs.any (fun x => decide (y = x)) = decide (y ∈ xs) := by
  rw [Bool.eq_iff_iff, List.any_eq_true, decide_eq_true_iff]
  constructor
  · rintro ⟨x, h1, h2⟩; rw [of_decide_eq_true h2]; exact h1
  · exact fun h => ⟨y, h, decide_eq_true rfl⟩
theorem ContU_any (xs : List Nat) (a : Option Addr) (n cap y : Nat) (w : World) (hxn : xs.length = n) (hl : Leads w a n cap (wcells xs)) :
    Calls Try.prog 20 #[.slice a n cap, .int .u64 (y : Nat)] w (Ret (.bool (decide (y ∈ xs))) w) := by
  have HP := hid (IndexU_any xs a n cap y w hxn hl)
  have HE := hid ((idx_ge (fun x : Nat => decide (y = x)) xs).trans (has_any xs y))
  generalize idxI (fun x : Nat => decide (y = x)) xs = q at *
  clear hl hxn
  go_enter Try.func20, Try.ntmps20
  go_wp2_with (go_at_call 36; refine HP.out.mono ?_; rintro e w1 ⟨rfl, hb1⟩)
  go_ret
  exact ⟨retb HE.out, hb1⟩

theorem long1_any (xs : List Nat) (a : Option Addr) (n cap y b : Nat) (w : World) (hxn : xs.length = n) (hl : Leads w a n cap (wcells xs)) (hc : w.cell? ⟨b, 0, none⟩ = some (.slice a n cap)) :
    Calls Try.prog 37 #[.int .u64 (y : Nat), .pointer (some ⟨b, 0, none⟩)] w (Ret (.bool (decide (y ∈ xs))) w) := by
  have HP := hid (ContU_any xs a n cap y w hxn hl)
  generalize decide (y ∈ xs) = q at *
  clear hl hxn
  go_enter Try.func37, Try.ntmps37
  go_wp2_with (go_at_call 20; refine HP.out.mono ?_; rintro e w1 ⟨rfl, hb1⟩)
  go_ret
  exact ⟨rfl, hb1⟩

set_option maxHeartbeats 1000000 in
theorem IdxU_any (us : List Nat) (a : Option Addr) (n cap : Nat) (p0 : Addr) (p : Nat → Bool) (w : World) (hxn : us.length = n) (hl : Leads w a n cap (wcells us))
    (hp : ∀ W, Below w.heap.size w W → ∀ x ∈ us, Calls Try.prog 37 #[.int .u64 (x : Nat), .pointer (some p0)] W (Ret (.bool (p x)) W)) :
    Calls Try.prog 38 #[.slice a n cap, .func (.func 37) #[] #[.pointer (some p0)]] w (Ret (.int .i64 (idxI p us)) w) := by
  have hln := hl.len.1
  have HL := hid hl
  have HN := hid hxn
  have HP := hid hp
  clear hl hp hxn
  go_enter Try.func38, Try.ntmps38
  go_wp2
  go_loopg [5, 8] n (fun g _ i wr => ∃ k : Nat, g + k = n ∧ i = .int .i64 (k : Nat) ∧ Hid ((us.take k).any p = false) ∧ Below w.heap.size w wr)
  case atStart => exact ⟨0, rfl, rfl, rfl, Below.refl _ _⟩
  case round =>
    obtain ⟨k, hk, rfl, hno, hb⟩ := hrel
    have HK := hid hk
    clear hk
    by_cases hlt : k < n
    · obtain ⟨x, hx⟩ : ∃ x, us[k]? = some x := ⟨_, List.getElem?_eq_getElem (by rw [HN.out]; exact hlt)⟩
      obtain ⟨b, off, rfl, hc⟩ := HL.out.at hlt (wcell_at hx)
      have hc1 := hc wr hb
      have hC := HP.out wr hb x (List.mem_of_getElem? hx)
      cases hpx : p x with
      | true =>
        rw [hpx] at hC
        have HC := hid hC
        have HI := hid (idx_at p us k x hno.out hx hpx)
        clear hC hc hx hpx hno
        go_wp2_with (go_at_call 37; refine HC.out.mono ?_; rintro e w1 ⟨rfl, hb1⟩)
        go_ret
        exact ⟨reti HI.out.symm, step hb hb1⟩
      | false =>
        rw [hpx] at hC
        have HC := hid hC
        have HI := hid (any_snoc p us k x hno.out hx hpx)
        clear hC hc hx hpx hno
        go_wp2_with (go_at_call 37; refine HC.out.mono ?_; rintro e w1 ⟨rfl, hb1⟩)
        go_roundg (gk - 1)
        case measure => have := HK.out; omega
        case rel => exact ⟨k + 1, by have := HK.out; omega, by go_num, HI, step hb hb1⟩
    · have HI : Hid (idxI p us = -1) := by
        have e := HK.out
        have := hno.out
        rw [List.take_of_length_le (by rw [HN.out]; omega)] at this
        exact idx_end p us this
      clear hno
      go_wp2
      go_ret
      exact ⟨reti HI.out.symm, hb⟩

/-- The longest: the first one of the ways up that is there. -/
def longV (l : List Nat) (x : Nat) : Value := match rd x with
  | none => .tuple #[.int .u64 0, .int .i64 310]
  | some ps => match (ups ps).find? (fun u => decide (u ∈ l)) with
    | none => .tuple #[.int .u64 0, .int .i64 4]
    | some u => .tuple #[.int .u64 ((u : Nat) : Int), .int .i64 0]
theorem find_idx {α : Type} (p : α → Bool) (xs : List α) : (xs.find? p = none ∧ idxI p xs = -1) ∨ ∃ (k : Nat) (x : α), xs.find? p = some x ∧ xs[k]? = some x ∧ idxI p xs = (k : Nat) := by
  cases h : xs.find? p with
  | none =>
    left
    refine ⟨rfl, idx_end p xs ?_⟩
    rw [List.any_eq_false]
    intro x hx
    exact List.find?_eq_none.1 h x hx
  | some x =>
    right
    have ha : xs.any p = true := List.any_eq_true.2 ⟨x, List.mem_of_find?_eq_some h, List.find?_some h⟩
    have hlt : xs.findIdx p < xs.length := List.findIdx_lt_length_of_exists (by obtain ⟨y, h1, h2⟩ := List.any_eq_true.1 ha; exact ⟨y, h1, h2⟩)
    refine ⟨xs.findIdx p, x, rfl, ?_, by unfold idxI; rw [ha]; rfl⟩
    have := List.find?_eq_some_iff_getElem.1 h
    obtain ⟨h1, i, hi, e, hall⟩ := this
    have e2 : xs.findIdx p = i := by
      rw [List.findIdx_eq hi]
      exact ⟨by rw [e]; exact h1, fun j hj => by simpa using hall j hj⟩
    rw [e2, List.getElem?_eq_getElem hi, e]
theorem ups_len (ps : List (List UInt8)) : (ups ps).length = ps.length + 1 := by unfold ups; simp

theorem Longest_any (l : List Nat) (a : Option Addr) (n cap x : Nat) (w : World) (hx : x < 18446744073709551616) (hl : l.length = n) (h : Leads w a n cap (wcells l)) :
    Calls Try.prog 21 #[.slice a n cap, .int .u64 (x : Nat)] w (Ret (longV l x) w) := by
  obtain ⟨w1, hw1, hb1, hs1, hl1⟩ := laid w #[.slice a n cap] 23
  unfold longV
  cases hr : rd x with
  | none =>
    have HU := hid fun W => Up_none x W hx hr
    clear hr h hl hl1 hs1
    go_enter Try.func21, Try.ntmps21
    go_wp2_with (go_at_call 19; refine (HU.out _).mono ?_; rintro e w2 ⟨rfl, hb2⟩)
    go_ret2
    exact ⟨rfl, step hb1 hb2⟩
  | some ps =>
    dsimp only
    have HU := hid fun W => Up_some x ps W hx hr
    have H := hid h
    have HL := hid hl
    have HL1 := hid hl1
    have hlt1 := lt_laid hl1
    have hlen : (ups ps).length ≤ 9 := by rw [ups_len]; have := (rd_some hr).2.2.2.2.2.2; omega
    clear hr h hl hl1 hs1
    rcases find_idx (fun u => decide (u ∈ l)) (ups ps) with ⟨e1, e2⟩ | ⟨k, u, e1, e2, e3⟩
    · rw [e1]
      have E2 := hid e2
      clear e1 e2
      go_enter Try.func21, Try.ntmps21
      go_wp2_with fail
      refine (HU.out _).mono ?_
      rintro e w2 ⟨v, rfl, ho, hb2⟩
      obtain ⟨m, hm⟩ : ∃ m, (ups ps).length = m := ⟨_, rfl⟩
      rw [hm] at ho hlen
      obtain ⟨a2, c2, rfl, hld⟩ := Leads.of_own ho
      have hI := IdxU_any (ups ps) a2 m c2 ⟨w.heap.size, 0, none⟩ (fun u => decide (u ∈ l)) w2 hm hld fun W hW u _ =>
        long1_any l a n cap u w.heap.size W HL.out (H.out.grow (step (step hb1 hb2) hW)) (cell_laid (keep_laid (keep_laid HL1.out hb2) hW) rfl)
      have HLD := hid hld
      have HM := hid hm
      clear ho hld hm
      rw [E2.out] at hI
      have HI := hid hI
      clear hI
      go_wp2_with (go_at_call 38; refine HI.out.mono ?_; rintro e w3 ⟨rfl, hb3⟩)
      go_ret2
      exact ⟨rfl, step (step hb1 hb2) hb3⟩
    · rw [e1]
      have E2 := hid e2
      have E3 := hid e3
      clear e1 e2 e3
      go_enter Try.func21, Try.ntmps21
      go_wp2_with fail
      refine (HU.out _).mono ?_
      rintro e w2 ⟨v, rfl, ho, hb2⟩
      obtain ⟨m, hm⟩ : ∃ m, (ups ps).length = m := ⟨_, rfl⟩
      rw [hm] at ho hlen
      obtain ⟨a2, c2, rfl, hld⟩ := Leads.of_own ho
      have hI := IdxU_any (ups ps) a2 m c2 ⟨w.heap.size, 0, none⟩ (fun u => decide (u ∈ l)) w2 hm hld fun W hW u _ =>
        long1_any l a n cap u w.heap.size W HL.out (H.out.grow (step (step hb1 hb2) hW)) (cell_laid (keep_laid (keep_laid HL1.out hb2) hW) rfl)
      have HLD := hid hld
      have HM := hid hm
      clear ho hld hm
      rw [E3.out] at hI
      have HI := hid hI
      have hkm : k < m := by rw [← HM.out]; exact (List.getElem?_eq_some_iff.1 E2.out).1
      obtain ⟨b, off, rfl, hc⟩ := HLD.out.at hkm (wcell_at E2.out)
      have HC := hid hc
      clear hI hc
      go_wp2_with fail
      refine HI.out.mono ?_
      rintro e w3 ⟨rfl, hb3⟩
      have hc := HC.out w3 hb3
      go_wp2
      go_ret2
      exact ⟨rfl, step (step hb1 hb2) hb3⟩

/-- Those below. -/
def belowL (l : List Nat) (x : Nat) : List Nat := l.filter fun y => decide (y ≠ x) && aheadB x y
theorem belowL_snoc (l : List Nat) (x k y : Nat) (h : l[k]? = some y) : belowL (l.take (k + 1)) x = belowL (l.take k) x ++ (if (decide (y ≠ x) && aheadB x y) = true then [y] else []) := by
  obtain ⟨h1, rfl⟩ := List.getElem?_eq_some_iff.1 h
  unfold belowL
  rw [List.take_succ_eq_append_getElem h1, List.filter_append, List.filter_cons, List.filter_nil]
theorem belowL_len (l : List Nat) (x k : Nat) : (belowL (l.take k) x).length ≤ k := by
  unfold belowL
  exact Nat.le_trans (List.length_filter_le _ _) (by rw [List.length_take]; omega)

set_option maxHeartbeats 1000000 in
theorem Below_any (l : List Nat) (a : Option Addr) (n cap x : Nat) (w : World) (hx : x < 18446744073709551616) (hl : l.length = n) (hlw : wok l) (hn : n ≤ 1000) (h : Leads w a n cap (wcells l)) :
    Calls Try.prog 22 #[.slice a n cap, .int .u64 (x : Nat)] w (fun e w' => ∃ v, Words (belowL l x) (fun v => v) w e w' v) := by
  have H := hid h
  have HL := hid hl
  have HW := hid hlw
  clear h hl hlw
  go_enter Try.func22, Try.ntmps22
  go_wp2
  go_loopg [5, 7, 10] n (fun g v _ i wr => ∃ k : Nat, g + k = n ∧ i = .int .i64 (k : Nat) ∧ wr.ownsRow w.heap.size 25 1 v (belowL (l.take k) x).length (wcells (belowL (l.take k) x)) ∧ Below w.heap.size w wr)
  case atStart => exact ⟨0, rfl, rfl, World.ownsRow_nil _ _ _ _, Below.refl _ _⟩
  case round =>
    obtain ⟨k, hk, rfl, hown, hb⟩ := hrel
    have HK := hid hk
    have hbs := hb.size
    clear hk
    by_cases hlt : k < n
    · obtain ⟨y, hy⟩ : ∃ x, l[k]? = some x := ⟨_, List.getElem?_eq_getElem (by rw [HL.out]; exact hlt)⟩
      obtain ⟨b, off, rfl, hc⟩ := H.out.at hlt (wcell_at hy)
      have hc1 := hc wr hb
      have hA := fun W => Ahead_any x y W hx (HW.out y (List.mem_of_getElem? hy))
      have hsn := belowL_snoc l x k y hy
      have hml := belowL_len l x k
      obtain ⟨m, hm⟩ : ∃ m, (belowL (l.take k) x).length = m := ⟨_, rfl⟩
      rw [hm] at hown hml
      by_cases hyx : y = x
      · rw [decide_eq_false (by simpa using hyx), Bool.false_and, if_neg (by simp), List.append_nil] at hsn
        have HO : Hid (wr.ownsRow w.heap.size 25 1 u5 (belowL (l.take (k + 1)) x).length (wcells (belowL (l.take (k + 1)) x))) := hid (by rw [hsn, hm]; exact hown)
        have hq : (((y : Nat) : Int) != ((x : Nat) : Int)) = false := by simp; omega
        clear hc hy hA hsn hown hm hyx
        go_wp2
        go_roundg (gk - 1)
        case measure => have := HK.out; omega
        case rel => exact ⟨k + 1, by have := HK.out; omega, by go_num, HO.out, hb⟩
      · have hq : (((y : Nat) : Int) != ((x : Nat) : Int)) = true := by simp; omega
        rw [decide_eq_true hyx, Bool.true_and] at hsn
        cases ha : aheadB x y with
        | false =>
          rw [ha, if_neg (by simp), List.append_nil] at hsn
          rw [ha] at hA
          have HA := hid hA
          have HO := hid hown
          have HM := hid hm
          have HS := hid hsn
          clear hc hy hA hsn hown hm hyx ha
          go_wp2_with (go_at_call 18; refine (HA.out _).mono ?_; rintro e w1 ⟨rfl, hb1⟩)
          go_roundg (gk - 1)
          case measure => have := HK.out; omega
          case rel => exact ⟨k + 1, by have := HK.out; omega, by go_num, by rw [HS.out, HM.out]; exact own_grow HO.out hb1, step hb hb1⟩
        | true =>
          rw [ha, if_pos rfl] at hsn
          rw [ha] at hA
          have HA := hid hA
          have HO := hid hown
          have HM := hid hm
          have HS := hid hsn
          clear hc hy hA hsn hown hm hyx ha
          go_wp2_with fail
          refine (HA.out _).mono ?_
          rintro e w1 ⟨rfl, hb1⟩
          obtain ⟨w2, hw2, hb2, hs2, hl2⟩ := laid w1 #[.int .u64 ((y : Nat) : Int)] 25
          have HL2 := hid hl2
          have hb12 := step hb1 hb2
          have hs5 : w.heap.size ≤ w2.heap.size := by have := hb12.size; omega
          clear hl2 hs2
          go_wp2_with ((with_reducible show wpList _ _ _ _ _ _); refine wp_append1 elemWords rfl (.tmp 22) (.tmp 24) rfl w.heap.size u5 m _ rfl (own_grow HO.out hb12) w1.heap.size [.int .u64 ((y : Nat) : Int)] rfl rfl ?c1 ?c2 ?c3 ?c4 ?c5)
          case c1 =>
            intro j u hj
            exact cell_laid HL2.out (by simpa using hj)
          case c2 => intro u hu; simp at hu; subst hu; rfl
          case c3 => omega
          case c4 => exact hs5
          case c5 =>
            intro v' w5 hown' hb5 hs6
            have HO' : Hid (w5.ownsRow w.heap.size 25 1 v' (belowL (l.take (k + 1)) x).length (wcells (belowL (l.take (k + 1)) x))) := hid (by
              rw [HS.out, List.length_append, HM.out]
              unfold wcells at *
              rw [List.map_append]
              exact hown')
            clear hown'
            go_wp2
            go_roundg (gk - 1)
            case measure => have := HK.out; omega
            case rel => exact ⟨k + 1, by have := HK.out; omega, by go_num, HO'.out, (step hb hb12).trans hb5⟩
    · have e := HK.out
      obtain rfl : k = n := by omega
      rw [List.take_of_length_le (by rw [HL.out]; exact Nat.le_refl _)] at hown
      have HO := hid hown
      clear hown e
      go_wp2
      go_ret
      exact ⟨_, rfl, HO.out, hb⟩
end Go.Proofs.Ytdjckgcjdbdeiaa
