/- The document's answer for paths: Longest. -/
import Derived.Test.YtdjckgcjdbdeiaaPathRef4
import Derived.Test.YtdjckgcjdbdeiaaPathLaw
namespace Go.Proofs.Ytdjckgcjdbdeiaa
open Go.RowKit
open Go.Proofs
set_option linter.unusedVariables false

theorem ups_rd (x : Nat) (ps : List (List UInt8)) (h : rd x = some ps) (j b : Nat) (hb : (ups ps)[j]? = some b) : j ≤ ps.length ∧ rd b = some (ps.take (ps.length - j)) := by
  obtain ⟨-, -, -, hok, -, -, -⟩ := rd_some h
  obtain ⟨hj, he⟩ := List.getElem?_eq_some_iff.1 hb
  rw [ups_len] at hj
  refine ⟨by omega, ?_⟩
  have e : b = numL (ps.take (ps.length - j)) := by
    unfold ups at hb
    rw [List.getElem?_map, List.getElem?_range (by omega)] at hb
    exact (Option.some.inj hb).symm
  rw [e]
  exact rd_num _ (okL_take ps _ hok)

/-- What the walk over the list holds so far: nothing, or the lowest one that is there. -/
def Best (ps : List (List UInt8)) (l : List Nat) (b : Nat) (ok : Bool) : Prop :=
  (ok = false ∧ b = 0 ∧ ∀ u ∈ l, u ∉ ups ps) ∨ (ok = true ∧ ∃ j : Nat, (ups ps)[j]? = some b ∧ b ∈ l ∧ ∀ (i u : Nat), i < j → (ups ps)[i]? = some u → u ∉ l)

theorem best_long (l : List Nat) (x : Nat) (ps : List (List UInt8)) (b : Nat) (ok : Bool) (h : rd x = some ps) (hb : Best ps l b ok) : longV l x = .tuple #[.int .u64 ((b : Nat) : Int), .int .i64 (if ok then 0 else 4)] := by
  unfold longV
  rw [h]
  dsimp only
  rcases hb with ⟨rfl, rfl, hn⟩ | ⟨rfl, j, hj, hm, hlt⟩
  · have e : (ups ps).find? (fun u => decide (u ∈ l)) = none := by
      rw [List.find?_eq_none]
      intro u hu hl
      exact hn u (of_decide_eq_true hl) hu
    rw [e]; rfl
  · obtain ⟨hjl, he⟩ := List.getElem?_eq_some_iff.1 hj
    have e : (ups ps).find? (fun u => decide (u ∈ l)) = some b := by
      rw [List.find?_eq_some_iff_getElem]
      refine ⟨decide_eq_true hm, j, hjl, he, fun i hi => ?_⟩
      rw [decide_eq_false (hlt i _ hi (List.getElem?_eq_getElem (by omega)))]
      rfl
    rw [e]; rfl

theorem best_no {ps : List (List UInt8)} {l : List Nat} {b k y : Nat} {ok : Bool} (hy : l[k]? = some y) (hn : y ∉ ups ps) (h : Best ps (l.take k) b ok) : Best ps (l.take (k + 1)) b ok := by
  have e : l.take (k + 1) = l.take k ++ [y] := by rw [List.take_add_one, hy]; rfl
  rw [e]
  rcases h with ⟨rfl, rfl, h⟩ | ⟨rfl, j, hj, hm, hlt⟩
  · refine .inl ⟨rfl, rfl, fun u hu => ?_⟩
    rw [List.mem_append, List.mem_singleton] at hu
    rcases hu with hu | rfl
    · exact h u hu
    · exact hn
  · refine .inr ⟨rfl, j, hj, List.mem_append_left _ hm, fun i u hi hu hul => ?_⟩
    rw [List.mem_append, List.mem_singleton] at hul
    rcases hul with hul | rfl
    · exact hlt i u hi hu hul
    · exact hn (List.mem_of_getElem? hu)
theorem best_first {ps : List (List UInt8)} {l : List Nat} {b k y j : Nat} (hy : l[k]? = some y) (hj : (ups ps)[j]? = some y) (h : Best ps (l.take k) b false) (hu : ∀ (i i' u : Nat), (ups ps)[i]? = some u → (ups ps)[i']? = some u → i = i') : Best ps (l.take (k + 1)) y true := by
  have e : l.take (k + 1) = l.take k ++ [y] := by rw [List.take_add_one, hy]; rfl
  rw [e]
  rcases h with ⟨-, rfl, h⟩ | ⟨h, -⟩
  · refine .inr ⟨rfl, j, hj, List.mem_append_right _ (List.mem_singleton.2 rfl), fun i u hi hu' hul => ?_⟩
    rw [List.mem_append, List.mem_singleton] at hul
    rcases hul with hul | rfl
    · exact h u hul (List.mem_of_getElem? hu')
    · have := hu i j u hu' hj; omega
  · cases h
theorem best_lower {ps : List (List UInt8)} {l : List Nat} {b k y j j' : Nat} (hy : l[k]? = some y) (hj : (ups ps)[j]? = some y) (hb : (ups ps)[j']? = some b) (h : Best ps (l.take k) b true) (hu : ∀ (i i' u : Nat), (ups ps)[i]? = some u → (ups ps)[i']? = some u → i = i') (hlt : j < j') : Best ps (l.take (k + 1)) y true := by
  have e : l.take (k + 1) = l.take k ++ [y] := by rw [List.take_add_one, hy]; rfl
  rw [e]
  rcases h with ⟨h, -⟩ | ⟨-, j2, hj2, hm, h⟩
  · cases h
  · obtain rfl := hu _ _ _ hb hj2
    refine .inr ⟨rfl, j, hj, List.mem_append_right _ (List.mem_singleton.2 rfl), fun i u hi hu' hul => ?_⟩
    rw [List.mem_append, List.mem_singleton] at hul
    rcases hul with hul | rfl
    · exact h i u (by omega) hu' hul
    · have := hu i j u hu' hj; omega
theorem best_keep {ps : List (List UInt8)} {l : List Nat} {b k y j j' : Nat} (hy : l[k]? = some y) (hj : (ups ps)[j]? = some y) (hb : (ups ps)[j']? = some b) (h : Best ps (l.take k) b true) (hu : ∀ (i i' u : Nat), (ups ps)[i]? = some u → (ups ps)[i']? = some u → i = i') (hle : j' ≤ j) : Best ps (l.take (k + 1)) b true := by
  have e : l.take (k + 1) = l.take k ++ [y] := by rw [List.take_add_one, hy]; rfl
  rw [e]
  rcases h with ⟨h, -⟩ | ⟨-, j2, hj2, hm, h⟩
  · cases h
  · obtain rfl := hu _ _ _ hb hj2
    refine .inr ⟨rfl, j', hj2, List.mem_append_left _ hm, fun i u hi hu' hul => ?_⟩
    rw [List.mem_append, List.mem_singleton] at hul
    rcases hul with hul | rfl
    · exact h i u hi hu' hul
    · have := hu i j u hu' hj; omega
theorem ups_inj (x : Nat) (ps : List (List UInt8)) (h : rd x = some ps) (i i' u : Nat) (hi : (ups ps)[i]? = some u) (hi' : (ups ps)[i']? = some u) : i = i' := by
  obtain ⟨h1, h2⟩ := ups_rd x ps h i u hi
  obtain ⟨h3, h4⟩ := ups_rd x ps h i' u hi'
  have e := congrArg List.length (Option.some.inj (h2.symm.trans h4))
  rw [List.length_take, List.length_take] at e
  omega

set_option maxRecDepth 100000 in
set_option maxHeartbeats 1000000 in
theorem rLongest_any (l : List Nat) (a : Option Addr) (n cap x : Nat) (ps : List (List UInt8)) (w : World) (hx : x < 18446744073709551616) (hl : l.length = n) (hlw : wok l) (hr : rd x = some ps) (h : Leads w a n cap (wcells l)) :
    Calls Try.prog 25 #[.slice a n cap, .int .u64 (x : Nat)] w (fun e w' => ∃ (b : Nat) (ok : Bool), e = .returned (.tuple #[.int .u64 ((b : Nat) : Int), .bool ok]) ∧ longV l x = .tuple #[.int .u64 ((b : Nat) : Int), .int .i64 (if ok then 0 else 4)] ∧ Below w.heap.size w w') := by
  have hn1 := h.len.1
  have H := hid h
  have HL := hid hl
  have HW := hid hlw
  have HAB := hid (ahead_ups x ps hr)
  have HINJ := hid (ups_inj x ps hr)
  have HRD := hid (ups_rd x ps hr)
  have HLONG := hid fun b ok => best_long l x ps b ok hr
  clear h hl hlw hr
  go_enter Try.func25, Try.ntmps25
  go_wp2
  go_loopg [6, 7, 9, 12] n (fun g B O _ i wr => ∃ (k b : Nat) (ok : Bool), g + k = n ∧ B = .int .u64 (b : Nat) ∧ O = .bool ok ∧ i = .int .i64 (k : Nat) ∧ Hid (Best ps (l.take k) b ok) ∧ Below w.heap.size w wr)
  case atStart => exact ⟨0, 0, false, rfl, rfl, rfl, rfl, .inl ⟨rfl, rfl, fun u hu => absurd hu (by simp)⟩, Below.refl _ _⟩
  case round =>
    obtain ⟨k, b, ok, hk, rfl, rfl, rfl, hB, hb⟩ := hrel
    have HK := hid hk
    clear hk
    by_cases hlt : k < n
    · obtain ⟨y, hy⟩ : ∃ x, l[k]? = some x := ⟨_, List.getElem?_eq_getElem (by rw [HL.out]; exact hlt)⟩
      obtain ⟨a1, off, rfl, hc⟩ := H.out.at hlt (wcell_at hy)
      have hc1 := hc wr hb
      have hyw := HW.out y (List.mem_of_getElem? hy)
      have hA := fun W => rAhead_any y x W hyw hx
      have HY := hid hy
      clear hc hy
      cases ha : aheadB y x with
      | false =>
        rw [ha] at hA
        have HN : Hid (Best ps (l.take (k + 1)) b ok) := hid (best_no HY.out (by rw [HAB.out] at ha; exact of_decide_eq_false ha) hB.out)
        have HA := hid hA
        clear hA ha
        go_wp2_with (go_at_call 27; refine (HA.out _).mono ?_; rintro e w1 ⟨rfl, hb1⟩)
        go_roundg (gk - 1)
        case measure => have := HK.out; omega
        case rel => exact ⟨k + 1, b, ok, by have := HK.out; omega, rfl, rfl, by go_num, HN, step hb hb1⟩
      | true =>
        rw [ha] at hA
        have hmem : y ∈ ups ps := by rw [HAB.out] at ha; exact of_decide_eq_true ha
        obtain ⟨j, hj⟩ := List.getElem?_of_mem hmem
        have HA := hid hA
        clear hA ha hmem
        cases ok with
        | false =>
          have HN : Hid (Best ps (l.take (k + 1)) y true) := hid (best_first HY.out hj hB.out HINJ.out)
          clear hj
          go_wp2_with (go_at_call 27; refine (HA.out _).mono ?_; rintro e w1 ⟨rfl, hb1⟩)
          go_roundg (gk - 1)
          case measure => have := HK.out; omega
          case rel => exact ⟨k + 1, y, true, by have := HK.out; omega, rfl, rfl, by go_num, HN, step hb hb1⟩
        | true =>
          obtain ⟨j', hj', hbm⟩ : ∃ j', (ups ps)[j']? = some b ∧ b ∈ l.take k := by
            rcases hB.out with ⟨h, -⟩ | ⟨-, j', h1, h2, -⟩
            · cases h
            · exact ⟨j', h1, h2⟩
          have hbw := HW.out b (List.mem_of_mem_take hbm)
          obtain ⟨hjl, hry⟩ := HRD.out j y hj
          obtain ⟨hjl', hrb⟩ := HRD.out j' b hj'
          have HP := hid fun W => rParts_any y _ W hyw hry
          have HP' := hid fun W => rParts_any b _ W hbw hrb
          have HJ := hid hj
          have HJ' := hid hj'
          obtain ⟨q, hq⟩ : ∃ q, ps.length = q := ⟨_, rfl⟩
          have HQ := hid hq
          clear hj hj' hry hrb hbm hq
          rw [HQ.out] at hjl hjl'
          go_wp2_with (fail)
          refine (HA.out _).mono ?_
          rintro e w1 ⟨rfl, hb1⟩
          go_wp2_with (fail)
          refine (HP.out _).mono ?_
          rintro e w2 ⟨v, xs, rfl, hd, ho, hb2⟩
          obtain ⟨m, hm⟩ : ∃ m, xs.length = m := ⟨_, rfl⟩
          have hmq : Hid (m = q - j) := hid (by rw [← hm, ← dl_len, hd, List.length_take, HQ.out]; omega)
          rw [hm] at ho
          obtain ⟨a2, c2, rfl, hld⟩ := Leads.of_own ho
          clear hd ho hm hld
          go_wp2_with (fail)
          refine (HP'.out _).mono ?_
          rintro e w3 ⟨v, ys, rfl, hd, ho, hb3⟩
          obtain ⟨m', hm⟩ : ∃ m, ys.length = m := ⟨_, rfl⟩
          have hmq' : Hid (m' = q - j') := hid (by rw [← hm, ← dl_len, hd, List.length_take, HQ.out]; omega)
          rw [hm] at ho
          obtain ⟨a3, c3, rfl, hld⟩ := Leads.of_own ho
          clear hd ho hm hld
          have hb4 := step (step (step hb hb1) hb2) hb3
          clear hb1 hb2 hb3
          by_cases hjj : j < j'
          · have HN : Hid (Best ps (l.take (k + 1)) y true) := hid (best_lower HY.out HJ.out HJ'.out hB.out HINJ.out hjj)
            have hmm : m' < m := by have := hmq.out; have := hmq'.out; omega
            clear hmq hmq' hjl hjl' hjj
            go_wp2
            go_roundg (gk - 1)
            case measure => have := HK.out; omega
            case rel => exact ⟨k + 1, y, true, by have := HK.out; omega, rfl, rfl, by go_num, HN, hb4⟩
          · have HN : Hid (Best ps (l.take (k + 1)) b true) := hid (best_keep HY.out HJ.out HJ'.out hB.out HINJ.out (by omega))
            have hmm : m ≤ m' := by have := hmq.out; have := hmq'.out; omega
            clear hmq hmq' hjl hjl' hjj
            go_wp2
            go_roundg (gk - 1)
            case measure => have := HK.out; omega
            case rel => exact ⟨k + 1, b, true, by have := HK.out; omega, rfl, rfl, by go_num, HN, hb4⟩
    · have e := HK.out
      obtain rfl : k = n := by omega
      have HB : Hid (Best ps l b ok) := hid (by have := hB.out; rw [List.take_of_length_le (by rw [HL.out]; exact Nat.le_refl _)] at this; exact this)
      clear e
      go_wp2
      go_ret2
      exact ⟨b, ok, rfl, HLONG.out b ok HB.out, hb⟩
end Go.Proofs.Ytdjckgcjdbdeiaa
