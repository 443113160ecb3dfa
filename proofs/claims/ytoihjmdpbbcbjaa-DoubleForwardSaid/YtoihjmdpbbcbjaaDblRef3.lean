/- The document's lists linked both ways: Words. -/
import Derived.Test.YtoihjmdpbbcbjaaDblRef2
namespace Go.Proofs.Ytoihjmdpbbcbjaa
open Go.RowKit
open Go.Proofs
set_option linter.unusedVariables false
attribute [local go_sem] Oper.semAt_some

def wordsR (head : Nat) (xs : List Tw) : List Nat := [posR head 0, posR head 1] ++ xs.flatMap fun t => (List.range 4).map (posR t.1)
theorem wordsR_len (head : Nat) (xs : List Tw) : (wordsR head xs).length = 2 + 4 * xs.length := by
  unfold wordsR
  induction xs with
  | nil => rfl
  | cons x xs ih => simp only [List.flatMap_cons, List.length_append, List.length_map, List.length_range, List.length_cons] at ih ⊢; omega
theorem takeP_words {M : Mem} (hl : M.L.length ≤ 4096) (p : Nat) : ∀ (ks met met' : List Nat), takeP M p ks met = some met' → met' = met ++ ks.map (posR p)
  | [], met, met', h => by cases h; simp
  | k :: ks, met, met', h => by
    unfold takeP at h
    split at h
    · rename_i hf
      have := takeP_words hl p ks _ _ h
      unfold freeB at hf
      simp only [Bool.and_eq_true] at hf
      rw [this]
      simp
      exact ((posR_live hl).2 hf.1).symm
    · cases h
theorem goN_words {M : Mem} (hl : M.L.length ≤ 4096) : ∀ (f ahead place : Nat) (met : List Nat) (out out' : List Tw) (met' : List Nat) (ahead' : Nat), goN M f ahead place met out = some (out', met', ahead') →
    ∃ new, out' = out ++ new ∧ met' = met ++ new.flatMap fun t => (List.range 4).map (posR t.1)
  | 0, ahead, place, met, out, out', met', ahead', h => by unfold goN at h; cases h
  | f + 1, ahead, place, met, out, out', met', ahead', h => by
    by_cases h0 : place = 0
    · subst h0
      rw [goN_zero] at h
      cases h
      exact ⟨[], by simp, by simp⟩
    · cases ht : takeP M place (List.range 4) met with
      | none => rw [goN_none h0 ht] at h; cases h
      | some m2 =>
        rw [goN_some h0 ht] at h
        split at h
        · obtain ⟨new, e1, e2⟩ := goN_words hl f _ _ _ _ _ _ _ h
          have := takeP_words hl place _ _ _ ht
          exact ⟨(place, wAt M place 0, wAt M place 1) :: new, by rw [e1]; simp, by rw [e2, this]; simp⟩
        · cases h
theorem nodesN_words {M : Mem} {head : Nat} {xs : List Tw} {met : List Nat} (h : nodesN M head = some (xs, met)) (hok : okM M = true) : met = wordsR head xs := by
  have hl : M.L.length ≤ 4096 := by have := okM_spec hok; omega
  cases ht : takeP M head (List.range 2) [] with
  | none => rw [nodesN_none ht] at h; cases h
  | some m0 =>
    rw [nodesN_some ht] at h
    cases hg : goN M 4101 0 (wAt M head 0) m0 [] with
    | none => rw [hg] at h; cases h
    | some r =>
      obtain ⟨o, m, a⟩ := r
      rw [hg] at h
      unfold endN at h
      dsimp only at h
      split at h
      · cases h
        obtain ⟨new, e1, e2⟩ := goN_words hl _ _ _ _ _ _ _ _ hg
        have := takeP_words hl head _ _ _ ht
        rw [e2, this, e1]
        rfl
      · cases h
theorem nodesN_small {M : Mem} {head : Nat} {xs : List Tw} {met : List Nat} (h : nodesN M head = some (xs, met)) (hW : Wok M) : ∀ t ∈ xs, t.1 < 18446744073709551616 := by
  have : ∀ (f ahead place : Nat) (met : List Nat) (out out' : List Tw) (met' : List Nat) (ahead' : Nat), place < 18446744073709551616 → (∀ t ∈ out, t.1 < 18446744073709551616) → goN M f ahead place met out = some (out', met', ahead') → ∀ t ∈ out', t.1 < 18446744073709551616 := by
    intro f
    induction f with
    | zero => intro ahead place met out out' met' ahead' _ _ h; unfold goN at h; cases h
    | succ f ih =>
      intro ahead place met out out' met' ahead' hp ho h
      by_cases h0 : place = 0
      · subst h0
        rw [goN_zero] at h
        cases h
        exact ho
      · cases ht : takeP M place (List.range 4) met with
        | none => rw [goN_none h0 ht] at h; cases h
        | some m2 =>
          rw [goN_some h0 ht] at h
          split at h
          · refine ih _ _ _ _ _ _ _ (wAt_lt hW _ _) ?_ h
            intro t ht
            rcases List.mem_append.1 ht with ht | ht
            · exact ho t ht
            · rw [List.mem_singleton] at ht; subst ht; exact hp
          · cases h
  cases ht : takeP M head (List.range 2) [] with
  | none => rw [nodesN_none ht] at h; cases h
  | some m0 =>
    rw [nodesN_some ht] at h
    cases hg : goN M 4101 0 (wAt M head 0) m0 [] with
    | none => rw [hg] at h; cases h
    | some r =>
      obtain ⟨o, m, a⟩ := r
      rw [hg] at h
      unfold endN at h
      dsimp only at h
      split at h
      · cases h
        exact this _ _ _ _ _ _ _ _ (wAt_lt hW _ _) (by simp) hg
      · cases h

/-- What Words has made. -/
structure Wds (V : World) (l : List Nat) (v : Value) (W : World) : Prop where
  row : W.ownsRow V.heap.size 3 1 v l.length (ncells l)
  below : Below V.heap.size V W
theorem Wds.grow {V W W' : World} {l : List Nat} {v : Value} (h : Wds V l v W) (hb : Below W.heap.size W W') : Wds V l v W' := ⟨own_grow h.row hb, h.below.trans (hb.mono h.below.size)⟩
theorem Wds.app {V W W' : World} {l : List Nat} {v v' : Value} {q : Nat} (h : Wds V l v W) (ho : W'.ownsRow V.heap.size 3 1 v' (l.length + 1) (ncells l ++ [.int .i64 ((q : Nat) : Int)])) (hg : W.grownBy W' v.ownBlock) : Wds V (l ++ [q]) v' W' := by
  refine ⟨?_, h.below.trans (own_below h.row hg h.below.size)⟩
  rw [List.length_append, ncells_app]
  exact ho
set_option maxRecDepth 100000 in
set_option maxHeartbeats 4000000 in
theorem Words_any (xs : List Tw) (a : Option Addr) (n cap head : Nat) (V : World) (h : Leads V a n cap (twcells xs)) (hn : xs.length = n) (hn4 : n ≤ 5000) (hh : head < 18446744073709551616) (hx : ∀ t ∈ xs, t.1 < 18446744073709551616) :
    Calls Try.prog 41 #[.int .u64 ((head : Nat) : Int), .slice a n cap] V (fun e W => ∃ v, e = .returned v ∧ Wds V (wordsR head xs) v W) := by
  have hl := h.len
  have H := hid h
  have HN := hid hn
  have HXL := hid hx
  have HAT := hid (fun (p k : Nat) (W : World) (hp : p < 18446744073709551616) (hk : k ≤ 1000) => At_any p k W hp hk)
  obtain ⟨P0, hP0⟩ : ∃ P, posR head 0 = P := ⟨_, rfl⟩
  obtain ⟨P1, hP1⟩ : ∃ P, posR head 1 = P := ⟨_, rfl⟩
  have HP0 := hid hP0
  have HP1 := hid hP1
  obtain ⟨w1, hw1, hb1, hs1, hl1⟩ := laid V #[.int .i64 ((P0 : Nat) : Int), .int .i64 ((P1 : Nat) : Int)] 3
  obtain ⟨Y, hY⟩ : ∃ Y, V.heap.size = Y := ⟨_, rfl⟩
  rw [hY] at hl1
  have HW1 : Hid (Wds V (wordsR head (xs.take 0)) (.slice (some ⟨Y, 0, none⟩) 2 2) w1) := hid (by
    refine ⟨?_, hb1⟩
    show w1.ownsRow _ _ _ _ 2 (ncells [posR head 0, posR head 1])
    rw [hP0, hP1]
    exact row_new hl1 rfl (by decide) (by omega))
  clear h hn hx hb1 hs1 hl1 hP0 hP1
  go_enter Try.func41, Try.ntmps41
  go_wp2_with fail
  refine (HAT.out head 0 V hh (by decide)).mono ?_
  rintro e w5 ⟨rfl, hw5⟩
  rw [HP0.out, hw5]
  clear hw5 w5
  go_wp2_with fail
  refine (HAT.out head 1 V hh (by decide)).mono ?_
  rintro e w5 ⟨rfl, hw5⟩
  rw [HP1.out, hw5]
  clear hw5 w5
  have HY := hid hY
  go_wp2
  clear hY
  go_loopg [16, 5] n (fun g t16 t5 wr => ∃ (k : Nat) (v5 : Value), g + k = n ∧ t16 = .int .i64 ((k : Nat) : Int) ∧ t5 = v5 ∧ Hid (Wds V (wordsR head (xs.take k)) v5 wr))
  case atStart => exact ⟨0, _, rfl, rfl, rfl, HW1⟩
  case round =>
    obtain ⟨k, v5, hk, rfl, rfl, hWd⟩ := hrel
    have HK := hid hk
    clear hk
    obtain ⟨a5, c5, e5, -⟩ := Leads.of_own hWd.out.row
    obtain ⟨n5, hn5⟩ : ∃ q, (wordsR head (xs.take k)).length = q := ⟨_, rfl⟩
    rw [hn5] at e5
    have HN5 := hid hn5
    subst e5
    clear hn5
    by_cases hlt : k < n
    · obtain ⟨⟨p1, p2, p3⟩, ht⟩ : ∃ t, xs[k]? = some t := ⟨_, List.getElem?_eq_getElem (by rw [HN.out]; exact hlt)⟩
      obtain ⟨b, off, rfl, -, hcc⟩ := H.out.tw hlt ht
      obtain ⟨f0, f1, f2⟩ := hcc _ hWd.out.below
      have hp1 : p1 < 18446744073709551616 := HXL.out _ (List.mem_of_getElem? ht)
      have HTK : Hid (wordsR head (xs.take (k + 1)) = wordsR head (xs.take k) ++ (List.range 4).map (posR p1)) := hid (by rw [take_snoc ht]; unfold wordsR; simp)
      obtain ⟨w2, hw2, hb2, hs2, hl2⟩ := laid wr #[.int .u64 ((p1 : Nat) : Int), .int .u64 ((p2 : Nat) : Int), .int .u64 ((p3 : Nat) : Int)] 28
      obtain ⟨T, hT⟩ : ∃ T, wr.heap.size = T := ⟨_, rfl⟩
      rw [hT] at hl2
      have HT2 := hid hl2
      have HW2 := hid (hWd.out.grow hb2)
      have HVT : Hid (V.heap.size ≤ T) := hid (by rw [← hT]; exact hWd.out.below.size)
      obtain ⟨G, hG⟩ : ∃ G, G = gk - 1 := ⟨_, rfl⟩
      have HG := hid hG
      have hgk : 1 ≤ gk := by have := HK.out; omega
      have HGK : Hid (1 ≤ gk ∧ G + 1 = gk) := hid ⟨hgk, by omega⟩
      clear hcc ht hb2 hs2 hl2 hG hgk
      go_wp2
      go_loopg [20, 5] 4 (fun g t20 t5 wr => ∃ (j : Nat) (v5 : Value), g + j = 4 ∧ t20 = .int .i64 ((j : Nat) : Int) ∧ t5 = v5 ∧ Hid (Wds V (wordsR head (xs.take k) ++ (List.range j).map (posR p1)) v5 wr) ∧ Hid (wr.heap[T]? = some (.cells #[.int .u64 ((p1 : Nat) : Int), .int .u64 ((p2 : Nat) : Int), .int .u64 ((p3 : Nat) : Int)] 28 (0, 0))))
      case atStart => exact ⟨0, _, rfl, rfl, rfl, hid (by simpa using HW2.out), HT2⟩
      case round =>
        obtain ⟨j, v5, hj, rfl, rfl, hWj, hTj⟩ := hrel
        have HJ := hid hj
        clear hj
        obtain ⟨a6, c6, e6, -⟩ := Leads.of_own hWj.out.row
        obtain ⟨n6, hn6⟩ : ∃ q, (wordsR head (xs.take k) ++ (List.range j).map (posR p1)).length = q := ⟨_, rfl⟩
        rw [hn6] at e6
        have HN6 := hid hn6
        subst e6
        have hn6' : n6 ≤ 100000 := by rw [← hn6, List.length_append, wordsR_len, List.length_map, List.length_range, List.length_take]; have := HJ.out; omega
        clear hn6
        by_cases hlt4 : j < 4
        · obtain ⟨P, hP⟩ : ∃ P, posR p1 j = P := ⟨_, rfl⟩
          have HP := hid hP
          have t0 := cell_laid (i := 0) hTj.out rfl
          clear hP
          go_wp2_with fail
          refine (HAT.out p1 j wr hp1 (by omega)).mono ?_
          rintro e w5 ⟨rfl, hw5⟩
          rw [HP.out, hw5]
          clear hw5 w5
          obtain ⟨w5, hw5, hb5, hs5, hl5⟩ := laid wr #[.int .i64 ((P : Nat) : Int)] 3
          obtain ⟨Z, hZ⟩ : ∃ Z, wr.heap.size = Z := ⟨_, rfl⟩
          rw [hZ] at hl5
          have HL5 := hid hl5
          have HW5 := hid (hWj.out.grow hb5)
          have HT5 := hid (keep_laid hTj.out hb5)
          have HOW : Hid (w5.ownsRow V.heap.size 3 1 (.slice a6 n6 c6) n6 (ncells (wordsR head (xs.take k) ++ (List.range j).map (posR p1)))) := hid (by have := HW5.out.row; rw [HN6.out] at this; exact this)
          clear hb5 hs5 hl5 t0
          go_wp2_with ((with_reducible show wpList _ _ _ _ _ _); refine wp_appendM elemInts rfl (.tmp 23) (.tmp 28) rfl V.heap.size (.slice a6 n6 c6) n6 (ncells (wordsR head (xs.take k) ++ (List.range j).map (posR p1))) rfl HOW.out ⟨Z, 0, none⟩ 1 1 [.int .i64 ((P : Nat) : Int)] rfl rfl ?c1 ?c2 ?c3 ?c4 ?c5)
          case c1 => intro i u hi; refine cell_add (o := 0) (by rw [Nat.zero_add]; exact cell_laid HL5.out (by simpa using hi))
          case c2 => first | (intro u hu; simp at hu; subst hu; rfl) | omega
          try (case c3 => omega)
          try (case c4 => exact HW5.out.below.size)
          case c5 =>
            intro v' w6 ho hg hmv
            have HW6 := hid (HW5.out.app (q := P) (v' := v') (by rw [HN6.out]; exact ho) hg)
            have HT6 := hid (keep_grown HT5.out hg (own_ne HOW.out HT5.out (by decide)))
            obtain ⟨x7, y7, e7, -⟩ := Leads.of_own ho
            subst e7
            clear ho hg hmv
            go_wp2
            go_roundg (gk - 1)
            case measure => have := HJ.out; omega
            case rel => exact ⟨j + 1, _, by have := HJ.out; omega, by go_num, rfl, hid (by have := HW6.out; rw [← HP.out] at this; rw [List.range_succ, List.map_append, List.map_singleton, ← List.append_assoc]; exact this), HT6⟩
        · have e4 : j = 4 := by have := HJ.out; omega
          subst e4
          have HWE : Hid (Wds V (wordsR head (xs.take (k + 1))) (.slice a6 n6 c6) wr) := hid (by rw [HTK.out]; exact hWj.out)
          clear hlt4
          go_wp2
          go_roundg G
          case measure => have := HGK.out; omega
          case rel => exact ⟨k + 1, _, by have := HK.out; have := HGK.out; omega, by go_num, rfl, HWE⟩
    · have e := HK.out
      obtain rfl : k = n := by omega
      have HE : Hid (Wds V (wordsR head xs) (.slice a5 n5 c5) wr) := hid (by
        have := hWd.out
        rwa [List.take_of_length_le (by rw [HN.out]; exact Nat.le_refl _)] at this)
      clear hWd e HK
      go_wp2
      go_ret
      exact ⟨_, rfl, HE.out⟩
end Go.Proofs.Ytoihjmdpbbcbjaa
