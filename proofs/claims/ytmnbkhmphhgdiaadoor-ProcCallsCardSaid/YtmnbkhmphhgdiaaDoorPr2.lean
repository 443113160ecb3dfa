/- Processes: rows of which something holds (printed by gen_pr2.py). -/
import Derived.Test.YtmnbkhmphhgdiaaDoorPr1
import Derived.Test.YtmnbkhmphhgdiaaDoorPrClone
namespace Go.Proofs.YtmnbkhmphhgdiaaDoor
open Go.RowKit
open Go.Proofs
set_option linter.unusedVariables false
attribute [local go_sem] Oper.semAt_some
/-- Where the first process stands of which something holds. -/
def IdxP (q : Pr → Bool) (xs : List Pr) (i : Int) : Prop := (i = -1 ∧ ∀ x ∈ xs, q x = false) ∨ ∃ k x, i = ((k : Nat) : Int) ∧ xs[k]? = some x ∧ q x = true ∧ ∀ y ∈ xs.take k, q y = false
theorem IdxP.any {q : Pr → Bool} {xs : List Pr} {i : Int} (h : IdxP q xs i) : decide (i ≥ 0) = xs.any q := by
  rcases h with ⟨rfl, h⟩ | ⟨k, x, rfl, h1, h2, -⟩
  · rw [show xs.any q = false from List.any_eq_false.2 fun x hx => by rw [h x hx]; decide]; rfl
  · rw [show xs.any q = true from List.any_eq_true.2 ⟨x, List.mem_of_getElem? h1, h2⟩]; exact decide_eq_true (by omega)
theorem take_pr {xs : List Pr} {k : Nat} {x : Pr} (h : xs[k]? = some x) : xs.take (k + 1) = xs.take k ++ [x] := take_snoc h
/-- A row that a call has made. -/
def GivesPr (xs : List Pr) (V : World) (e : Ending) (W : World) : Prop := ∃ v, e = .returned v ∧ W.ownsRow V.heap.size 45 4 v xs.length (prcells xs) ∧ Below V.heap.size V W
set_option maxRecDepth 100000 in
set_option maxHeartbeats 2000000 in
theorem IdxLeast (xs : List Pr) (q : Pr → Bool) (a : Option Addr) (n cap X0 : Nat) (V : World) (h : Leads V a n cap (prcells xs)) (hn : xs.length = n) (hn5 : n ≤ 1000) (hq : ∀ (t : Pr) (W : World), t ∈ xs → Below V.heap.size V W → Calls Tryd.prog 54 #[prV t, .pointer (some ⟨X0, 0, none⟩)] W (Ret (.bool (q t)) W)) :
    Calls Tryd.prog 55 #[.slice a n cap, .func (.func 54) #[] #[.pointer (some ⟨X0, 0, none⟩)]] V (fun e W => ∃ i : Int, e = .returned (.int .i64 i) ∧ IdxP q xs i ∧ Below V.heap.size V W) := by
  have hl := h.len
  have H := hid h
  have HN := hid hn
  have HQ := hid hq
  clear h hn hq
  go_enter Tryd.func55, Tryd.ntmps55
  go_wp2
  go_loopg [8] n (fun g i wr => ∃ k : Nat, g + k = n ∧ i = .int .i64 (k : Nat) ∧ Hid (∀ y ∈ xs.take k, q y = false) ∧ Hid (Below V.heap.size V wr))
  case atStart => exact ⟨0, rfl, rfl, hid (by simp), hid (Below.refl _ _)⟩
  case round =>
    obtain ⟨k, hk, rfl, hs, hb⟩ := hrel
    have HK := hid hk
    clear hk
    by_cases hlt : k < n
    · obtain ⟨⟨x0, x1, x2, x3⟩, hx⟩ : ∃ x, xs[k]? = some x := ⟨_, List.getElem?_eq_getElem (by rw [HN.out]; exact hlt)⟩
      obtain ⟨b, off, rfl, -, hcc⟩ := H.out.pr hlt hx
      obtain ⟨f0, f1, f2, f3⟩ := hcc _ hb.out
      have HX := hid hx
      have HI := hid (HQ.out (x0, x1, x2, x3) wr (List.mem_of_getElem? HX.out) hb.out)
      obtain ⟨E, hE⟩ : ∃ E, q (x0, x1, x2, x3) = E := ⟨_, rfl⟩
      rw [hE] at HI
      have HE := hid hE
      unfold prV at HI
      clear hcc hx hE
      cases E with
      | true =>
        go_wp2_with fail
        refine HI.out.mono ?_
        rintro e w2 ⟨rfl, hb2⟩
        have HB2 := hid (hb.out.trans (hb2.mono hb.out.size))
        clear hb2
        go_wp2
        go_ret
        exact ⟨_, rfl, .inr ⟨k, _, rfl, HX.out, HE.out, hs.out⟩, HB2.out⟩
      | false =>
        have HT : Hid (∀ y ∈ xs.take (k + 1), q y = false) := hid (by
          intro y hy
          rw [take_pr HX.out, List.mem_append, List.mem_singleton] at hy
          rcases hy with hy | rfl
          · exact hs.out y hy
          · exact HE.out)
        go_wp2_with fail
        refine HI.out.mono ?_
        rintro e w2 ⟨rfl, hb2⟩
        have HB2 := hid (hb.out.trans (hb2.mono hb.out.size))
        clear hb2 hs
        go_wp2
        go_roundg (gk - 1)
        case measure => have := HK.out; omega
        case rel => exact ⟨k + 1, by have := HK.out; omega, by go_num, HT, HB2⟩
    · have e := HK.out
      obtain rfl : k = n := by omega
      have HE : Hid (∀ y ∈ xs, q y = false) := hid (by
        have := hs.out
        rwa [List.take_of_length_le (by rw [HN.out]; exact Nat.le_refl _)] at this)
      clear hs e HK
      go_wp2
      go_ret
      exact ⟨_, rfl, .inl ⟨rfl, HE.out⟩, hb.out⟩
set_option maxRecDepth 100000 in
theorem HasLeast (xs : List Pr) (q : Pr → Bool) (a : Option Addr) (n cap X0 : Nat) (V : World) (h : Leads V a n cap (prcells xs)) (hn : xs.length = n) (hn5 : n ≤ 1000) (hq : ∀ (t : Pr) (W : World), t ∈ xs → Below V.heap.size V W → Calls Tryd.prog 54 #[prV t, .pointer (some ⟨X0, 0, none⟩)] W (Ret (.bool (q t)) W)) :
    Calls Tryd.prog 53 #[.slice a n cap, .func (.func 54) #[] #[.pointer (some ⟨X0, 0, none⟩)]] V (Ret (.bool (xs.any q)) V) := by
  have hl := h.len
  have HI := hid (IdxLeast xs q a n cap X0 V h hn hn5 hq)
  have HN := hid hn
  clear h hn hq
  go_enter Tryd.func53, Tryd.ntmps53
  go_wp2_with fail
  refine HI.out.mono ?_
  rintro e w ⟨i, rfl, hi, hb⟩
  have HE := hid hi.any
  obtain ⟨B, hB⟩ : ∃ B, decide (i ≥ 0) = B := ⟨_, rfl⟩
  rw [hB] at HE
  have hB' : decide (0 ≤ i) = B := hB
  have hib : -1 ≤ i ∧ i ≤ 9223372036854775807 := by
    rcases hi with ⟨rfl, -⟩ | ⟨k, x, rfl, h1, -⟩
    · decide
    · have := (List.getElem?_eq_some_iff.1 h1).1; have := HN.out; omega
  clear hi
  go_wp2
  go_ret
  exact ⟨retb HE.out, hb⟩
set_option maxRecDepth 100000 in
set_option maxHeartbeats 2000000 in
theorem IdxPut (xs : List Pr) (q : Pr → Bool) (a : Option Addr) (n cap X0 : Nat) (V : World) (h : Leads V a n cap (prcells xs)) (hn : xs.length = n) (hn5 : n ≤ 1000) (hq : ∀ (t : Pr) (W : World), t ∈ xs → Below V.heap.size V W → Calls Tryd.prog 56 #[prV t, .pointer (some ⟨X0, 0, none⟩)] W (Ret (.bool (q t)) W)) :
    Calls Tryd.prog 55 #[.slice a n cap, .func (.func 56) #[] #[.pointer (some ⟨X0, 0, none⟩)]] V (fun e W => ∃ i : Int, e = .returned (.int .i64 i) ∧ IdxP q xs i ∧ Below V.heap.size V W) := by
  have hl := h.len
  have H := hid h
  have HN := hid hn
  have HQ := hid hq
  clear h hn hq
  go_enter Tryd.func55, Tryd.ntmps55
  go_wp2
  go_loopg [8] n (fun g i wr => ∃ k : Nat, g + k = n ∧ i = .int .i64 (k : Nat) ∧ Hid (∀ y ∈ xs.take k, q y = false) ∧ Hid (Below V.heap.size V wr))
  case atStart => exact ⟨0, rfl, rfl, hid (by simp), hid (Below.refl _ _)⟩
  case round =>
    obtain ⟨k, hk, rfl, hs, hb⟩ := hrel
    have HK := hid hk
    clear hk
    by_cases hlt : k < n
    · obtain ⟨⟨x0, x1, x2, x3⟩, hx⟩ : ∃ x, xs[k]? = some x := ⟨_, List.getElem?_eq_getElem (by rw [HN.out]; exact hlt)⟩
      obtain ⟨b, off, rfl, -, hcc⟩ := H.out.pr hlt hx
      obtain ⟨f0, f1, f2, f3⟩ := hcc _ hb.out
      have HX := hid hx
      have HI := hid (HQ.out (x0, x1, x2, x3) wr (List.mem_of_getElem? HX.out) hb.out)
      obtain ⟨E, hE⟩ : ∃ E, q (x0, x1, x2, x3) = E := ⟨_, rfl⟩
      rw [hE] at HI
      have HE := hid hE
      unfold prV at HI
      clear hcc hx hE
      cases E with
      | true =>
        go_wp2_with fail
        refine HI.out.mono ?_
        rintro e w2 ⟨rfl, hb2⟩
        have HB2 := hid (hb.out.trans (hb2.mono hb.out.size))
        clear hb2
        go_wp2
        go_ret
        exact ⟨_, rfl, .inr ⟨k, _, rfl, HX.out, HE.out, hs.out⟩, HB2.out⟩
      | false =>
        have HT : Hid (∀ y ∈ xs.take (k + 1), q y = false) := hid (by
          intro y hy
          rw [take_pr HX.out, List.mem_append, List.mem_singleton] at hy
          rcases hy with hy | rfl
          · exact hs.out y hy
          · exact HE.out)
        go_wp2_with fail
        refine HI.out.mono ?_
        rintro e w2 ⟨rfl, hb2⟩
        have HB2 := hid (hb.out.trans (hb2.mono hb.out.size))
        clear hb2 hs
        go_wp2
        go_roundg (gk - 1)
        case measure => have := HK.out; omega
        case rel => exact ⟨k + 1, by have := HK.out; omega, by go_num, HT, HB2⟩
    · have e := HK.out
      obtain rfl : k = n := by omega
      have HE : Hid (∀ y ∈ xs, q y = false) := hid (by
        have := hs.out
        rwa [List.take_of_length_le (by rw [HN.out]; exact Nat.le_refl _)] at this)
      clear hs e HK
      go_wp2
      go_ret
      exact ⟨_, rfl, .inl ⟨rfl, HE.out⟩, hb.out⟩
set_option maxRecDepth 100000 in
set_option maxHeartbeats 4000000 in
theorem KeptKids (xs : List Pr) (q : Pr → Bool) (a : Option Addr) (n cap X0 : Nat) (V : World) (h : Leads V a n cap (prcells xs)) (hn : xs.length = n) (hn5 : n ≤ 1000) (hq : ∀ (t : Pr) (W : World), Below V.heap.size V W → Calls Tryd.prog 50 #[prV t, .pointer (some ⟨X0, 0, none⟩)] W (Ret (.bool (q t)) W)) :
    Calls Tryd.prog 39 #[.slice a n cap, .func (.func 50) #[] #[.pointer (some ⟨X0, 0, none⟩)]] V (GivesPr (xs.filter q) V) := by
  have hl := h.len
  have H := hid h
  have HN := hid hn
  have HQ := hid hq
  clear h hn hq
  go_enter Tryd.func39, Tryd.ntmps39
  go_wp2
  go_loopg [10, 5] n (fun g i t5 wr => ∃ (k : Nat) (v : Value) (m : Nat), g + k = n ∧ i = .int .i64 (k : Nat) ∧ t5 = v ∧ m ≤ k ∧ Hid (((xs.take k).filter q).length = m) ∧ Hid (wr.ownsRow V.heap.size 45 4 v m (prcells ((xs.take k).filter q))) ∧ Hid (Below V.heap.size V wr))
  case atStart => exact ⟨0, _, 0, rfl, rfl, rfl, Nat.le_refl _, hid rfl, hid (World.ownsRow_nil _ _ _ _), hid (Below.refl _ _)⟩
  case round =>
    obtain ⟨k, v, m, hk, rfl, hv, hmk, hm, ho, hb⟩ := hrel
    obtain ⟨va, vc, rfl, -⟩ := Leads.of_own ho.out
    subst hv
    have HK := hid hk
    have HMK := hid hmk
    clear hk
    by_cases hlt : k < n
    · obtain ⟨⟨x0, x1, x2, x3⟩, hx⟩ : ∃ x, xs[k]? = some x := ⟨_, List.getElem?_eq_getElem (by rw [HN.out]; exact hlt)⟩
      obtain ⟨b, off, rfl, -, hcc⟩ := H.out.pr hlt hx
      obtain ⟨f0, f1, f2, f3⟩ := hcc _ hb.out
      have HX := hid hx
      obtain ⟨w1, hw1, hb1, hs1, hl1⟩ := laid wr #[.int .u64 0, .int .u64 0, .bool false, .int .u64 0] 45
      obtain ⟨B, hB⟩ : ∃ X, wr.heap.size = X := ⟨_, rfl⟩
      rw [hB] at hl1
      have hVB : V.heap.size ≤ B := by have := hb.out.size; omega
      obtain ⟨w2, hw2, a1, a2, a3, a4⟩ := putN4 hl1 (.int .u64 ((x0 : Nat) : Int)) (.int .u64 ((x1 : Nat) : Int)) (.bool x2) (.int .u64 ((x3 : Nat) : Int))
      have E2 := hid hw2
      have HB1 := hid (hb.out.trans (hb1.mono hb.out.size))
      have HB2 := hid (a3 _ _ hVB HB1.out)
      have HOw := hid (own_keep (own_grow ho.out hb1) fun i u hi hu => a2 i u (fun e => by have := own_lt ho.out i hi; omega) hu)
      have KB2 := hid a1
      obtain ⟨z0, zf0, z1, zf1, z2, zf2, z3, zf3⟩ := fcl4 (hl1)
      clear hcc hx hb1 hs1 hl1 hw2 a1 a2 a3 a4
      go_upto_region 5 with (fail)
      rw [← E2.out]
      clear z0 zf0 z1 zf1 z2 zf2 z3 zf3 f0 f1 f2 f3 hw1 hB
      have HI := hid (HQ.out (x0, x1, x2, x3) w2 HB2.out)
      obtain ⟨E, hE⟩ : ∃ E, q (x0, x1, x2, x3) = E := ⟨_, rfl⟩
      rw [hE] at HI
      have HE := hid hE
      unfold prV at HI
      obtain ⟨c0, c1, c2, c3⟩ := ncl4 (KB2.out)
      clear hE
      cases E with
      | true =>
        have HT : Hid ((xs.take (k + 1)).filter q = (xs.take k).filter q ++ [(x0, x1, x2, x3)]) := hid (by rw [take_pr HX.out, List.filter_append, List.filter_cons, if_pos HE.out]; rfl)
        go_wp2_with fail
        refine HI.out.mono ?_
        rintro e w3 ⟨rfl, hb3⟩
        have HB3 := hid (HB2.out.trans (hb3.mono HB2.out.size))
        have HO3 := hid (own_grow HOw.out hb3)
        have KB3 := hid (keep_laid KB2.out hb3)
        clear hb3 c0 c1 c2 c3
        obtain ⟨c0, c1, c2, c3⟩ := ncl4 (KB3.out)
        obtain ⟨w4, hw4, hb4, hs4, hl4⟩ := laid w3 #[.int .u64 ((x0 : Nat) : Int), .int .u64 ((x1 : Nat) : Int), .bool x2, .int .u64 ((x3 : Nat) : Int)] 45
        have HL4 := hid hl4
        have HO4 := hid (own_grow HO3.out hb4)
        have HB4 := hid (HB3.out.trans (hb4.mono HB3.out.size))
        have hV4 : V.heap.size ≤ w4.heap.size := HB4.out.size
        have hm6 : m ≤ 1000000 := by omega
        clear hb4 hs4 hl4
        go_wp2_with ((with_reducible show wpList _ _ _ _ _ _); refine wp_append1 elemPr rfl (.tmp 17) (.tmp 19) rfl V.heap.size (.slice va m vc) m _ rfl HO4.out w3.heap.size [.int .u64 ((x0 : Nat) : Int), .int .u64 ((x1 : Nat) : Int), .bool x2, .int .u64 ((x3 : Nat) : Int)] rfl rfl ?c1 ?c2 hm6 hV4 ?c3)
        case c1 =>
          intro i u hi
          exact cell_laid HL4.out (by simpa using hi)
        case c2 => first | exact pr4_one (x0, x1, x2, x3) | exact hm6
        case c3 =>
          intro v' w5 hown' hb5 hg5
          obtain ⟨a', cap', rfl, -⟩ := Leads.of_own hown'
          have HO5 : Hid (w5.ownsRow V.heap.size 45 4 (.slice a' (m + 1) cap') (m + 1) (prcells ((xs.take (k + 1)).filter q))) := hid (by rw [HT.out, prcells_snoc]; exact hown')
          have HB5 := hid (HB4.out.trans hb5)
          have HM5 : Hid (((xs.take (k + 1)).filter q).length = m + 1) := hid (by rw [HT.out, List.length_append, hm.out]; rfl)
          clear hown' hb5 hg5
          go_wp2
          go_roundg (gk - 1)
          case measure => have := HK.out; omega
          case rel => exact ⟨k + 1, _, m + 1, by have := HK.out; omega, by go_num, rfl, by have := HMK.out; omega, HM5, HO5, HB5⟩
      | false =>
        have HT : Hid ((xs.take (k + 1)).filter q = (xs.take k).filter q) := hid (by rw [take_pr HX.out, List.filter_append, List.filter_cons, if_neg (by rw [HE.out]; decide)]; simp)
        go_wp2_with fail
        refine HI.out.mono ?_
        rintro e w3 ⟨rfl, hb3⟩
        have HB3 := hid (HB2.out.trans (hb3.mono HB2.out.size))
        have HO3 : Hid (w3.ownsRow V.heap.size 45 4 (.slice va m vc) m (prcells ((xs.take (k + 1)).filter q))) := hid (by rw [HT.out]; exact own_grow HOw.out hb3)
        have HM5 : Hid (((xs.take (k + 1)).filter q).length = m) := hid (by rw [HT.out, hm.out])
        clear hb3
        go_wp2
        go_roundg (gk - 1)
        case measure => have := HK.out; omega
        case rel => exact ⟨k + 1, _, m, by have := HK.out; omega, by go_num, rfl, by have := HMK.out; omega, HM5, HO3, HB3⟩
    · have e := HK.out
      obtain rfl : k = n := by omega
      have HE : Hid (xs.take k = xs) := hid (List.take_of_length_le (by rw [HN.out]; exact Nat.le_refl _))
      clear e HK
      go_wp2
      go_ret
      exact ⟨_, rfl, by have h1 := ho.out; rw [HE.out] at h1; have h2 := hm.out; rw [HE.out] at h2; rw [h2]; exact h1, hb.out⟩
set_option maxRecDepth 100000 in
set_option maxHeartbeats 4000000 in
theorem KeptExit (xs : List Pr) (q : Pr → Bool) (a : Option Addr) (n cap X0 X1 : Nat) (V : World) (h : Leads V a n cap (prcells xs)) (hn : xs.length = n) (hn5 : n ≤ 1000) (hq : ∀ (t : Pr) (W : World), Below V.heap.size V W → Calls Tryd.prog 40 #[prV t, .pointer (some ⟨X0, 0, none⟩), .pointer (some ⟨X1, 0, none⟩)] W (Ret (.bool (q t)) W)) :
    Calls Tryd.prog 39 #[.slice a n cap, .func (.func 40) #[] #[.pointer (some ⟨X0, 0, none⟩), .pointer (some ⟨X1, 0, none⟩)]] V (GivesPr (xs.filter q) V) := by
  have hl := h.len
  have H := hid h
  have HN := hid hn
  have HQ := hid hq
  clear h hn hq
  go_enter Tryd.func39, Tryd.ntmps39
  go_wp2
  go_loopg [10, 5] n (fun g i t5 wr => ∃ (k : Nat) (v : Value) (m : Nat), g + k = n ∧ i = .int .i64 (k : Nat) ∧ t5 = v ∧ m ≤ k ∧ Hid (((xs.take k).filter q).length = m) ∧ Hid (wr.ownsRow V.heap.size 45 4 v m (prcells ((xs.take k).filter q))) ∧ Hid (Below V.heap.size V wr))
  case atStart => exact ⟨0, _, 0, rfl, rfl, rfl, Nat.le_refl _, hid rfl, hid (World.ownsRow_nil _ _ _ _), hid (Below.refl _ _)⟩
  case round =>
    obtain ⟨k, v, m, hk, rfl, hv, hmk, hm, ho, hb⟩ := hrel
    obtain ⟨va, vc, rfl, -⟩ := Leads.of_own ho.out
    subst hv
    have HK := hid hk
    have HMK := hid hmk
    clear hk
    by_cases hlt : k < n
    · obtain ⟨⟨x0, x1, x2, x3⟩, hx⟩ : ∃ x, xs[k]? = some x := ⟨_, List.getElem?_eq_getElem (by rw [HN.out]; exact hlt)⟩
      obtain ⟨b, off, rfl, -, hcc⟩ := H.out.pr hlt hx
      obtain ⟨f0, f1, f2, f3⟩ := hcc _ hb.out
      have HX := hid hx
      obtain ⟨w1, hw1, hb1, hs1, hl1⟩ := laid wr #[.int .u64 0, .int .u64 0, .bool false, .int .u64 0] 45
      obtain ⟨B, hB⟩ : ∃ X, wr.heap.size = X := ⟨_, rfl⟩
      rw [hB] at hl1
      have hVB : V.heap.size ≤ B := by have := hb.out.size; omega
      obtain ⟨w2, hw2, a1, a2, a3, a4⟩ := putN4 hl1 (.int .u64 ((x0 : Nat) : Int)) (.int .u64 ((x1 : Nat) : Int)) (.bool x2) (.int .u64 ((x3 : Nat) : Int))
      have E2 := hid hw2
      have HB1 := hid (hb.out.trans (hb1.mono hb.out.size))
      have HB2 := hid (a3 _ _ hVB HB1.out)
      have HOw := hid (own_keep (own_grow ho.out hb1) fun i u hi hu => a2 i u (fun e => by have := own_lt ho.out i hi; omega) hu)
      have KB2 := hid a1
      obtain ⟨z0, zf0, z1, zf1, z2, zf2, z3, zf3⟩ := fcl4 (hl1)
      clear hcc hx hb1 hs1 hl1 hw2 a1 a2 a3 a4
      go_upto_region 5 with (fail)
      rw [← E2.out]
      clear z0 zf0 z1 zf1 z2 zf2 z3 zf3 f0 f1 f2 f3 hw1 hB
      have HI := hid (HQ.out (x0, x1, x2, x3) w2 HB2.out)
      obtain ⟨E, hE⟩ : ∃ E, q (x0, x1, x2, x3) = E := ⟨_, rfl⟩
      rw [hE] at HI
      have HE := hid hE
      unfold prV at HI
      obtain ⟨c0, c1, c2, c3⟩ := ncl4 (KB2.out)
      clear hE
      cases E with
      | true =>
        have HT : Hid ((xs.take (k + 1)).filter q = (xs.take k).filter q ++ [(x0, x1, x2, x3)]) := hid (by rw [take_pr HX.out, List.filter_append, List.filter_cons, if_pos HE.out]; rfl)
        go_wp2_with fail
        refine HI.out.mono ?_
        rintro e w3 ⟨rfl, hb3⟩
        have HB3 := hid (HB2.out.trans (hb3.mono HB2.out.size))
        have HO3 := hid (own_grow HOw.out hb3)
        have KB3 := hid (keep_laid KB2.out hb3)
        clear hb3 c0 c1 c2 c3
        obtain ⟨c0, c1, c2, c3⟩ := ncl4 (KB3.out)
        obtain ⟨w4, hw4, hb4, hs4, hl4⟩ := laid w3 #[.int .u64 ((x0 : Nat) : Int), .int .u64 ((x1 : Nat) : Int), .bool x2, .int .u64 ((x3 : Nat) : Int)] 45
        have HL4 := hid hl4
        have HO4 := hid (own_grow HO3.out hb4)
        have HB4 := hid (HB3.out.trans (hb4.mono HB3.out.size))
        have hV4 : V.heap.size ≤ w4.heap.size := HB4.out.size
        have hm6 : m ≤ 1000000 := by omega
        clear hb4 hs4 hl4
        go_wp2_with ((with_reducible show wpList _ _ _ _ _ _); refine wp_append1 elemPr rfl (.tmp 17) (.tmp 19) rfl V.heap.size (.slice va m vc) m _ rfl HO4.out w3.heap.size [.int .u64 ((x0 : Nat) : Int), .int .u64 ((x1 : Nat) : Int), .bool x2, .int .u64 ((x3 : Nat) : Int)] rfl rfl ?c1 ?c2 hm6 hV4 ?c3)
        case c1 =>
          intro i u hi
          exact cell_laid HL4.out (by simpa using hi)
        case c2 => first | exact pr4_one (x0, x1, x2, x3) | exact hm6
        case c3 =>
          intro v' w5 hown' hb5 hg5
          obtain ⟨a', cap', rfl, -⟩ := Leads.of_own hown'
          have HO5 : Hid (w5.ownsRow V.heap.size 45 4 (.slice a' (m + 1) cap') (m + 1) (prcells ((xs.take (k + 1)).filter q))) := hid (by rw [HT.out, prcells_snoc]; exact hown')
          have HB5 := hid (HB4.out.trans hb5)
          have HM5 : Hid (((xs.take (k + 1)).filter q).length = m + 1) := hid (by rw [HT.out, List.length_append, hm.out]; rfl)
          clear hown' hb5 hg5
          go_wp2
          go_roundg (gk - 1)
          case measure => have := HK.out; omega
          case rel => exact ⟨k + 1, _, m + 1, by have := HK.out; omega, by go_num, rfl, by have := HMK.out; omega, HM5, HO5, HB5⟩
      | false =>
        have HT : Hid ((xs.take (k + 1)).filter q = (xs.take k).filter q) := hid (by rw [take_pr HX.out, List.filter_append, List.filter_cons, if_neg (by rw [HE.out]; decide)]; simp)
        go_wp2_with fail
        refine HI.out.mono ?_
        rintro e w3 ⟨rfl, hb3⟩
        have HB3 := hid (HB2.out.trans (hb3.mono HB2.out.size))
        have HO3 : Hid (w3.ownsRow V.heap.size 45 4 (.slice va m vc) m (prcells ((xs.take (k + 1)).filter q))) := hid (by rw [HT.out]; exact own_grow HOw.out hb3)
        have HM5 : Hid (((xs.take (k + 1)).filter q).length = m) := hid (by rw [HT.out, hm.out])
        clear hb3
        go_wp2
        go_roundg (gk - 1)
        case measure => have := HK.out; omega
        case rel => exact ⟨k + 1, _, m, by have := HK.out; omega, by go_num, rfl, by have := HMK.out; omega, HM5, HO3, HB3⟩
    · have e := HK.out
      obtain rfl : k = n := by omega
      have HE : Hid (xs.take k = xs) := hid (List.take_of_length_le (by rw [HN.out]; exact Nat.le_refl _))
      clear e HK
      go_wp2
      go_ret
      exact ⟨_, rfl, by have h1 := ho.out; rw [HE.out] at h1; have h2 := hm.out; rw [HE.out] at h2; rw [h2]; exact h1, hb.out⟩
set_option maxRecDepth 100000 in
set_option maxHeartbeats 4000000 in
theorem KeptWait (xs : List Pr) (q : Pr → Bool) (a : Option Addr) (n cap X0 : Nat) (V : World) (h : Leads V a n cap (prcells xs)) (hn : xs.length = n) (hn5 : n ≤ 1000) (hq : ∀ (t : Pr) (W : World), Below V.heap.size V W → Calls Tryd.prog 44 #[prV t, .pointer (some ⟨X0, 0, none⟩)] W (Ret (.bool (q t)) W)) :
    Calls Tryd.prog 39 #[.slice a n cap, .func (.func 44) #[] #[.pointer (some ⟨X0, 0, none⟩)]] V (GivesPr (xs.filter q) V) := by
  have hl := h.len
  have H := hid h
  have HN := hid hn
  have HQ := hid hq
  clear h hn hq
  go_enter Tryd.func39, Tryd.ntmps39
  go_wp2
  go_loopg [10, 5] n (fun g i t5 wr => ∃ (k : Nat) (v : Value) (m : Nat), g + k = n ∧ i = .int .i64 (k : Nat) ∧ t5 = v ∧ m ≤ k ∧ Hid (((xs.take k).filter q).length = m) ∧ Hid (wr.ownsRow V.heap.size 45 4 v m (prcells ((xs.take k).filter q))) ∧ Hid (Below V.heap.size V wr))
  case atStart => exact ⟨0, _, 0, rfl, rfl, rfl, Nat.le_refl _, hid rfl, hid (World.ownsRow_nil _ _ _ _), hid (Below.refl _ _)⟩
  case round =>
    obtain ⟨k, v, m, hk, rfl, hv, hmk, hm, ho, hb⟩ := hrel
    obtain ⟨va, vc, rfl, -⟩ := Leads.of_own ho.out
    subst hv
    have HK := hid hk
    have HMK := hid hmk
    clear hk
    by_cases hlt : k < n
    · obtain ⟨⟨x0, x1, x2, x3⟩, hx⟩ : ∃ x, xs[k]? = some x := ⟨_, List.getElem?_eq_getElem (by rw [HN.out]; exact hlt)⟩
      obtain ⟨b, off, rfl, -, hcc⟩ := H.out.pr hlt hx
      obtain ⟨f0, f1, f2, f3⟩ := hcc _ hb.out
      have HX := hid hx
      obtain ⟨w1, hw1, hb1, hs1, hl1⟩ := laid wr #[.int .u64 0, .int .u64 0, .bool false, .int .u64 0] 45
      obtain ⟨B, hB⟩ : ∃ X, wr.heap.size = X := ⟨_, rfl⟩
      rw [hB] at hl1
      have hVB : V.heap.size ≤ B := by have := hb.out.size; omega
      obtain ⟨w2, hw2, a1, a2, a3, a4⟩ := putN4 hl1 (.int .u64 ((x0 : Nat) : Int)) (.int .u64 ((x1 : Nat) : Int)) (.bool x2) (.int .u64 ((x3 : Nat) : Int))
      have E2 := hid hw2
      have HB1 := hid (hb.out.trans (hb1.mono hb.out.size))
      have HB2 := hid (a3 _ _ hVB HB1.out)
      have HOw := hid (own_keep (own_grow ho.out hb1) fun i u hi hu => a2 i u (fun e => by have := own_lt ho.out i hi; omega) hu)
      have KB2 := hid a1
      obtain ⟨z0, zf0, z1, zf1, z2, zf2, z3, zf3⟩ := fcl4 (hl1)
      clear hcc hx hb1 hs1 hl1 hw2 a1 a2 a3 a4
      go_upto_region 5 with (fail)
      rw [← E2.out]
      clear z0 zf0 z1 zf1 z2 zf2 z3 zf3 f0 f1 f2 f3 hw1 hB
      have HI := hid (HQ.out (x0, x1, x2, x3) w2 HB2.out)
      obtain ⟨E, hE⟩ : ∃ E, q (x0, x1, x2, x3) = E := ⟨_, rfl⟩
      rw [hE] at HI
      have HE := hid hE
      unfold prV at HI
      obtain ⟨c0, c1, c2, c3⟩ := ncl4 (KB2.out)
      clear hE
      cases E with
      | true =>
        have HT : Hid ((xs.take (k + 1)).filter q = (xs.take k).filter q ++ [(x0, x1, x2, x3)]) := hid (by rw [take_pr HX.out, List.filter_append, List.filter_cons, if_pos HE.out]; rfl)
        go_wp2_with fail
        refine HI.out.mono ?_
        rintro e w3 ⟨rfl, hb3⟩
        have HB3 := hid (HB2.out.trans (hb3.mono HB2.out.size))
        have HO3 := hid (own_grow HOw.out hb3)
        have KB3 := hid (keep_laid KB2.out hb3)
        clear hb3 c0 c1 c2 c3
        obtain ⟨c0, c1, c2, c3⟩ := ncl4 (KB3.out)
        obtain ⟨w4, hw4, hb4, hs4, hl4⟩ := laid w3 #[.int .u64 ((x0 : Nat) : Int), .int .u64 ((x1 : Nat) : Int), .bool x2, .int .u64 ((x3 : Nat) : Int)] 45
        have HL4 := hid hl4
        have HO4 := hid (own_grow HO3.out hb4)
        have HB4 := hid (HB3.out.trans (hb4.mono HB3.out.size))
        have hV4 : V.heap.size ≤ w4.heap.size := HB4.out.size
        have hm6 : m ≤ 1000000 := by omega
        clear hb4 hs4 hl4
        go_wp2_with ((with_reducible show wpList _ _ _ _ _ _); refine wp_append1 elemPr rfl (.tmp 17) (.tmp 19) rfl V.heap.size (.slice va m vc) m _ rfl HO4.out w3.heap.size [.int .u64 ((x0 : Nat) : Int), .int .u64 ((x1 : Nat) : Int), .bool x2, .int .u64 ((x3 : Nat) : Int)] rfl rfl ?c1 ?c2 hm6 hV4 ?c3)
        case c1 =>
          intro i u hi
          exact cell_laid HL4.out (by simpa using hi)
        case c2 => first | exact pr4_one (x0, x1, x2, x3) | exact hm6
        case c3 =>
          intro v' w5 hown' hb5 hg5
          obtain ⟨a', cap', rfl, -⟩ := Leads.of_own hown'
          have HO5 : Hid (w5.ownsRow V.heap.size 45 4 (.slice a' (m + 1) cap') (m + 1) (prcells ((xs.take (k + 1)).filter q))) := hid (by rw [HT.out, prcells_snoc]; exact hown')
          have HB5 := hid (HB4.out.trans hb5)
          have HM5 : Hid (((xs.take (k + 1)).filter q).length = m + 1) := hid (by rw [HT.out, List.length_append, hm.out]; rfl)
          clear hown' hb5 hg5
          go_wp2
          go_roundg (gk - 1)
          case measure => have := HK.out; omega
          case rel => exact ⟨k + 1, _, m + 1, by have := HK.out; omega, by go_num, rfl, by have := HMK.out; omega, HM5, HO5, HB5⟩
      | false =>
        have HT : Hid ((xs.take (k + 1)).filter q = (xs.take k).filter q) := hid (by rw [take_pr HX.out, List.filter_append, List.filter_cons, if_neg (by rw [HE.out]; decide)]; simp)
        go_wp2_with fail
        refine HI.out.mono ?_
        rintro e w3 ⟨rfl, hb3⟩
        have HB3 := hid (HB2.out.trans (hb3.mono HB2.out.size))
        have HO3 : Hid (w3.ownsRow V.heap.size 45 4 (.slice va m vc) m (prcells ((xs.take (k + 1)).filter q))) := hid (by rw [HT.out]; exact own_grow HOw.out hb3)
        have HM5 : Hid (((xs.take (k + 1)).filter q).length = m) := hid (by rw [HT.out, hm.out])
        clear hb3
        go_wp2
        go_roundg (gk - 1)
        case measure => have := HK.out; omega
        case rel => exact ⟨k + 1, _, m, by have := HK.out; omega, by go_num, rfl, by have := HMK.out; omega, HM5, HO3, HB3⟩
    · have e := HK.out
      obtain rfl : k = n := by omega
      have HE : Hid (xs.take k = xs) := hid (List.take_of_length_le (by rw [HN.out]; exact Nat.le_refl _))
      clear e HK
      go_wp2
      go_ret
      exact ⟨_, rfl, by have h1 := ho.out; rw [HE.out] at h1; have h2 := hm.out; rw [HE.out] at h2; rw [h2]; exact h1, hb.out⟩
end Go.Proofs.YtmnbkhmphhgdiaaDoor
