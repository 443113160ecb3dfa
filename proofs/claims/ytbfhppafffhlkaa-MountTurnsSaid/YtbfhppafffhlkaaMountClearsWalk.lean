/- MountClears: the walk of the law. -/
import Derived.Test.YtbfhppafffhlkaaMountPlain2
import Derived.Test.YtbfhppafffhlkaaMount15
namespace Go.Proofs.Ytbfhppafffhlkaa
open Go.RowKit
open Go.Proofs
set_option linter.unusedVariables false

theorem Leads.apart_set {w : World} {a : Option Addr} {n cap D i : Nat} {cs : List Value} {u : Value} (h : Leads w a n cap cs) (hne : ∀ b off, a = some ⟨b, off, none⟩ → b ≠ D) : Leads (w.setCell ⟨D, i, none⟩ u) a n cap cs := by
  obtain ⟨h1, h2, h | ⟨b, off, h3, h4, h5⟩⟩ := h
  · exact ⟨h1, h2, .inl h⟩
  · refine ⟨h1, h2, .inr ⟨b, off, h3, by simpa [World.setCell] using h4, fun i' v hv => ?_⟩⟩
    rw [← h5 i' v hv]
    exact World.cell?_of_block (Below.heap_setCell w ⟨D, i, none⟩ u b (hne b off h3))
theorem own_ne_lt {w : World} {base n size cap D : Nat} {e : TypeId} {a : Option Addr} {xs : List Value} (h : w.ownsRow base e size (.slice a n cap) n xs) (hD : w.heap.size ≤ D) : ∀ b off, a = some ⟨b, off, none⟩ → b ≠ D := by
  intro b off e
  have := own_lt h b (by rw [e]; rfl)
  omega
theorem own_ne_gt {w : World} {base n size cap D : Nat} {e : TypeId} {a : Option Addr} {xs : List Value} (h : w.ownsRow base e size (.slice a n cap) n xs) (hD : D < base) : ∀ b off, a = some ⟨b, off, none⟩ → b ≠ D := by
  intro b off e
  have := h.lt b (by rw [e]; rfl)
  omega

set_option maxRecDepth 100000 in
theorem clears1_any (ms : List (Nat × Nat)) (a : Option Addr) (n cap nx p1 p2 D : Nat) (w : World) (hl : ms.length = n) (hok : mok ms) (hn : n ≤ 1000) (hnx : nx < 18446744073709551616) (hp1 : p1 < 18446744073709551616)
    (hbx : w.heap[D]? = some (.cells #[.slice a n cap, .int .u64 ((nx : Nat) : Int)] 25 (0, 0))) (h : Leads w a n cap (mcells ms)) :
    Calls Try.prog 23 #[.agg #[.int .u64 ((p1 : Nat) : Int), .int .u64 ((p2 : Nat) : Int)], .pointer (some ⟨D, 0, none⟩)] w (Ret (.bool (decide (underN ms nx p1 = []))) w) := by
  obtain ⟨w1, hw1, hb1, hs1, hl1⟩ := laid w #[.int .u64 ((p1 : Nat) : Int), .int .u64 ((p2 : Nat) : Int)] 51
  have hc0 := cell_laid hl1 (i := 0) rfl
  have hd0 := cell_laid (keep_laid hbx hb1) (i := 0) rfl
  have hd1 := cell_laid (keep_laid hbx hb1) (i := 1) rfl
  have hU := mUnder_any ms a n cap nx p1 w1 hl hok hn hnx hp1 (h.grow hb1)
  obtain ⟨us, hus⟩ : ∃ us, underN ms nx p1 = us := ⟨_, rfl⟩
  obtain ⟨m, hm⟩ : ∃ m, us.length = m := ⟨_, rfl⟩
  rw [hus] at hU ⊢
  have HU := hid hU
  have HM := hid hm
  have HD : Hid (decide (us = []) = decide ((m : Int) = 0)) := hid (by
    rw [Bool.eq_iff_iff, decide_eq_true_iff, decide_eq_true_iff, ← List.length_eq_zero_iff, hm]; omega)
  clear hs1 hl1 hU hm h hl hok hbx hus
  by_cases h0 : m = 0
  · subst h0
    rw [show decide (((0 : Nat) : Int) = 0) = true from rfl] at HD
    go_enter Try.func23, Try.ntmps23
    go_wp2_with fail
    refine HU.out.mono ?_
    rintro e w2 ⟨v, rfl, ho, hb2⟩
    rw [HM.out] at ho
    obtain ⟨a2, c2, rfl, hl2⟩ := Leads.of_own ho
    have hl3 := hl2.len
    clear ho hl2
    go_wp2
    go_ret
    exact ⟨retb HD.out.symm, step hb1 hb2⟩
  · have q : (((m : Nat) : Int) == 0) = false := by simpa using h0
    rw [show decide (((m : Nat) : Int) = 0) = false from decide_eq_false (by omega)] at HD
    go_enter Try.func23, Try.ntmps23
    go_wp2_with fail
    refine HU.out.mono ?_
    rintro e w2 ⟨v, rfl, ho, hb2⟩
    rw [HM.out] at ho
    obtain ⟨a2, c2, rfl, hl2⟩ := Leads.of_own ho
    have hl3 := hl2.len
    clear ho hl2
    go_wp2
    go_ret
    exact ⟨retb HD.out.symm, step hb1 hb2⟩

/-- The first one below which there is none. -/
def IdxP (ms : List (Nat × Nat)) (nx : Nat) (w : World) (e : Ending) (w' : World) : Prop :=
  ∃ (k : Nat) (p : Nat × Nat), e = .returned (.int .i64 (k : Nat)) ∧ ms[k]? = some p ∧ underN ms nx p.1 = [] ∧ Below w.heap.size w w'
set_option maxRecDepth 100000 in
theorem idxM_any (ms : List (Nat × Nat)) (a : Option Addr) (n cap nx D : Nat) (w : World) (hl : ms.length = n) (hok : mok ms) (hn : n ≤ 1000) (hnx : nx < 18446744073709551616)
    (hbx : w.heap[D]? = some (.cells #[.slice a n cap, .int .u64 ((nx : Nat) : Int)] 25 (0, 0))) (h : Leads w a n cap (mcells ms)) (hex : ∃ (k : Nat) (p : Nat × Nat), ms[k]? = some p ∧ underN ms nx p.1 = []) :
    Calls Try.prog 22 #[.slice a n cap, .func (.func 23) #[] #[.pointer (some ⟨D, 0, none⟩)]] w (IdxP ms nx w) := by
  have HCL := hid fun (W : World) (hW : Below w.heap.size w W) (p1 p2 : Nat) (hp : p1 < 18446744073709551616) => clears1_any ms a n cap nx p1 p2 D W hl hok hn hnx hp (keep_laid hbx hW) (h.grow hW)
  have H := hid h
  have HL := hid hl
  have HX := hid hex
  have HOK := hid hok
  have hn1 := h.len.1
  clear h hl hex hok hbx
  go_enter Try.func22, Try.ntmps22
  go_wp2
  go_loopg [5, 8] n (fun g _ i wr => ∃ k : Nat, g + k = n ∧ i = .int .i64 (k : Nat) ∧ Hid (∀ (j : Nat) (p : Nat × Nat), j < k → ms[j]? = some p → underN ms nx p.1 ≠ []) ∧ Below w.heap.size w wr)
  case atStart => exact ⟨0, rfl, rfl, hid (fun j p hj => absurd hj (Nat.not_lt_zero j)), Below.refl _ _⟩
  case round =>
    obtain ⟨k, hk, rfl, hno, hb⟩ := hrel
    have HK := hid hk
    clear hk
    by_cases hlt : k < n
    · obtain ⟨⟨p1, p2⟩, hp⟩ : ∃ p, ms[k]? = some p := ⟨_, List.getElem?_eq_getElem (by rw [HL.out]; exact hlt)⟩
      obtain ⟨b, off, rfl, hbl, hc⟩ := H.out.mount hlt hp
      have hc1 := (hc wr hb).1
      have hc2 := (hc wr hb).2
      dsimp only at hc1 hc2
      have hpw := (HOK.out _ (List.mem_of_getElem? hp)).1
      have hC := HCL.out wr hb p1 p2 hpw
      by_cases he : underN ms nx p1 = []
      · rw [decide_eq_true he] at hC
        have HC := hid hC
        have HE := hid he
        have HP := hid hp
        clear hC he hp hno hc
        go_wp2_with fail
        refine HC.out.mono ?_
        rintro e w1 ⟨rfl, hb1⟩
        go_wp2
        go_ret
        exact ⟨k, (p1, p2), rfl, HP.out, HE.out, step hb hb1⟩
      · rw [decide_eq_false he] at hC
        have HC := hid hC
        have HN : Hid (∀ (j : Nat) (p : Nat × Nat), j < k + 1 → ms[j]? = some p → underN ms nx p.1 ≠ []) := hid (by
          intro j p hj hp'
          by_cases e : j = k
          · subst e; rw [hp] at hp'; cases hp'; exact he
          · exact hno.out j p (by omega) hp')
        clear hC he hp hno hc
        go_wp2_with fail
        refine HC.out.mono ?_
        rintro e w1 ⟨rfl, hb1⟩
        go_wp2
        go_roundg (gk - 1)
        case measure => have := HK.out; omega
        case rel => exact ⟨k + 1, by have := HK.out; omega, by go_num, HN, step hb hb1⟩
    · exfalso
      obtain ⟨k', p, hp, he⟩ := HX.out
      obtain ⟨hk', _⟩ := List.getElem?_eq_some_iff.1 hp
      exact hno.out k' p (by have := HL.out; omega) hp he

/-- What holds ahead of each round. -/
structure ClearJ (B D n0 nx : Nat) (a0 : Option Addr) (cap0 : Nat) (l : List (Nat × Nat)) (a : Option Addr) (m c : Nat) (w W : World) : Prop where
  box : W.heap[B]? = some (.cells #[.slice a0 n0 cap0, .int .u64 ((nx : Nat) : Int)] 25 (0, 0))
  blk : W.heap[D]? = some (.cells #[.slice a m c, .int .u64 ((nx : Nat) : Int)] 25 (0, 0))
  ld : Leads W a m c (mcells l)
  ap : ∀ b off, a = some ⟨b, off, none⟩ → b ≠ D
  len : l.length = m
  good : goodM l nx = true
  ok : mok l
  below : Below w.heap.size w W
theorem ClearJ.grow {B D n0 nx : Nat} {a0 : Option Addr} {cap0 : Nat} {l : List (Nat × Nat)} {a : Option Addr} {m c : Nat} {w W W' : World} (h : ClearJ B D n0 nx a0 cap0 l a m c w W) (hb : Below W.heap.size W W') : ClearJ B D n0 nx a0 cap0 l a m c w W' :=
  ⟨keep_laid h.box hb, keep_laid h.blk hb, h.ld.grow hb, h.ap, h.len, h.good, h.ok, step h.below hb⟩
/-- What the round's own Drop leaves. -/
structure ClearX (D m1 nx : Nat) (l : List (Nat × Nat)) (E : Nat) (a' : Option Addr) (c' : Nat) (w W : World) : Prop where
  blk : W.heap[E]? = some (.cells #[.slice a' m1 c', .int .u64 ((nx : Nat) : Int)] 25 (0, 0))
  ld : Leads W a' m1 c' (mcells l)
  ap : ∀ b off, a' = some ⟨b, off, none⟩ → b ≠ D
  below : Below w.heap.size w W
  gt : D < E
/-- What Drop gives where both may be. -/
theorem drop_good_any (ms : List (Nat × Nat)) (a : Option Addr) (n n' cap nx : Nat) (p : Nat × Nat) (w : World) (hn' : n = n' + 1) (hl : ms.length = n) (hok : mok ms) (hn : n ≤ 1000) (hnx : nx < 18446744073709551616) (hg : goodM ms nx = true) (hp : p ∈ ms) (h : Leads w a n cap (mcells ms)) :
    Calls Try.prog 11 #[.agg #[.slice a n cap, .int .u64 (nx : Nat)], .int .u64 ((p.1 : Nat) : Int)] w (fun e w' => Below w.heap.size w w' ∧
      (belowM ms p.1 = [] → ∃ a' c', e = .returned (.tuple #[.agg #[.slice a' n' c', .int .u64 ((nx : Nat) : Int)], .int .i64 0]) ∧ w'.ownsRow w.heap.size 51 2 (.slice a' n' c') n' (mcells (keptM ms p.1))) ∧
      (belowM ms p.1 ≠ [] → e = .returned (.tuple #[.agg #[.slice none 0 0, .int .u64 0], .int .i64 341]))) := by
  refine (mDrop_any ms a n cap nx p.1 w hl hok hn hnx (hok p hp).1 h).mono ?_
  rintro e w' ⟨v, h1, hb⟩
  obtain ⟨-, hh, -, hd⟩ := good_under hg p hp
  rw [hd] at h1
  refine ⟨hb, fun he => ?_, fun he => ?_⟩
  · rw [if_pos he, if_pos rfl] at h1
    obtain ⟨rfl, ho⟩ := h1
    have hk := kept_len hg hh
    have e : (keptM ms p.1).length = n' := by omega
    rw [e] at ho
    obtain ⟨a', c', rfl, -⟩ := Leads.of_own ho
    exact ⟨a', c', rfl, ho⟩
  · rw [if_neg he, if_neg (by decide)] at h1
    exact h1

set_option maxRecDepth 100000 in
set_option maxHeartbeats 2000000 in
theorem mountClears.walk (a0 : Option Addr) (cap0 nx : Nat) (ms : List (Nat × Nat)) (w : World) (h0 : Leads w a0 ms.length cap0 (mcells ms)) (ok0 : mok ms) (hnx : nx < 18446744073709551616) :
    Calls Try.prog 6 #[.agg #[.slice a0 ms.length cap0, .int .u64 (nx : Nat)]] w (Ret (.bool true) w) := by
  obtain ⟨n0, en0⟩ : ∃ n, ms.length = n := ⟨_, rfl⟩
  rw [en0] at h0 ⊢
  obtain ⟨n, hn⟩ : ∃ n : Nat, min (n0 : Int) 18 = (n : Int) := ⟨min n0 18, by omega⟩
  have hn18 : n ≤ 18 := by omega
  obtain ⟨l, hlt⟩ : ∃ l, ms.take n = l := ⟨_, rfl⟩
  have hll : l.length = n := by rw [← hlt, List.length_take, en0]; omega
  have hlk : mok l := fun p hp => ok0 p (List.mem_of_mem_take (hlt ▸ hp))
  obtain ⟨B, hB⟩ : ∃ B, w.heap.size = B := ⟨_, rfl⟩
  obtain ⟨w1, hw1, hb1, hs1, hl1⟩ := laid w #[.slice a0 n0 cap0, .int .u64 ((nx : Nat) : Int)] 25
  rw [hB] at hl1
  have HL1 := hid hl1
  have HLL := hid hll
  have HLK := hid hlk
  have HOWN := hid fun W (hW : Below w1.heap.size w1 W) => own_any ms a0 n0 n cap0 nx W en0 hn (h0.grow (step hb1 hW))
  rw [hlt] at HOWN
  have hC := fun W a c h => mCheck_any l a n c nx W HLL.out HLK.out (by omega) hnx h
  clear hl1 hll hlk hlt h0 ok0 en0 hs1 hn
  cases hg : goodM l nx with
  | false =>
    rw [show chkE l nx = 340 by unfold chkE; rw [hg]; rfl] at hC
    have HC := hid hC
    clear hC hg
    go_enter Try.func6, Try.ntmps6
    go_wp2_with fail
    refine (wakes_any _).mono ?_
    rintro e w2 ⟨rfl, hb2⟩
    have k0 := cell_laid (i := 0) (keep_laid HL1.out hb2) rfl
    have k1 := cell_laid (i := 1) (keep_laid HL1.out hb2) rfl
    go_wp2_with fail
    refine (HOWN.out _ hb2).mono ?_
    rintro e w3 ⟨v, rfl, ho, hb3⟩
    obtain ⟨a1, c1, rfl, hld⟩ := Leads.of_own ho
    obtain ⟨w4, hw4, hb4, hs4, hl4⟩ := laid w3 #[.slice a1 n c1, .int .u64 ((nx : Nat) : Int)] 25
    have HV4 := hid (hld.grow hb4)
    have HL4 := hid hl4
    have hb14 := step (step (step hb1 hb2) hb3) hb4
    have m0 := cell_laid (i := 0) hl4 rfl
    have m1 := cell_laid (i := 1) hl4 rfl
    clear k0 k1 ho hld hl4 hs4
    go_wp2_with fail
    refine (HC.out _ _ _ HV4.out).mono ?_
    rintro e w5 ⟨rfl, hb5⟩
    go_wp2
    go_ret
    exact ⟨rfl, step hb14 hb5⟩
  | true =>
    rw [show chkE l nx = 0 by unfold chkE; rw [hg]; rfl] at hC
    have HC := hid hC
    have HG := hid hg
    clear hC hg
    go_enter Try.func6, Try.ntmps6
    go_wp2_with fail
    refine (wakes_any _).mono ?_
    rintro e w2 ⟨rfl, hb2⟩
    have k0 := cell_laid (i := 0) (keep_laid HL1.out hb2) rfl
    have k1 := cell_laid (i := 1) (keep_laid HL1.out hb2) rfl
    go_wp2_with fail
    refine (HOWN.out _ hb2).mono ?_
    rintro e w3 ⟨v, rfl, ho, hb3⟩
    obtain ⟨a1, c1, rfl, hld⟩ := Leads.of_own ho
    obtain ⟨w4, hw4, hb4, hs4, hl4⟩ := laid w3 #[.slice a1 n c1, .int .u64 ((nx : Nat) : Int)] 25
    obtain ⟨D, hD⟩ : ∃ D, w3.heap.size = D := ⟨_, rfl⟩
    rw [hD] at hl4 hs4
    have hBD : B < D := by have := hb2.size; have := hb3.size; have := lt_laid HL1.out; omega
    have hb14 := step (step (step hb1 hb2) hb3) hb4
    have hwD : w.heap.size ≤ D := by omega
    have HJ0 : Hid (ClearJ B D n0 nx a0 cap0 l a1 n c1 w w4) := hid ⟨keep_laid HL1.out (step (step hb2 hb3) hb4), hl4, hld.grow hb4, own_ne_lt ho (by omega), HLL.out, HG.out, HLK.out, hb14⟩
    have m0 := cell_laid (i := 0) hl4 rfl
    have m1 := cell_laid (i := 1) hl4 rfl
    clear k0 k1 ho hld hl4 hs4 HL1
    go_wp2_with fail
    refine (HC.out _ _ _ HJ0.out.ld).mono ?_
    rintro e w5 ⟨rfl, hb5⟩
    have HJ5 := hid (HJ0.out.grow hb5)
    have j0 := cell_laid (i := 0) HJ5.out.blk rfl
    have hnm : n ≤ 9223372036854775807 := by omega
    clear m0 m1
    go_wp2
    go_loopg [4, 8, 10, 21, 32] n (fun g _ _ _ i _ wr => ∃ (j m : Nat) (l : List (Nat × Nat)) (a : Option Addr) (c : Nat), g + j = n ∧ Hid (m + j = n) ∧ i = .int .i64 (j : Nat) ∧ Hid (ClearJ B D n0 nx a0 cap0 l a m c w wr))
    case atStart => exact ⟨0, n, l, a1, c1, rfl, hid rfl, rfl, HJ5⟩
    case round =>
      obtain ⟨j, m, l, a, c, hj, hmj, rfl, HJ⟩ := hrel
      have HK := hid hj
      clear hj
      have i0 := cell_laid (i := 0) HJ.out.blk rfl
      have i1 := cell_laid (i := 1) HJ.out.blk rfl
      by_cases hlt : j < n
      · have hm18 : m ≤ 18 := by have := hmj.out; omega
        have hm0 : 0 < m := by have := hmj.out; omega
        have HDP : Hid (∃ (k : Nat) (p : Nat × Nat), l[k]? = some p ∧ underN l nx p.1 = []) := hid (by
          have hne : l ≠ [] := by intro e; have := HJ.out.len; rw [e] at this; simp at this; omega
          obtain ⟨k, p, hp, hb⟩ := deepest HJ.out.good hne
          exact ⟨k, p, hp, by rw [(good_under HJ.out.good p (List.mem_of_getElem? hp)).2.2.1, hb]; rfl⟩)
        have HIX := hid (idxM_any l a m c nx D wr HJ.out.len HJ.out.ok (by omega) hnx HJ.out.blk HJ.out.ld HDP.out)
        go_wp2_with fail
        refine HIX.out.mono ?_
        rintro e w6 ⟨k, p, rfl, hp, he, hb6⟩
        have hkm : k < m := by obtain ⟨h, _⟩ := List.getElem?_eq_some_iff.1 hp; have := HJ.out.len; omega
        have HP := hid hp
        have HE := hid he
        have HJ6 := hid (HJ.out.grow hb6)
        clear i0 i1 hp he
        have i0 := cell_laid (i := 0) HJ6.out.blk rfl
        have i1 := cell_laid (i := 1) HJ6.out.blk rfl
        obtain ⟨G, hG⟩ : ∃ G, G = gk - 1 := ⟨_, rfl⟩
        have HGK := hid hG
        clear hG
        go_wp2
        go_loopg [8, 32] m (fun g _ i wr => ∃ q : Nat, g + q = m ∧ i = .int .i64 (q : Nat) ∧ Below w6.heap.size w6 wr)
        case atStart => exact ⟨0, rfl, rfl, Below.refl _ _⟩
        case round =>
          obtain ⟨q, hq, rfl, hbq⟩ := hrel
          have HQ := hid hq
          clear hq
          have HJ7 := hid (HJ6.out.grow hbq)
          by_cases hqm : q < m
          · obtain ⟨⟨p1, p2⟩, hpq⟩ : ∃ p, l[q]? = some p := ⟨_, List.getElem?_eq_getElem (by rw [HJ.out.len]; exact hqm)⟩
            obtain ⟨b, off, ea, hbl, hc⟩ := HJ7.out.ld.mount hqm hpq
            have hc1 := (hc wr (Below.refl _ _)).1
            have hc2 := (hc wr (Below.refl _ _)).2
            dsimp only at hc1 hc2
            have hin : (p1, p2) ∈ l := List.mem_of_getElem? hpq
            have hpw := (HJ.out.ok _ hin).1
            dsimp only at hpw
            obtain ⟨wb, hwb, hbb, hsb, hlb⟩ := laid wr #[.int .u64 ((p1 : Nat) : Int), .int .u64 ((p2 : Nat) : Int)] 51
            have HLB := hid hlb
            have HJB := hid (HJ7.out.grow hbb)
            obtain ⟨m1, hm1⟩ : ∃ m1, m = m1 + 1 := ⟨m - 1, by omega⟩
            have hDR := drop_good_any l a m m1 c nx (p1, p2) wb hm1 HJ.out.len HJ.out.ok (by omega) hnx HJ.out.good hin HJB.out.ld
            dsimp only at hDR
            have hUN := fun W h => mUnder_any l a m c nx p1 W HJ.out.len HJ.out.ok (by omega) hnx hpw h
            have hgu := (good_under HJ.out.good (p1, p2) hin).2.2.1
            dsimp only at hgu
            rw [hgu] at hUN
            have hx0 := cell_laid hlb (i := 0) rfl
            have hx1 := cell_laid hlb (i := 1) rfl
            have x0 := cell_laid (i := 0) HJB.out.blk rfl
            have x1 := cell_laid (i := 1) HJB.out.blk rfl
            have HDR := hid hDR
            subst ea
            clear hDR hgu hin hpq hc hbl hlb hsb i0 i1 hm1
            by_cases hbe : belowM l p1 = []
            · rw [hbe] at hUN
              have HUN := hid hUN
              have HBE := hid hbe
              clear hUN hbe
              go_wp2_with fail
              refine HDR.out.mono ?_
              rintro e w8 ⟨hb8, h1, h2⟩
              obtain ⟨a', c', rfl, -⟩ := h1 HBE.out
              clear h2
              obtain ⟨w9, hw9, hb9, hs9, hl9⟩ := laid w8 #[.slice a' m1 c', .int .u64 ((nx : Nat) : Int)] 25
              have hb89 := step hb8 hb9
              have hy0 := cell_laid (keep_laid HLB.out hb89) (i := 0) rfl
              have hy1 := cell_laid (keep_laid HLB.out hb89) (i := 1) rfl
              have y0 := cell_laid (i := 0) (keep_laid HJB.out.blk hb89) rfl
              have y1 := cell_laid (i := 1) (keep_laid HJB.out.blk hb89) rfl
              clear h1 hl9 hs9 x0 x1
              go_wp2_with fail
              refine (HUN.out _ (HJB.out.ld.grow hb89)).mono ?_
              rintro e w10 ⟨v, rfl, ho, hb10⟩
              have ho : w10.ownsRow w9.heap.size 23 1 v 0 (wcells []) := ho
              obtain ⟨a2, c2, rfl, hl2⟩ := Leads.of_own ho
              have hl3 := hl2.len
              clear ho hl2
              go_wp2
              go_roundg (gk - 1)
              case measure => have := HQ.out; omega
              case rel => exact ⟨q + 1, by have := HQ.out; omega, by go_num, step (step hbq hbb) (step hb89 hb10)⟩
            · obtain ⟨N, hN⟩ : ∃ N, ((belowM l p1).map (·.2)).length = N := ⟨_, rfl⟩
              have hN0 : 0 < N := by rw [← hN, List.length_map]; exact List.length_pos_iff.2 hbe
              have hN1 : N ≤ 1000 := by
                rw [← hN, List.length_map]
                have := List.length_filter_le (fun p : Nat × Nat => decide (p.1 ≠ p1) && aheadB p1 p.1) l
                have h2 := HJ.out.len
                unfold belowM
                omega
              have HN := hid hN
              have HUN := hid hUN
              have HBE := hid hbe
              clear hUN hbe hN
              go_wp2_with fail
              refine HDR.out.mono ?_
              rintro e w8 ⟨hb8, h1, h2⟩
              have h2' := h2 HBE.out
              clear h2
              subst h2'
              obtain ⟨w9, hw9, hb9, hs9, hl9⟩ := laid w8 #[.slice none 0 0, .int .u64 0] 25
              have hf0 := free_laid (i := 0) hl9
              have hf1 := free_laid (i := 1) hl9
              have hd0 := cell_laid (i := 0) hl9 rfl
              have hd1 := cell_laid (i := 1) hl9 rfl
              obtain ⟨w9x, hw9x⟩ : ∃ w9x, (w9.setCell ⟨w8.heap.size, 0, none⟩ (.slice none 0 0)).setCell ⟨w8.heap.size, 1, none⟩ (.int .u64 0) = w9x := ⟨_, rfl⟩
              have hb9 : Below w8.heap.size w8 w9x := by rw [← hw9x]; exact (hb9.setCell (p := ⟨w8.heap.size, 0, none⟩) (Nat.le_refl _) (.slice none 0 0)).setCell (p := ⟨w8.heap.size, 1, none⟩) (Nat.le_refl _) (.int .u64 0)
              have hb89 := step hb8 hb9
              have hy0 := cell_laid (keep_laid HLB.out hb89) (i := 0) rfl
              have hy1 := cell_laid (keep_laid HLB.out hb89) (i := 1) rfl
              have y0 := cell_laid (i := 0) (keep_laid HJB.out.blk hb89) rfl
              have y1 := cell_laid (i := 1) (keep_laid HJB.out.blk hb89) rfl
              clear h1 hl9 hs9 x0 x1
              go_wp2_with fail
              refine (HUN.out _ (HJB.out.ld.grow hb89)).mono ?_
              rintro e w10 ⟨v, rfl, ho, hb10⟩
              rw [HN.out] at ho
              obtain ⟨a2, c2, rfl, hl2⟩ := Leads.of_own ho
              have hl3 := hl2.len
              clear ho hl2
              go_wp2
              go_roundg (gk - 1)
              case measure => have := HQ.out; omega
              case rel => exact ⟨q + 1, by have := HQ.out; omega, by go_num, step (step hbq hbb) (step hb89 hb10)⟩
          · clear HQ
            have i0 := cell_laid (i := 0) HJ7.out.blk rfl
            have i1 := cell_laid (i := 1) HJ7.out.blk rfl
            obtain ⟨p1, p2⟩ := p
            obtain ⟨b, off, ea, hbl, hc⟩ := HJ7.out.ld.mount hkm HP.out
            subst ea
            have f0 : ∀ z : Ext wr, z.v.cell? ⟨D, 0, none⟩ = some (.slice (some ⟨b, off, none⟩) m c) := fun z => cell_laid (keep_laid HJ7.out.blk z.b) rfl
            have f1 : ∀ z : Ext wr, z.v.cell? ⟨D, 1, none⟩ = some (.int .u64 ((nx : Nat) : Int)) := fun z => cell_laid (keep_laid HJ7.out.blk z.b) rfl
            have f2 : ∀ z : Ext wr, z.v.cell? ⟨b, off + k * 2, none⟩ = some (.int .u64 ((p1 : Nat) : Int)) := fun z => (hc z.v z.b).1
            obtain ⟨m1, hm1⟩ : ∃ m1, m = m1 + 1 := ⟨m - 1, by omega⟩
            have HM1 := hid hm1
            have hin : (p1, p2) ∈ l := List.mem_of_getElem? HP.out
            have hgu := (good_under HJ.out.good (p1, p2) hin).2.2.1
            have hbe : belowM l p1 = [] := by
              have h := HE.out
              rw [hgu] at h
              simpa using h
            have HDR := hid fun W (h : Leads W (some ⟨b, off, none⟩) m c (mcells l)) => drop_good_any l (some ⟨b, off, none⟩) m m1 c nx (p1, p2) W hm1 HJ.out.len HJ.out.ok (by omega) hnx HJ.out.good hin h
            have HBE := hid hbe
            have HIN := hid hin
            have hDr : D < wr.heap.size := lt_laid HJ7.out.blk
            have hk64 : k ≤ 18 := by omega
            clear hc hbl hgu hbe hin hm1 i0 i1
            go_upto_region 18 with (fail)
            go_cut [9, 10] (fun t9 t10 ws => ∃ (E : Nat) (a' : Option Addr) (c' : Nat), t9 = .pointer (some ⟨E, 0, none⟩) ∧ t10 = .int .i64 0 ∧ ClearX D m1 nx (keptM l p1) E a' c' wr ws)
            case first =>
              refine wp_region_mix2 (fun w' => ∃ z : Ext wr, w' = z.v) 14 (.q 0 (.q 1 (.q 2 (.q 3 (.q 4 (.q 5 (.q 6 (.h2 7 (.q 8 (.q 9 (.q 10 (.h 11 (.h 12 (.q 13 (.done))))))) 11 (.h 7 (.q 8 (.q 9 (.q 10 (.h 12 (.q 13 (.done))))))))))))))) (by kernel_rfl) (by kernel_rfl) ⟨⟨_, (Below.refl _ _).drew⟩, rfl⟩ ?_
              repeat (refine wpMix2_q rfl rfl ?_; go_big_quiet_step (fail); refine wpQuiet_nil ?_)
              refine wpMix2_h2 ?_ ?_
              · refine wpMix2_h rfl fun R' hR' hO => ?_
                go_wp2_with fail
                refine (HDR.out _ (HJ7.out.ld.grow (Below.refl _ _).drew)).mono ?_
                rintro e w8 ⟨hb8, h1, -⟩
                obtain ⟨a', c', rfl, ho8⟩ := h1 HBE.out
                have hr8 : Below wr.heap.size wr w8 := (Below.refl _ _).drew.trans hb8
                have HO8 := hid ho8
                clear h1 ho8
                go_wp2
                refine hR' _ _ ⟨⟨_, hr8⟩, rfl⟩ ?_
                repeat (refine wpMix2_q rfl rfl ?_; go_big_quiet_step (fail); refine wpQuiet_nil ?_)
                refine wpMix2_h rfl fun R' hR' hO => ?_
                obtain ⟨wa, hwa, hba, hsa, hla⟩ := laid w8 #[.slice none 0 0, .int .u64 0] 25
                obtain ⟨E, hE⟩ : ∃ E, w8.heap.size = E := ⟨_, rfl⟩
                have hE2 : wr.heap.size ≤ E := by rw [← hE]; exact hr8.size
                rw [hE] at hla hsa
                have hra := step hr8 hba
                have hf0 := free_laid (i := 0) hla
                have hf1 := free_laid (i := 1) hla
                have hd0 := cell_laid (i := 0) hla rfl
                have hd1 := cell_laid (i := 1) hla rfl
                have HBLK := hid (set_laid (i := 1) (set_laid (i := 0) hla (.slice a' m1 c')) (.int .u64 ((nx : Nat) : Int)))
                have HBW := hid (hra.setCell (p := ⟨E, 0, none⟩) (by show wr.heap.size ≤ E; exact hE2) (.slice a' m1 c') |>.setCell (p := ⟨E, 1, none⟩) (by show wr.heap.size ≤ E; exact hE2) (.int .u64 ((nx : Nat) : Int)))
                have HLD := hid (leads_own (own_grow HO8.out (hba.setCell (p := ⟨E, 0, none⟩) (by show w8.heap.size ≤ E; omega) (.slice a' m1 c') |>.setCell (p := ⟨E, 1, none⟩) (by show w8.heap.size ≤ E; omega) (.int .u64 ((nx : Nat) : Int)))))
                clear hla
                go_wp2
                refine hR' _ _ ⟨⟨_, hra⟩, rfl⟩ ?_
                refine wpMix2_h rfl fun R' hR' hO => ?_
                go_wp2
                refine hR' _ _ ⟨⟨_, HBW.out⟩, rfl⟩ ?_
                repeat (refine wpMix2_q rfl rfl ?_; go_big_quiet_step (fail); refine wpQuiet_nil ?_)
                refine wpMix2_done ?_
                simp only [List.drop_succ_cons, List.drop_nil]
                go_wp2
                go_meet
                exact ⟨E, a', c', rfl, rfl, HBLK.out, HLD.out, own_ne_gt HO8.out hDr, HBW.out, by omega⟩
              · refine wpMix2_h rfl fun R' hR' hO => ?_
                obtain ⟨wa, hwa, hba, hsa, hla⟩ := laid wr.drew #[.slice none 0 0, .int .u64 0] 25
                obtain ⟨E, hE⟩ : ∃ E, wr.heap.size = E := ⟨_, rfl⟩
                have hE' : wr.drew.heap.size = E := hE
                have hE2 : wr.heap.size ≤ E := by omega
                rw [hE'] at hla
                have hra : Below wr.heap.size wr wa := (Below.refl _ _).drew.trans hba
                have HLA := hid hla
                clear hla hsa
                go_wp2
                refine hR' _ _ ⟨⟨_, hra⟩, rfl⟩ ?_
                refine wpMix2_h rfl fun R' hR' hO => ?_
                go_wp2_with fail
                refine (HDR.out _ (HJ7.out.ld.grow hra)).mono ?_
                rintro e w8 ⟨hb8, h1, -⟩
                obtain ⟨a', c', rfl, ho8⟩ := h1 HBE.out
                have hr8 := step hra hb8
                have HO8 := hid ho8
                have hl8 := keep_laid HLA.out hb8
                have hf0 := free_laid (i := 0) hl8
                have hf1 := free_laid (i := 1) hl8
                have hd0 := cell_laid (i := 0) hl8 rfl
                have hd1 := cell_laid (i := 1) hl8 rfl
                have hEa := lt_laid HLA.out
                have HBLK := hid (set_laid (i := 1) (set_laid (i := 0) hl8 (.slice a' m1 c')) (.int .u64 ((nx : Nat) : Int)))
                have HBW := hid (hr8.setCell (p := ⟨E, 0, none⟩) (by show wr.heap.size ≤ E; exact hE2) (.slice a' m1 c') |>.setCell (p := ⟨E, 1, none⟩) (by show wr.heap.size ≤ E; exact hE2) (.int .u64 ((nx : Nat) : Int)))
                have HLD := hid (leads_own (ownsRow_setCell_below (a := ⟨E, 1, none⟩) (ownsRow_setCell_below (a := ⟨E, 0, none⟩) HO8.out hEa (.slice a' m1 c')) hEa (.int .u64 ((nx : Nat) : Int))))
                have hap := own_ne_gt HO8.out (D := D) (by have := hra.size; omega)
                have HAP := hid hap
                clear h1 ho8 hl8 hap
                go_wp2
                refine hR' _ _ ⟨⟨_, hr8⟩, rfl⟩ ?_
                repeat (refine wpMix2_q rfl rfl ?_; go_big_quiet_step (fail); refine wpQuiet_nil ?_)
                refine wpMix2_h rfl fun R' hR' hO => ?_
                go_wp2
                refine hR' _ _ ⟨⟨_, HBW.out⟩, rfl⟩ ?_
                repeat (refine wpMix2_q rfl rfl ?_; go_big_quiet_step (fail); refine wpQuiet_nil ?_)
                refine wpMix2_done ?_
                simp only [List.drop_succ_cons, List.drop_nil]
                go_wp2
                go_meet
                exact ⟨E, a', c', rfl, rfl, HBLK.out, HLD.out, HAP.out, HBW.out, by omega⟩
            case rest =>
              obtain ⟨E, a', c', rfl, rfl, hX⟩ := hcut
              have HX := hid hX
              have e0 := cell_laid (i := 0) hX.blk rfl
              have e1 := cell_laid (i := 1) hX.blk rfl
              have HJ9 := hid (HJ7.out.grow hX.below)
              have hf0 := free_laid (i := 0) HJ9.out.blk
              have hf1 := free_laid (i := 1) HJ9.out.blk
              have d0 := cell_laid (i := 0) HJ9.out.blk rfl
              have d1 := cell_laid (i := 1) HJ9.out.blk rfl
              have HJE : Hid (ClearJ B D n0 nx a0 cap0 (keptM l p1) a' m1 c' w ((wc.setCell ⟨D, 0, none⟩ (.slice a' m1 c')).setCell ⟨D, 1, none⟩ (.int .u64 ((nx : Nat) : Int)))) := hid
                ⟨other_laid (other_laid HJ9.out.box (by omega) _) (by omega) _, set_laid (i := 1) (set_laid (i := 0) HJ9.out.blk (.slice a' m1 c')) (.int .u64 ((nx : Nat) : Int)),
                  (HX.out.ld.apart_set HX.out.ap).apart_set HX.out.ap, HX.out.ap,
                  by have h1 := kept_len HJ.out.good (hasM_mem.2 (List.mem_map_of_mem HIN.out)); have h2 := HJ.out.len; have h3 := HM1.out; dsimp only at h1; omega,
                  good_kept p1 HJ.out.good, kept_ok HJ.out.ok,
                  ((HJ9.out.below.setCell (p := ⟨D, 0, none⟩) (by show w.heap.size ≤ D; exact hwD) (.slice a' m1 c')).setCell (p := ⟨D, 1, none⟩) (by show w.heap.size ≤ D; exact hwD) (.int .u64 ((nx : Nat) : Int)))⟩
              have hED : E ≠ D := by have := hX.gt; omega
              clear hX
              go_wp2
              go_roundg G
              case measure => have := HGK.out; have := HK.out; omega
              case rel => exact ⟨j + 1, m1, keptM l p1, a', c', by have := HGK.out; have := HK.out; omega, hid (by have := hmj.out; have := HM1.out; omega), by go_num, HJE⟩
      · obtain rfl : m = 0 := by have := hmj.out; have := HK.out; omega
        have b1 := cell_laid (i := 1) HJ.out.box rfl
        have hbl := HJ.out.below
        clear HK
        go_wp2
        go_ret
        exact ⟨rfl, hbl⟩
end Go.Proofs.Ytbfhppafffhlkaa
