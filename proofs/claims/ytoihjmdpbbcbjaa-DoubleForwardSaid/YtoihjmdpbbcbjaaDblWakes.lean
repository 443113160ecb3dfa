/- Lists linked both ways: the layer is awake (printed by gen_dblwakes.py). -/
import Derived.Test.YtoihjmdpbbcbjaaDblZ
import Derived.Test.YtoihjmdpbbcbjaaMemLaw
namespace Go.Proofs.Ytoihjmdpbbcbjaa
open Go.RowKit
open Go.Proofs
set_option linter.unusedVariables false
attribute [local go_sem] Oper.semAt_some

def kmem (l : List Nat) : Mem := ⟨l, List.replicate 32 true, false⟩
def kl2 : List Nat := [4, 4, 0, 0, 7, 0, 0, 0, 0, 0, 0, 0, 0, 0, 0, 0, 0, 0, 0, 0, 0, 0, 0, 0, 0, 0, 0, 0, 0, 0, 0, 0]
def kl3 : List Nat := [4, 8, 0, 0, 7, 0, 8, 0, 9, 0, 0, 4, 0, 0, 0, 0, 0, 0, 0, 0, 0, 0, 0, 0, 0, 0, 0, 0, 0, 0, 0, 0]
def kl4 : List Nat := [12, 8, 0, 0, 7, 0, 8, 12, 9, 0, 0, 4, 0, 0, 4, 0, 0, 0, 0, 0, 0, 0, 0, 0, 0, 0, 0, 0, 0, 0, 0, 0]
def kl5 : List Nat := [12, 8, 0, 0, 7, 0, 8, 12, 9, 0, 0, 12, 0, 0, 8, 0, 0, 0, 0, 0, 0, 0, 0, 0, 0, 0, 0, 0, 0, 0, 0, 0]
def kl1 : List Nat := [0, 0, 0, 0, 0, 0, 0, 0, 0, 0, 0, 0, 0, 0, 0, 0, 0, 0, 0, 0, 0, 0, 0, 0, 0, 0, 0, 0, 0, 0, 0, 0]
theorem kins1 : insP (kmem kl1) 0 0 (4, 7, 0) = (kmem kl2, 7, 0) := by kernel_rfl
theorem kins2 : insP (kmem kl2) 0 4 (8, 9, 0) = (kmem kl3, 7, 0) := by kernel_rfl
theorem kins3 : insP (kmem kl3) 0 0 (12, 0, 0) = (kmem kl4, 7, 0) := by kernel_rfl
theorem kahead : (((lookN (kmem kl4) 0).1.map (·.1)).reverse, (lookN (kmem kl4) 0).2) = ([8, 4, 12], 0) := by kernel_rfl
theorem krem1 : remP (kmem kl4) 0 4 = (kmem kl5, 4, 0) := by kernel_rfl
theorem knodes : lookN (kmem kl5) 0 = ([(12, 0, 0), (8, 9, 0)], 0) := by kernel_rfl
theorem krem2 : remP (kmem kl5) 0 4 = (zeroM, 0, 4) := by kernel_rfl
theorem kwok2 : Wok (kmem kl2) := by unfold Wok kmem; show ∀ x ∈ kl2, x < 18446744073709551616; decide
theorem kwok3 : Wok (kmem kl3) := by unfold Wok kmem; show ∀ x ∈ kl3, x < 18446744073709551616; decide
theorem kwok4 : Wok (kmem kl4) := by unfold Wok kmem; show ∀ x ∈ kl4, x < 18446744073709551616; decide
theorem kwok5 : Wok (kmem kl5) := by unfold Wok kmem; show ∀ x ∈ kl5, x < 18446744073709551616; decide
theorem kwok1 : Wok (kmem kl1) := by unfold Wok kmem; show ∀ x ∈ kl1, x < 18446744073709551616; decide
/-- A memory of 32 words that are live. -/
abbrev kV (wa : Option Addr) (wc : Nat) (la : Option Addr) (lc : Nat) : Value := .agg #[.slice wa 32 wc, .slice la 32 lc, .bool false]
theorem Leads.keepK {W W' : World} {a : Option Addr} {n cap Y : Nat} {cs : List Value} (h : Leads W a n cap cs) (hK : ∀ (k : Nat) (o : Obj), k ≠ Y → W.heap[k]? = some o → W'.heap[k]? = some o) (hY : W.heap.size ≤ Y) : Leads W' a n cap cs := by
  obtain ⟨h1, h2, ⟨h3, h4⟩ | ⟨b, off, h3, h4, h5⟩⟩ := h
  · exact ⟨h1, h2, .inl ⟨h3, h4⟩⟩
  · obtain ⟨o, ho⟩ : ∃ o, W.heap[b]? = some o := ⟨_, Array.getElem?_eq_getElem h4⟩
    have h9 := hK b o (by omega) ho
    refine ⟨h1, h2, .inr ⟨b, off, h3, lt_laid h9, fun i v hv => ?_⟩⟩
    have := h5 i v hv
    unfold World.cell? at this ⊢
    rw [h9, ← ho]
    exact this
def GivesK (l : List Nat) (n c : Nat) (V : World) (e : Ending) (W : World) : Prop := ∃ wa wc la lc, e = .returned (.tuple #[kV wa wc la lc, .int .i64 ((n : Nat) : Int), .int .i64 ((c : Nat) : Int)]) ∧ MemO V.heap.size wa wc la lc (kmem l) W ∧ Below V.heap.size V W
theorem kV_eq (wa : Option Addr) (wc : Nat) (la : Option Addr) (lc : Nat) (l : List Nat) (hl : l.length = 32) : memV wa wc la lc (kmem l) = kV wa wc la lc := by
  unfold memV kmem kV
  simp only [hl, List.length_replicate]
theorem givesK {l : List Nat} {n c : Nat} {V W : World} {e : Ending} (hl : l.length = 32) (h : GivesI (kmem l, n, c) V e W) : GivesK l n c V e W := by
  obtain ⟨wa, wc, la, lc, rfl, h2, h3⟩ := h
  exact ⟨wa, wc, la, lc, by rw [kV_eq wa wc la lc l hl], h2, h3⟩

set_option maxRecDepth 100000 in
set_option maxHeartbeats 16000000 in
theorem wakes_any (V : World) : Calls Try.prog 7 #[] V (Ret (.bool true) V) := by
  have H0 : Hid (∀ V, Calls Try.prog 27 #[.int .i64 32] V (GivesE ⟨List.replicate 32 0, List.replicate 32 false, false⟩ V)) := hid (fun V => New_any 32 V (by decide) (by decide))
  have H1 : Hid (∀ (W : World) (wa : Option Addr) (wc : Nat) (la : Option Addr) (lc : Nat), MemL W wa wc la lc ⟨List.replicate 32 0, List.replicate 32 false, false⟩ → Calls Try.prog 28 #[kV wa wc la lc, .int .i64 0, .int .i64 32] W (GivesE (kmem kl1) W)) := hid (fun W wa wc la lc h => Live_any 32 wa la wc lc W (by decide) (by decide) h)
  have H2 : Hid (∀ (W : World) (wa : Option Addr) (wc : Nat) (la : Option Addr) (lc : Nat), MemL W wa wc la lc (kmem kl1) → Calls Try.prog 19 #[kV wa wc la lc, .int .u64 0, .int .u64 0, .agg #[.int .u64 4, .int .u64 7, .int .u64 0]] W (GivesK kl2 7 0 W)) := hid (fun W wa wc la lc h => by
    have := Insert_any (kmem kl1) wa la wc lc 0 0 (4, 7, 0) W h (by decide) (by decide) (by decide) kwok1
    rw [kins1] at this
    exact this.mono fun e W' h => givesK rfl h)
  have H3 : Hid (∀ (W : World) (wa : Option Addr) (wc : Nat) (la : Option Addr) (lc : Nat), MemL W wa wc la lc (kmem kl2) → Calls Try.prog 19 #[kV wa wc la lc, .int .u64 0, .int .u64 4, .agg #[.int .u64 8, .int .u64 9, .int .u64 0]] W (GivesK kl3 7 0 W)) := hid (fun W wa wc la lc h => by
    have := Insert_any (kmem kl2) wa la wc lc 0 4 (8, 9, 0) W h (by decide) (by decide) (by decide) kwok2
    rw [kins2] at this
    exact this.mono fun e W' h => givesK rfl h)
  have H4 : Hid (∀ (W : World) (wa : Option Addr) (wc : Nat) (la : Option Addr) (lc : Nat), MemL W wa wc la lc (kmem kl3) → Calls Try.prog 19 #[kV wa wc la lc, .int .u64 0, .int .u64 0, .agg #[.int .u64 12, .int .u64 0, .int .u64 0]] W (GivesK kl4 7 0 W)) := hid (fun W wa wc la lc h => by
    have := Insert_any (kmem kl3) wa la wc lc 0 0 (12, 0, 0) W h (by decide) (by decide) (by decide) kwok3
    rw [kins3] at this
    exact this.mono fun e W' h => givesK rfl h)
  have H5 : Hid (∀ (W : World) (wa : Option Addr) (wc : Nat) (la : Option Addr) (lc : Nat), MemL W wa wc la lc (kmem kl4) → Calls Try.prog 11 #[kV wa wc la lc, .int .u64 0] W (GivesA [8, 4, 12] 0 W)) := hid (fun W wa wc la lc h => by
    have := Ahead_any (kmem kl4) wa la wc lc 0 W h (by decide) kwok4
    have hk := kahead
    simp only [Prod.mk.injEq] at hk
    rw [hk.1, hk.2] at this
    exact this)
  have H6 : Hid (∀ (W : World) (wa : Option Addr) (wc : Nat) (la : Option Addr) (lc : Nat), MemL W wa wc la lc (kmem kl4) → Calls Try.prog 17 #[kV wa wc la lc, .int .u64 0, .int .u64 4] W (GivesK kl5 4 0 W)) := hid (fun W wa wc la lc h => by
    have := Remove_any (kmem kl4) wa la wc lc 0 4 W h (by decide) (by decide) kwok4
    rw [krem1] at this
    exact this.mono fun e W' h => givesK rfl h)
  have H7 : Hid (∀ (W : World) (wa : Option Addr) (wc : Nat) (la : Option Addr) (lc : Nat), MemL W wa wc la lc (kmem kl5) → Calls Try.prog 10 #[kV wa wc la lc, .int .u64 0] W (GivesL [(12, 0, 0), (8, 9, 0)] 0 W)) := hid (fun W wa wc la lc h => by
    have := Nodes_any (kmem kl5) wa la wc lc 0 W h (by decide) kwok5
    rw [knodes] at this
    exact this)
  have H8 : Hid (∀ (W : World) (wa : Option Addr) (wc : Nat) (la : Option Addr) (lc : Nat), MemL W wa wc la lc (kmem kl5) → Calls Try.prog 17 #[kV wa wc la lc, .int .u64 0, .int .u64 4] W (fun e W' => ∃ wa wc la lc, e = .returned (.tuple #[.agg #[.slice wa 0 wc, .slice la 0 lc, .bool false], .int .i64 0, .int .i64 4]) ∧ Below W.heap.size W W')) := hid (fun W wa wc la lc h => by
    have := Remove_any (kmem kl5) wa la wc lc 0 4 W h (by decide) (by decide) kwok5
    rw [krem2] at this
    exact this.mono fun e W' ⟨wa, wc, la, lc, h1, _, h3⟩ => ⟨wa, wc, la, lc, h1, h3⟩)
  have HEU := hid (fun (xs ys : List Nat) (a a' : Option Addr) (n n' cap cap' : Nat) (w : World) (hx : xs.length = n) (hy : ys.length = n') (h : Leads w a n cap (wcells xs)) (h' : Leads w a' n' cap' (wcells ys)) => EqU_any xs ys a a' n n' cap cap' w hx hy h h')
  have HET := hid (fun (xs ys : List Tw) (a a' : Option Addr) (n n' cap cap' : Nat) (w : World) (hx : xs.length = n) (hy : ys.length = n') (hxb : ∀ t ∈ xs, t.1 < 18446744073709551616 ∧ t.2.1 < 18446744073709551616 ∧ t.2.2 < 18446744073709551616) (hyb : ∀ t ∈ ys, t.1 < 18446744073709551616 ∧ t.2.1 < 18446744073709551616 ∧ t.2.2 < 18446744073709551616) (h : Leads w a n cap (twcells xs)) (h' : Leads w a' n' cap' (twcells ys)) => EqT_any xs ys a a' n n' cap cap' w hx hy hxb hyb h h')
  go_enter Try.func7, Try.ntmps7
  go_wp2_with fail
  refine (H0.out V).mono ?_
  rintro e w1 ⟨wa1, wc1, la1, lc1, rfl, hO1, hb1⟩
  rw [show memV wa1 wc1 la1 lc1 ⟨List.replicate 32 0, List.replicate 32 false, false⟩ = kV wa1 wc1 la1 lc1 from rfl]
  obtain ⟨w2, hw2, hb2, hs2, hl2⟩ := laid w1 #[.slice none 0 0, .slice none 0 0, .bool false] 25
  obtain ⟨X, hX⟩ : ∃ X, w1.heap.size = X := ⟨_, rfl⟩
  rw [hX] at hl2
  have hVX : V.heap.size ≤ X := by have := hb1.size; omega
  obtain ⟨w3, hWw3, hLw3, hKw3, hBw3, hMw3⟩ := put_mem hl2 (.slice wa1 32 wc1) (.slice la1 32 lc1) (.bool false)
  have HLw3 := hid hLw3
  have HBw3 := hid (hBw3 V.heap.size V hVX (step hb1 hb2))
  have HMw3 := hid (hMw3 _ _ _ _ _ _ (hO1.grow hb2))
  have HWw3 := hid hWw3
  have HKw3 := hid hKw3
  obtain ⟨x0, x1, x2⟩ := cells3 hl2
  have xf0 := free_laid (i := 0) hl2
  have xf1 := free_laid (i := 1) hl2
  have xf2 := free_laid (i := 2) hl2
  clear hWw3 hLw3 hBw3 hMw3 hKw3
  clear hb1 hb2 hs2 hl2 hO1
  go_upto_region 2 with (fail)
  rw [← HWw3.out]
  clear x0 x1 x2 xf0 xf1 xf2 hw2
  obtain ⟨x0, x1, x2⟩ := cells3 HLw3.out
  go_wp2_with fail
  refine (H1.out w3 wa1 wc1 la1 lc1 HMw3.out.memL).mono ?_
  rintro e w4a ⟨wa2, wc2, la2, lc2, rfl, hO, hb⟩
  rw [show memV wa2 wc2 la2 lc2 (kmem kl1) = kV wa2 wc2 la2 lc2 from rfl]
  clear x0 x1 x2
  have hlx := keep_laid HLw3.out hb
  obtain ⟨w4, hWw4, hLw4, hKw4, hBw4, hMw4⟩ := put_mem hlx (.slice wa2 32 wc2) (.slice la2 32 lc2) (.bool false)
  have HLw4 := hid hLw4
  have HBw4 := hid (hBw4 V.heap.size V hVX (step HBw3.out hb))
  have HMw4 := hid (hMw4 _ _ _ _ _ _ (hO.base (HBw3.out.size)))
  have HWw4 := hid hWw4
  have HKw4 := hid hKw4
  obtain ⟨x0, x1, x2⟩ := cells3 hlx
  have xf0 := free_laid (i := 0) hlx
  have xf1 := free_laid (i := 1) hlx
  have xf2 := free_laid (i := 2) hlx
  clear hWw4 hLw4 hBw4 hMw4 hKw4
  clear hO hb hlx
  go_upto_region 3 with (fail)
  rw [← HWw4.out]
  clear x0 x1 x2 xf0 xf1 xf2
  obtain ⟨x0, x1, x2⟩ := cells3 HLw4.out
  go_wp2_with fail
  refine (H2.out w4 wa2 wc2 la2 lc2 HMw4.out.memL).mono ?_
  rintro e w5a ⟨wa3, wc3, la3, lc3, rfl, hO, hb⟩
  clear x0 x1 x2
  have hlx := keep_laid HLw4.out hb
  obtain ⟨w5, hWw5, hLw5, hKw5, hBw5, hMw5⟩ := put_mem hlx (.slice wa3 32 wc3) (.slice la3 32 lc3) (.bool false)
  have HLw5 := hid hLw5
  have HBw5 := hid (hBw5 V.heap.size V hVX (step HBw4.out hb))
  have HMw5 := hid (hMw5 _ _ _ _ _ _ (hO.base (HBw4.out.size)))
  have HWw5 := hid hWw5
  have HKw5 := hid hKw5
  obtain ⟨x0, x1, x2⟩ := cells3 hlx
  have xf0 := free_laid (i := 0) hlx
  have xf1 := free_laid (i := 1) hlx
  have xf2 := free_laid (i := 2) hlx
  clear hWw5 hLw5 hBw5 hMw5 hKw5
  clear hO hb hlx
  go_upto_region 4 with (fail)
  rw [← HWw5.out]
  clear x0 x1 x2 xf0 xf1 xf2
  obtain ⟨x0, x1, x2⟩ := cells3 HLw5.out
  go_wp2_with fail
  refine (H3.out w5 wa3 wc3 la3 lc3 HMw5.out.memL).mono ?_
  rintro e w6a ⟨wa4, wc4, la4, lc4, rfl, hO, hb⟩
  clear x0 x1 x2
  have hlx := keep_laid HLw5.out hb
  obtain ⟨w6, hWw6, hLw6, hKw6, hBw6, hMw6⟩ := put_mem hlx (.slice wa4 32 wc4) (.slice la4 32 lc4) (.bool false)
  have HLw6 := hid hLw6
  have HBw6 := hid (hBw6 V.heap.size V hVX (step HBw5.out hb))
  have HMw6 := hid (hMw6 _ _ _ _ _ _ (hO.base (HBw5.out.size)))
  have HWw6 := hid hWw6
  have HKw6 := hid hKw6
  obtain ⟨x0, x1, x2⟩ := cells3 hlx
  have xf0 := free_laid (i := 0) hlx
  have xf1 := free_laid (i := 1) hlx
  have xf2 := free_laid (i := 2) hlx
  clear hWw6 hLw6 hBw6 hMw6 hKw6
  clear hO hb hlx
  go_upto_region 5 with (fail)
  rw [← HWw6.out]
  clear x0 x1 x2 xf0 xf1 xf2
  obtain ⟨x0, x1, x2⟩ := cells3 HLw6.out
  go_wp2_with fail
  refine (H4.out w6 wa4 wc4 la4 lc4 HMw6.out.memL).mono ?_
  rintro e w7a ⟨wa5, wc5, la5, lc5, rfl, hO, hb⟩
  clear x0 x1 x2
  have hlx := keep_laid HLw6.out hb
  obtain ⟨w7, hWw7, hLw7, hKw7, hBw7, hMw7⟩ := put_mem hlx (.slice wa5 32 wc5) (.slice la5 32 lc5) (.bool false)
  have HLw7 := hid hLw7
  have HBw7 := hid (hBw7 V.heap.size V hVX (step HBw6.out hb))
  have HMw7 := hid (hMw7 _ _ _ _ _ _ (hO.base (HBw6.out.size)))
  have HWw7 := hid hWw7
  have HKw7 := hid hKw7
  obtain ⟨x0, x1, x2⟩ := cells3 hlx
  have xf0 := free_laid (i := 0) hlx
  have xf1 := free_laid (i := 1) hlx
  have xf2 := free_laid (i := 2) hlx
  clear hWw7 hLw7 hBw7 hMw7 hKw7
  clear hO hb hlx
  go_upto_region 6 with (fail)
  rw [← HWw7.out]
  clear x0 x1 x2 xf0 xf1 xf2
  obtain ⟨x0, x1, x2⟩ := cells3 HLw7.out
  go_wp2_with fail
  refine (H5.out w7 wa5 wc5 la5 lc5 HMw7.out.memL).mono ?_
  rintro e w8 ⟨v8, rfl, hr8, hb8⟩
  obtain ⟨a8, c8, rfl, hl8⟩ := Leads.of_own hr8
  have HRA := hid hr8
  have HLw8 := hid (keep_laid HLw7.out hb8)
  have HBw8 := hid (step HBw7.out hb8)
  have HMw8 := hid (HMw7.out.grow hb8)
  have hl8' := hl8.len
  clear hr8 hb8 hl8 x0 x1 x2
  obtain ⟨x0, x1, x2⟩ := cells3 HLw8.out
  go_wp2_with fail
  refine (H6.out w8 wa5 wc5 la5 lc5 HMw8.out.memL).mono ?_
  rintro e w9a ⟨wa6, wc6, la6, lc6, rfl, hO, hb⟩
  have HRA9 := hid (own_grow HRA.out hb)
  clear x0 x1 x2
  have hlx := keep_laid HLw8.out hb
  obtain ⟨w9, hWw9, hLw9, hKw9, hBw9, hMw9⟩ := put_mem hlx (.slice wa6 32 wc6) (.slice la6 32 lc6) (.bool false)
  have HLw9 := hid hLw9
  have HBw9 := hid (hBw9 V.heap.size V hVX (step HBw8.out hb))
  have HMw9 := hid (hMw9 _ _ _ _ _ _ (hO.base (HBw8.out.size)))
  have HWw9 := hid hWw9
  have HKw9 := hid hKw9
  obtain ⟨x0, x1, x2⟩ := cells3 hlx
  have xf0 := free_laid (i := 0) hlx
  have xf1 := free_laid (i := 1) hlx
  have xf2 := free_laid (i := 2) hlx
  clear hWw9 hLw9 hBw9 hMw9 hKw9
  have HRA10 : Hid (w9.ownsRow w7.heap.size 26 1 (.slice a8 3 c8) 3 (wcells [8, 4, 12])) := hid (own_keep HRA9.out fun k o hk ho => HKw9.out k o (fun e => by
    obtain ⟨c, hc⟩ := own_type HRA9.out k hk
    exact type_ne hc hlx (by decide) e) ho)
  clear hO hb hlx
  go_upto_region 8 with (fail)
  rw [← HWw9.out]
  clear x0 x1 x2 xf0 xf1 xf2
  obtain ⟨x0, x1, x2⟩ := cells3 HLw9.out
  go_wp2_with fail
  refine (H7.out w9 wa6 wc6 la6 lc6 HMw9.out.memL).mono ?_
  rintro e w10 ⟨v10, rfl, hr10, hb10⟩
  obtain ⟨a10, c10, rfl, hl10⟩ := Leads.of_own hr10
  have HN10 := hid hl10
  have HLw10 := hid (keep_laid HLw9.out hb10)
  have HBw10 := hid (step HBw9.out hb10)
  have HMw10 := hid (HMw9.out.grow hb10)
  have HRA11 := hid (own_grow HRA10.out hb10)
  have hl10' := hl10.len
  clear hr10 hb10 hl10 x0 x1 x2
  obtain ⟨x0, x1, x2⟩ := cells3 HLw10.out
  go_wp2_with fail
  refine (H8.out w10 wa6 wc6 la6 lc6 HMw10.out.memL).mono ?_
  rintro e w11 ⟨waz, wcz, laz, lcz, rfl, hb⟩
  have HLw11 := hid (keep_laid HLw10.out hb)
  have HBw11 := hid (step HBw10.out hb)
  have HMw11 := hid (HMw10.out.grow hb)
  have HRA12 := hid (own_grow HRA11.out hb)
  have HN11 := hid (HN10.out.grow hb)
  clear hb x0 x1 x2
  obtain ⟨w12, hw12, hb12, hs12, hl12⟩ := laid w11 #[.slice none 0 0, .slice none 0 0, .bool false] 25
  obtain ⟨Y, hY⟩ : ∃ X, w11.heap.size = X := ⟨_, rfl⟩
  rw [hY] at hl12
  obtain ⟨w13, hW13, hL13, hK13, hB13, hM13⟩ := put_mem hl12 (.slice waz 0 wcz) (.slice laz 0 lcz) (.bool false)
  have hXY : X < Y := by have := lt_laid HLw11.out; omega
  have HW13 := hid hW13
  have HLw13 := hid (hK13 _ _ (by omega) (keep_laid HLw11.out hb12))
  have HBw13 := hid (hB13 V.heap.size V (by omega) (step HBw11.out hb12))
  have HMw13 := hid (hM13 _ _ _ _ _ _ (HMw11.out.grow hb12))
  have HLA13 : Hid (Leads w13 a8 3 c8 (wcells [8, 4, 12])) := hid (Leads.of_own1 (own_keep (own_grow HRA12.out hb12) fun k o hk ho => hK13 k o (fun e => by
    obtain ⟨c, hc⟩ := own_type (own_grow HRA12.out hb12) k hk
    exact type_ne hc hl12 (by decide) e) ho))
  have HN13 : Hid (Leads w13 a10 2 c10 (twcells [(12, 0, 0), (8, 9, 0)])) := hid (HN11.out.keepK (hK := fun k o hk ho => hK13 k o hk ((hb12.block k (lt_laid ho)).trans ho)) (by omega))
  obtain ⟨y0, y1, y2⟩ := cells3 hl12
  have yf0 := free_laid (i := 0) hl12
  have yf1 := free_laid (i := 1) hl12
  have yf2 := free_laid (i := 2) hl12
  obtain ⟨w14, hw14, hb14, hs14, hl14⟩ := laid w13 #[.int .u64 8, .int .u64 4, .int .u64 12] 26
  obtain ⟨Q, hQ⟩ : ∃ X, w13.heap.size = X := ⟨_, rfl⟩
  rw [hQ] at hl14
  have HQ14 : Hid (Leads w14 (some ⟨Q, 0, none⟩) 3 3 (wcells [8, 4, 12])) := hid (Leads.of_own1 (row_new (n := 3) (base := Q) hl14 rfl (by decide) (Nat.le_refl _)))
  have heu1 := HEU.out [8, 4, 12] [8, 4, 12] a8 (some ⟨Q, 0, none⟩) 3 3 c8 3 w14 rfl rfl (HLA13.out.grow hb14) HQ14.out
  rw [decide_eq_true rfl] at heu1
  have HEU1 := hid heu1
  clear heu1
  have HLw14 := hid (keep_laid HLw13.out hb14)
  have HBw14 := hid (step HBw13.out hb14)
  have HMw14 := hid (HMw13.out.grow hb14)
  have HN14 := hid (HN13.out.grow hb14)
  have hw13 := hW13.symm
  clear hW13 hL13 hK13 hB13 hM13 hb12 hl12 hs12 hb14 hs14 hl14
  go_wp2_with fail
  refine HEU1.out.mono ?_
  rintro e w15 ⟨rfl, hb15⟩
  have HLw15 := hid (keep_laid HLw14.out hb15)
  have HBw15 := hid (step HBw14.out hb15)
  have HMw15 := hid (HMw14.out.grow hb15)
  have HN15 := hid (HN14.out.grow hb15)
  obtain ⟨w16, hw16, hb16, hs16, hl16⟩ := laid w15 #[.int .u64 12, .int .u64 0, .int .u64 0, .int .u64 8, .int .u64 9, .int .u64 0] 28
  obtain ⟨R, hR⟩ : ∃ X, w15.heap.size = X := ⟨_, rfl⟩
  rw [hR] at hl16
  have HR16 : Hid (Leads w16 (some ⟨R, 0, none⟩) 2 2 (twcells [(12, 0, 0), (8, 9, 0)])) := hid ⟨Nat.le_refl _, by decide, .inr ⟨R, 0, rfl, lt_laid hl16, fun i v hv => by rw [Nat.zero_add]; exact cell_laid hl16 (by simpa [twcells, tw3] using hv)⟩⟩
  have het1 := HET.out [(12, 0, 0), (8, 9, 0)] [(12, 0, 0), (8, 9, 0)] a10 (some ⟨R, 0, none⟩) 2 2 c10 2 w16 rfl rfl (by decide) (by decide) (HN15.out.grow hb16) HR16.out
  rw [decide_eq_true rfl] at het1
  have HET1 := hid het1
  clear het1
  have HLw16 := hid (keep_laid HLw15.out hb16)
  have HBw16 := hid (step HBw15.out hb16)
  have HMw16 := hid (HMw15.out.grow hb16)
  clear hb15 hb16 hs16 hl16
  go_wp2_with fail
  refine HET1.out.mono ?_
  rintro e w17 ⟨rfl, hb17⟩
  obtain ⟨x0, x1, x2⟩ := cells3 (keep_laid HLw16.out hb17)
  obtain ⟨bb, oo, ea, -, hc14⟩ := (HMw16.out.grow hb17).memL.w.at (k := 14) (show 14 < 32 by decide) (wcell_at (show kl5[14]? = some 8 from rfl))
  obtain ⟨bb2, oo2, ea2, -, hc11⟩ := (HMw16.out.grow hb17).memL.w.at (k := 11) (show 11 < 32 by decide) (wcell_at (show kl5[11]? = some 12 from rfl))
  subst ea
  cases ea2
  have f14 := hc14 _ (Below.refl _ _)
  have f11 := hc11 _ (Below.refl _ _)
  have HB17 := hid (step HBw16.out hb17)
  clear hb17 hc14 hc11
  go_wp2
  go_ret
  exact ⟨rfl, HB17.out⟩
end Go.Proofs.Ytoihjmdpbbcbjaa
