/- Processes: who runs, the least index, a process that is put (printed by gen_pr6.py). -/
import Derived.Test.YtmnbkhmphhgdiaaDoorPr5
import Derived.Test.YtmnbkhmphhgdiaaDoorPrIns
namespace Go.Proofs.YtmnbkhmphhgdiaaDoor
open Go.RowKit Go.Shelf
open Go.Proofs
set_option linter.unusedVariables false
attribute [local go_sem] Oper.semAt_some/-- Who runs, and where. -/
def RunsAt (L : List Pr) (a : Option Addr) (pid : Nat) (e : Ending) : Prop := ∃ k x b off, L[k]? = some x ∧ x.1 = pid ∧ x.2.2.1 = false ∧ findB L pid = some x ∧ a = some ⟨b, off, none⟩ ∧ e = .returned (.pointer (some ⟨b, off + k * 4, none⟩))
set_option maxRecDepth 100000 in
theorem running_t (T n c pid : Nat) (a : Option Addr) (G : Nat → Int) (L : List Pr) (V : World) (hT : V.heap[T]? = some (.cells #[.int .i64 (G 0), .int .i64 (G 1), .int .i64 (G 2), .int .i64 (G 3), .int .i64 (G 4), .int .i64 (G 5), .int .i64 (G 6), .int .i64 (G 7), .int .i64 (G 8), .int .i64 (G 9), .int .i64 (G 10), .int .i64 (G 11), .int .i64 (G 12), .int .i64 (G 13), .int .i64 (G 14), .int .i64 (G 15), .slice a n c] 65 (0, 0))) (hl : Leads V a n c (prcells L)) (hn : L.length = n) (hn5 : n ≤ 1000) (hr : runsB L pid = true) :
    Calls Tryd.prog 31 #[.pointer (some ⟨T, 0, none⟩), .int .u64 ((pid : Nat) : Int)] V (fun e W => RunsAt L a pid e ∧ Below V.heap.size V W) := by
  have HO := hid (of_any T n c pid a G _ L V hT hl hn hn5)
  have HNT := fun w => need_t 321 w
  have HL := hid hl
  have HN := hid hn
  have HR := hid hr
  clear hT hl hn hr
  go_enter Tryd.func31, Tryd.ntmps31
  go_wp2_with fail
  refine HO.out.mono ?_
  rintro e w ⟨r, rfl, hr, hb⟩
  rcases hr.find with ⟨rfl, hf⟩ | ⟨k, x, b, off, hk, hx, hf, rfl, rfl⟩
  · have := HR.out
    unfold runsB at this
    rw [hf] at this
    cases this
  · obtain ⟨x0, x1, x2, x3⟩ := x
    obtain ⟨b2, off2, hab, -, hcx⟩ := HL.out.pr (by rw [← HN.out]; exact (List.getElem?_eq_some_iff.1 hk).1) hk
    simp only [Option.some.injEq, Addr.mk.injEq, and_true] at hab
    obtain ⟨rfl, rfl⟩ := hab
    obtain ⟨f0, f1, f2, f3⟩ := hcx w hb
    obtain rfl : x2 = false := by
      have := HR.out
      unfold runsB at this
      rw [hf] at this
      simpa using this
    have HB := hid hb
    have HE : Hid (RunsAt L (some ⟨b, off, none⟩) pid (.returned (.pointer (some ⟨b, off + k * 4, none⟩)))) := hid ⟨k, _, b, off, hk, hx, rfl, hf, rfl, rfl⟩
    clear hr hf hcx f0 f1 f3 hk hx hb
    go_wp2_with fail
    refine (HNT _).mono ?_
    rintro e w2 ⟨rfl, hb2⟩
    have HB2 := hid (step HB.out hb2)
    clear hb2
    go_wp2
    go_ret
    exact ⟨HE.out, HB2.out⟩
set_option maxRecDepth 100000 in
theorem running_f (T n c pid : Nat) (a : Option Addr) (G : Nat → Int) (L : List Pr) (V : World) (hT : V.heap[T]? = some (.cells #[.int .i64 (G 0), .int .i64 (G 1), .int .i64 (G 2), .int .i64 (G 3), .int .i64 (G 4), .int .i64 (G 5), .int .i64 (G 6), .int .i64 (G 7), .int .i64 (G 8), .int .i64 (G 9), .int .i64 (G 10), .int .i64 (G 11), .int .i64 (G 12), .int .i64 (G 13), .int .i64 (G 14), .int .i64 (G 15), .slice a n c] 65 (0, 0))) (hl : Leads V a n c (prcells L)) (hn : L.length = n) (hn5 : n ≤ 1000) (hr : runsB L pid = false) :
    Calls Tryd.prog 31 #[.pointer (some ⟨T, 0, none⟩), .int .u64 ((pid : Nat) : Int)] V (fun e W => e = .panicked (errC 321) ∧ Below V.heap.size V W) := by
  have HO := hid (of_any T n c pid a G _ L V hT hl hn hn5)
  have HNT := fun w => need_f 321 w
  have HL := hid hl
  have HN := hid hn
  have HR := hid hr
  clear hT hl hn hr
  go_enter Tryd.func31, Tryd.ntmps31
  go_wp2_with fail
  refine HO.out.mono ?_
  rintro e w ⟨r, rfl, hr, hb⟩
  rcases hr.find with ⟨rfl, hf⟩ | ⟨k, x, b, off, hk, hx, hf, rfl, rfl⟩
  · have HB := hid hb
    clear hr hf hb
    go_wp2_with fail
    refine (HNT _).mono ?_
    rintro e w2 ⟨rfl, hb2⟩
    have HB2 := hid (step HB.out hb2)
    clear hb2
    go_wp2
    exact ⟨rfl, rfl, HB2.out⟩
  · obtain ⟨x0, x1, x2, x3⟩ := x
    obtain ⟨b2, off2, hab, -, hcx⟩ := HL.out.pr (by rw [← HN.out]; exact (List.getElem?_eq_some_iff.1 hk).1) hk
    simp only [Option.some.injEq, Addr.mk.injEq, and_true] at hab
    obtain ⟨rfl, rfl⟩ := hab
    obtain ⟨f0, f1, f2, f3⟩ := hcx w hb
    obtain rfl : x2 = true := by
      have := HR.out
      unfold runsB at this
      rw [hf] at this
      simpa using this
    have HB := hid hb
    clear hr hf hcx f0 f1 f3 hk hx hb
    go_wp2_with fail
    refine (HNT _).mono ?_
    rintro e w2 ⟨rfl, hb2⟩
    have HB2 := hid (step HB.out hb2)
    clear hb2
    go_wp2
    exact ⟨rfl, rfl, HB2.out⟩
theorem least1_any (t : Pr) (k X : Nat) (V : World) (h : V.cell? ⟨X, 0, none⟩ = some (.int .i64 ((k : Nat) : Int))) (hX : X < V.heap.size) (hk : k < 16) (ht : t.1 < 18446744073709551616) :
    Calls Tryd.prog 54 #[prV t, .pointer (some ⟨X, 0, none⟩)] V (Ret (.bool (decide (t.1 % 64 = k + 1))) V) := by
  obtain ⟨q, q1, q2, q3⟩ := t
  obtain ⟨V1, hV1, hb1, hs1, hl1⟩ := laid V #[.int .u64 ((q : Nat) : Int), .int .u64 ((q1 : Nat) : Int), .bool q2, .int .u64 ((q3 : Nat) : Int)] 45
  have x0 : ∀ z : Ext V1, z.v.cell? ⟨X, 0, none⟩ = some (.int .i64 ((k : Nat) : Int)) := fun z => ((step hb1 z.b).cell (p := ⟨X, 0, none⟩) hX).trans h
  have t0 : ∀ z : Ext V1, z.v.cell? ⟨V.heap.size, 0, none⟩ = some (.int .u64 ((q : Nat) : Int)) := fun z => cell_laid (keep_laid hl1 z.b) rfl
  have HB1 := hid hb1
  have hq : q < 18446744073709551616 := ht
  unfold prV
  obtain ⟨m, hm⟩ : ∃ m, q % 64 = m := ⟨_, rfl⟩
  have hm64 : m < 64 := by omega
  have HE : Hid ((((m : Nat) : Int) == ((k : Nat) : Int) + 1) = decide (q % 64 = k + 1)) := hid (by rw [hm, Bool.eq_iff_iff]; simp; omega)
  have HI := fun W => index_any q W hq
  rw [hm] at HI
  clear h hb1 hs1 hl1 hm ht
  go_enter Tryd.func54, Tryd.ntmps54
  go_upto_region 1 with (fail)
  refine wp_region_ext (by kernel_rfl) (by kernel_rfl) ?_
  repeat (go_big_quiet_step ((go_at_call 49; exact ext_of (HI _))))
  refine wpQuiet_nil ?_
  rintro _ ⟨⟨w2, hb2⟩, rfl⟩
  have HB2 := hid (step HB1.out hb2)
  clear hb2
  go_wp2
  go_ret
  exact ⟨retb HE.out, HB2.out⟩
theorem put1_any (t : Pr) (p X : Nat) (V : World) (h : V.cell? ⟨X, 0, none⟩ = some (.int .u64 ((p : Nat) : Int))) (hX : X < V.heap.size) (hp : p < 18446744073709551616) (ht : t.1 < 18446744073709551616) :
    Calls Tryd.prog 56 #[prV t, .pointer (some ⟨X, 0, none⟩)] V (Ret (.bool (decide (p % 64 < t.1 % 64))) V) := by
  obtain ⟨q, q1, q2, q3⟩ := t
  obtain ⟨V1, hV1, hb1, hs1, hl1⟩ := laid V #[.int .u64 ((q : Nat) : Int), .int .u64 ((q1 : Nat) : Int), .bool q2, .int .u64 ((q3 : Nat) : Int)] 45
  have x0 : ∀ z : Ext V1, z.v.cell? ⟨X, 0, none⟩ = some (.int .u64 ((p : Nat) : Int)) := fun z => ((step hb1 z.b).cell (p := ⟨X, 0, none⟩) hX).trans h
  have t0 : ∀ z : Ext V1, z.v.cell? ⟨V.heap.size, 0, none⟩ = some (.int .u64 ((q : Nat) : Int)) := fun z => cell_laid (keep_laid hl1 z.b) rfl
  have HB1 := hid hb1
  have hq : q < 18446744073709551616 := ht
  unfold prV
  obtain ⟨m, hm⟩ : ∃ m, q % 64 = m := ⟨_, rfl⟩
  obtain ⟨r, hr⟩ : ∃ r, p % 64 = r := ⟨_, rfl⟩
  have hm64 : m < 64 := by omega
  have HE : Hid (decide (r < m) = decide (p % 64 < q % 64)) := hid (by rw [hm, hr])
  have HI := fun W => index_any q W hq
  have HJ := fun W => index_any p W hp
  rw [hm] at HI
  rw [hr] at HJ
  clear h hb1 hs1 hl1 hm ht hr
  go_enter Tryd.func56, Tryd.ntmps56
  go_upto_region 1 with (fail)
  refine wp_region_ext (by kernel_rfl) (by kernel_rfl) ?_
  repeat (go_big_quiet_step ((go_at_call 49; first | exact ext_of (HI _) | exact ext_of (HJ _))))
  refine wpQuiet_nil ?_
  rintro _ ⟨⟨w2, hb2⟩, rfl⟩
  have HB2 := hid (step HB1.out hb2)
  clear hb2
  go_wp2
  go_ret
  exact ⟨retb HE.out, HB2.out⟩
/-- The least index that is to be had. -/
def leastI (G : Nat → Int) (L : List Pr) (k : Nat) : Option Nat := (List.range' k (16 - k)).find? fun i => !(L.any fun x => decide (x.1 % 64 = i + 1)) && decide (G i ≤ 65535)
theorem leastI_none (G : Nat → Int) (L : List Pr) : leastI G L 16 = none := by simp [leastI]
theorem leastI_hit {G : Nat → Int} {L : List Pr} {k : Nat} (hk : k < 16) (h1 : (L.any fun x => decide (x.1 % 64 = k + 1)) = false) (h2 : G k ≤ 65535) : leastI G L k = some k := by
  unfold leastI
  obtain ⟨m, hm⟩ : ∃ m, 16 - k = m + 1 := ⟨16 - k - 1, by omega⟩
  rw [hm, List.range'_succ, List.find?_cons]
  simp [h1, h2]
theorem leastI_next {G : Nat → Int} {L : List Pr} {k : Nat} (hk : k < 16) (h : (L.any fun x => decide (x.1 % 64 = k + 1)) = true ∨ ¬ G k ≤ 65535) : leastI G L k = leastI G L (k + 1) := by
  unfold leastI
  obtain ⟨m, hm⟩ : ∃ m, 16 - k = m + 1 := ⟨16 - k - 1, by omega⟩
  rw [hm, List.range'_succ, List.find?_cons, show 16 - (k + 1) = m by omega]
  have : (!(L.any fun x => decide (x.1 % 64 = k + 1)) && decide (G k ≤ 65535)) = false := by
    rcases h with h | h
    · rw [h]; rfl
    · rw [decide_eq_false h, Bool.and_false]
  rw [this]
def GivesI (r : Option Nat) (V : World) (e : Ending) (W : World) : Prop := (match r with
  | some i => e = .returned (.int .i64 ((i : Nat) : Int)) ∧ i < 16
  | none => e = .panicked (errC 322)) ∧ Below V.heap.size V W
set_option maxRecDepth 100000 in
set_option maxHeartbeats 4000000 in
theorem least_any (T n c : Nat) (a : Option Addr) (G : Nat → Int) (L : List Pr) (V : World) (hT : V.heap[T]? = some (.cells #[.int .i64 (G 0), .int .i64 (G 1), .int .i64 (G 2), .int .i64 (G 3), .int .i64 (G 4), .int .i64 (G 5), .int .i64 (G 6), .int .i64 (G 7), .int .i64 (G 8), .int .i64 (G 9), .int .i64 (G 10), .int .i64 (G 11), .int .i64 (G 12), .int .i64 (G 13), .int .i64 (G 14), .int .i64 (G 15), .slice a n c] 65 (0, 0))) (hl : Leads V a n c (prcells L)) (hn : L.length = n) (hn5 : n ≤ 1000) (hL : PrsOk L) :
    Calls Tryd.prog 32 #[.pointer (some ⟨T, 0, none⟩)] V (GivesI (leastI G L 0) V) := by
  obtain ⟨V1, hV1, hb1, hs1, hl1⟩ := laid V #[.int .i64 0] 3
  obtain ⟨X, hX⟩ : ∃ X, V.heap.size = X := ⟨_, rfl⟩
  rw [hX] at hl1
  have hTX : T < X := by have := lt_laid hT; omega
  have HL := hid hl
  have HN := hid hn
  have HPL := hid hL
  have HVX := hid hX
  have KX := hid hl1
  have KT := hid (keep_laid hT hb1)
  have HB1 := hid hb1
  have hlen := hl.len
  obtain ⟨R, hR⟩ : ∃ R, leastI G L 0 = R := ⟨_, rfl⟩
  rw [hR]
  have HR := hid hR
  have hmf : ∀ (fn : Fn) (first cap : Array Value) (w : World), (Instr.makeFunc fn first cap).run Tryd.prog w = .ok (.func fn first cap) w := fun _ _ _ _ => rfl
  clear hb1 hs1 hl1 hT hl hn hL hR
  go_enter Tryd.func32, Tryd.ntmps32
  have x0 := cell_laid (i := 0) KX.out rfl
  have xf0 := free_laid (i := 0) KX.out
  obtain ⟨u1, hu1, a1, a2, a3, a4⟩ := putN1 KX.out (.int .i64 0)
  have E1 := hid hu1
  have KX1 := hid a1
  have KT1 := hid (a2 T _ (by omega) KT.out)
  have HBu := hid (a3 _ _ (by omega) HB1.out)
  clear hu1 a1 a2 a3 a4 KX KT HB1
  go_wp2
  go_step3
  go_wp2
  rw [← E1.out]
  clear hV1 hX x0 xf0
  go_step3
  go_wp2
  go_loopg [4] 17 (fun g t4 wr => ∃ (k : Nat) (v4 : Value), g + k = 17 ∧ k ≤ 16 ∧ t4 = v4 ∧ Hid (R = leastI G L k) ∧ Hid (wr.heap[X]? = some (.cells #[.int .i64 ((k : Nat) : Int)] 3 (0, 0))) ∧ Hid (wr.heap[T]? = some (.cells #[.int .i64 (G 0), .int .i64 (G 1), .int .i64 (G 2), .int .i64 (G 3), .int .i64 (G 4), .int .i64 (G 5), .int .i64 (G 6), .int .i64 (G 7), .int .i64 (G 8), .int .i64 (G 9), .int .i64 (G 10), .int .i64 (G 11), .int .i64 (G 12), .int .i64 (G 13), .int .i64 (G 14), .int .i64 (G 15), .slice a n c] 65 (0, 0))) ∧ Hid (Below V.heap.size V wr))
  case atStart => exact ⟨0, _, rfl, by omega, rfl, hid HR.out.symm, KX1, KT1, HBu⟩
  case round =>
    obtain ⟨k, v4, hk, hk16, hv4, hr, h1, h2, hb⟩ := hrel
    subst hv4
    have HK := hid hk
    clear hk
    have x0 := cell_laid (i := 0) h1.out rfl
    have xf0 := free_laid (i := 0) h1.out
    have t16 := cell_laid (i := 16) h2.out rfl
    by_cases hlt : k < 16
    · have HNT := fun w => need_t 322 w
      have td : decide (((k : Nat) : Int) < 16) = true := decide_eq_true (by omega)
      go_wp2_with fail
      refine (HNT _).mono ?_
      rintro e w2 ⟨rfl, hb2⟩
      have h1 := hid (keep_laid h1.out hb2)
      have h2 := hid (keep_laid h2.out hb2)
      have hb := hid (step hb.out hb2)
      clear x0 xf0 t16 HNT hb2
      have x0 := cell_laid (i := 0) h1.out rfl
      have t16 := cell_laid (i := 16) h2.out rfl
      have HQ := hid (HasLeast L (fun x => decide (x.1 % 64 = k + 1)) a n c X w2 (HL.out.grow hb.out) HN.out hn5 (fun t W ht hW => least1_any t k X W (cell_laid (keep_laid h1.out hW) rfl) (lt_laid (keep_laid h1.out hW)) hlt (HPL.out t ht).1))
      obtain ⟨HA, hHA⟩ : ∃ b, L.any (fun x => decide (x.1 % 64 = k + 1)) = b := ⟨_, rfl⟩
      rw [hHA] at HQ
      have HHA := hid hHA
      clear hHA
      go_wp2_with fail
      refine HQ.out.mono ?_
      rintro e w3 ⟨rfl, hb3⟩
      have h1 := hid (keep_laid h1.out hb3)
      have h2 := hid (keep_laid h2.out hb3)
      have hb := hid (step hb.out hb3)
      clear x0 t16 HQ hb3
      have h1d := hid (keep_laid h1.out (Below.refl w3.heap.size w3).drew)
      have h2d := hid (keep_laid h2.out (Below.refl w3.heap.size w3).drew)
      have hbd := hid (step hb.out (Below.refl w3.heap.size w3).drew)
      cases HA with
      | true =>
        have HNX := hid (leastI_next (G := G) (L := L) hlt (.inl HHA.out))
        have f0 : ∀ z : Ext w3, z.v.cell? ⟨X, 0, none⟩ = some (.int .i64 ((k : Nat) : Int)) := fun z => cell_laid (keep_laid h1.out z.b) rfl
        have fi : ∀ z : Ext w3, z.v.cell? ⟨T, k, none⟩ = some (.int .i64 (G k)) := fun z => cells16 (keep_laid h2.out z.b) k hlt
        have x0 := cell_laid (i := 0) h1d.out rfl
        go_upto_region 4 with (fail)
        refine wp_region_ext (by kernel_rfl) (by kernel_rfl) ?_
        repeat (go_big_quiet_step (fail))
        refine wpQuiet_nil ?_
        rintro _ ⟨⟨w4, hb4⟩, rfl⟩
        have h1 := hid (keep_laid h1.out hb4)
        have h2 := hid (keep_laid h2.out hb4)
        have hb := hid (step hb.out hb4)
        clear f0 fi x0 hb4 h1d h2d hbd
        have x0 := cell_laid (i := 0) h1.out rfl
        obtain ⟨q, hq⟩ : ∃ q, q = k + 1 := ⟨_, rfl⟩
        have e5 : IntKind.i64.wrap ((k : Int) + 1) = ((q : Nat) : Int) := by rw [IntKind.wrap_i64]; omega
        have xf0 := free_laid (i := 0) h1.out
        obtain ⟨u5, hu5, a1, a2, a3, a4⟩ := putN1 h1.out (.int .i64 ((q : Nat) : Int))
        have E5 := hid hu5
        have K5 := hid a1
        have T5 := hid (a2 T _ (by omega) h2.out)
        have B5 := hid (a3 _ _ (by have := HVX.out; omega) hb.out)
        have HQ := hid hq
        clear hu5 a1 a2 a3 a4 hq
        go_wp2
        rw [← E5.out]
        go_roundg (gk - 1)
        case measure => have := HK.out; omega
        case rel => exact ⟨q, _, by have := HK.out; have := HQ.out; omega, by have := HQ.out; omega, rfl, hid (by rw [hr.out, HNX.out, HQ.out]), K5, T5, B5⟩
      | false =>
        by_cases hG : G k ≤ 65535
        · have HNX := hid (leastI_hit hlt HHA.out hG)
          have tg : decide (G k ≤ 65535) = true := decide_eq_true hG
          have f0 : ∀ z : Ext w3, z.v.cell? ⟨X, 0, none⟩ = some (.int .i64 ((k : Nat) : Int)) := fun z => cell_laid (keep_laid h1.out z.b) rfl
          have fi : ∀ z : Ext w3, z.v.cell? ⟨T, k, none⟩ = some (.int .i64 (G k)) := fun z => cells16 (keep_laid h2.out z.b) k hlt
          have x0 := cell_laid (i := 0) h1d.out rfl
          go_upto_region 4 with (fail)
          refine wp_region_ext (by kernel_rfl) (by kernel_rfl) ?_
          repeat (go_big_quiet_step (fail))
          refine wpQuiet_nil ?_
          rintro _ ⟨⟨w4, hb4⟩, rfl⟩
          have h1 := hid (keep_laid h1.out hb4)
          have h2 := hid (keep_laid h2.out hb4)
          have hb := hid (step hb.out hb4)
          clear f0 fi x0 hb4 h1d h2d hbd
          have x0 := cell_laid (i := 0) h1.out rfl
          go_wp2
          rw [Exit.noGoto_ret]
          go_ret
          exact ⟨by rw [hr.out, HNX.out]; exact ⟨rfl, hlt⟩, hb.out⟩
        · have HNX := hid (leastI_next (G := G) (L := L) hlt (.inr hG))
          have tg : decide (G k ≤ 65535) = false := decide_eq_false hG
          have f0 : ∀ z : Ext w3, z.v.cell? ⟨X, 0, none⟩ = some (.int .i64 ((k : Nat) : Int)) := fun z => cell_laid (keep_laid h1.out z.b) rfl
          have fi : ∀ z : Ext w3, z.v.cell? ⟨T, k, none⟩ = some (.int .i64 (G k)) := fun z => cells16 (keep_laid h2.out z.b) k hlt
          have x0 := cell_laid (i := 0) h1d.out rfl
          go_upto_region 4 with (fail)
          refine wp_region_ext (by kernel_rfl) (by kernel_rfl) ?_
          repeat (go_big_quiet_step (fail))
          refine wpQuiet_nil ?_
          rintro _ ⟨⟨w4, hb4⟩, rfl⟩
          have h1 := hid (keep_laid h1.out hb4)
          have h2 := hid (keep_laid h2.out hb4)
          have hb := hid (step hb.out hb4)
          clear f0 fi x0 hb4 h1d h2d hbd
          have x0 := cell_laid (i := 0) h1.out rfl
          obtain ⟨q, hq⟩ : ∃ q, q = k + 1 := ⟨_, rfl⟩
          have e5 : IntKind.i64.wrap ((k : Int) + 1) = ((q : Nat) : Int) := by rw [IntKind.wrap_i64]; omega
          have xf0 := free_laid (i := 0) h1.out
          obtain ⟨u5, hu5, a1, a2, a3, a4⟩ := putN1 h1.out (.int .i64 ((q : Nat) : Int))
          have E5 := hid hu5
          have K5 := hid a1
          have T5 := hid (a2 T _ (by omega) h2.out)
          have B5 := hid (a3 _ _ (by have := HVX.out; omega) hb.out)
          have HQ := hid hq
          clear hu5 a1 a2 a3 a4 hq
          go_wp2
          rw [← E5.out]
          go_roundg (gk - 1)
          case measure => have := HK.out; omega
          case rel => exact ⟨q, _, by have := HK.out; have := HQ.out; omega, by have := HQ.out; omega, rfl, hid (by rw [hr.out, HNX.out, HQ.out]), K5, T5, B5⟩
    · have td : decide (((k : Nat) : Int) < 16) = false := decide_eq_false (by omega)
      have HNT := fun w => need_f 322 w
      have HE : Hid (R = none) := hid (by rw [hr.out, show k = 16 by omega, leastI_none])
      go_wp2_with fail
      refine (HNT _).mono ?_
      rintro e w2 ⟨rfl, hb2⟩
      go_wp2
      rw [HE.out]
      exact ⟨rfl, rfl, step hb.out hb2⟩
/-- A process put in its place. -/
def insP (L : List Pr) (x : Pr) : List Pr := L.takeWhile (fun y => !decide (x.1 % 64 < y.1 % 64)) ++ x :: L.dropWhile (fun y => !decide (x.1 % 64 < y.1 % 64))
theorem mem_ins {L : List Pr} {x y : Pr} : y ∈ insP L x ↔ y = x ∨ y ∈ L := by
  unfold insP
  rw [List.mem_append, List.mem_cons]
  constructor
  · rintro (h | h | h)
    · exact .inr (List.takeWhile_append_dropWhile (p := fun y => !decide (x.1 % 64 < y.1 % 64)) (l := L) ▸ List.mem_append.2 (.inl h))
    · exact .inl h
    · exact .inr (List.takeWhile_append_dropWhile (p := fun y => !decide (x.1 % 64 < y.1 % 64)) (l := L) ▸ List.mem_append.2 (.inr h))
  · rintro (h | h)
    · exact .inr (.inl h)
    · rw [← List.takeWhile_append_dropWhile (p := fun y => !decide (x.1 % 64 < y.1 % 64)) (l := L)] at h
      rcases List.mem_append.1 h with h | h
      · exact .inl h
      · exact .inr (.inr h)
theorem ins_len (L : List Pr) (x : Pr) : (insP L x).length = L.length + 1 := by
  have h : (L.takeWhile (fun y => !decide (x.1 % 64 < y.1 % 64)) ++ L.dropWhile (fun y => !decide (x.1 % 64 < y.1 % 64))).length = L.length := by rw [List.takeWhile_append_dropWhile]
  unfold insP
  rw [List.length_append] at h ⊢
  rw [List.length_cons]
  omega
/-- Where the first greater one stands, there one is put. -/
theorem ins_at {L : List Pr} {x : Pr} {k : Nat} (h1 : ∀ y ∈ L.take k, decide (x.1 % 64 < y.1 % 64) = false) (h2 : ∀ y, L[k]? = some y → decide (x.1 % 64 < y.1 % 64) = true) : L.take k ++ x :: L.drop k = insP L x := by
  induction L generalizing k with
  | nil => simp [insP]
  | cons z r ih =>
    cases k with
    | zero =>
      have := h2 z rfl
      simp only [decide_eq_true_eq] at this
      simp [insP, this]
    | succ k =>
      have hz := h1 z (by simp)
      simp only [decide_eq_false_iff_not] at hz
      have e : insP (z :: r) x = z :: insP r x := by simp [insP, hz]
      rw [e, ← ih (k := k) (fun y hy => h1 y (by simp [hy])) (fun y hy => h2 y (by simpa using hy))]
      rfl
/-- Worlds in which two blocks read so. -/
structure Two (X Y : Nat) (vx vy : Array Value) (tx ty : TypeId) where
  w : World
  bx : w.heap[X]? = some (.cells vx tx (0, 0))
  by_ : w.heap[Y]? = some (.cells vy ty (0, 0))
set_option maxRecDepth 100000 in
set_option maxHeartbeats 4000000 in
theorem put_any (T n c base : Nat) (a : Option Addr) (G : Nat → Int) (L : List Pr) (x : Pr) (V : World) (hT : V.heap[T]? = some (.cells #[.int .i64 (G 0), .int .i64 (G 1), .int .i64 (G 2), .int .i64 (G 3), .int .i64 (G 4), .int .i64 (G 5), .int .i64 (G 6), .int .i64 (G 7), .int .i64 (G 8), .int .i64 (G 9), .int .i64 (G 10), .int .i64 (G 11), .int .i64 (G 12), .int .i64 (G 13), .int .i64 (G 14), .int .i64 (G 15), .slice a n c] 65 (0, 0))) (hown : V.ownsRow base 45 4 (.slice a n c) n (prcells L)) (hn : L.length = n) (hn5 : n ≤ 999) (hn0 : 0 < n) (hL : PrsOk L) (hx : x.Ok) (hb : base ≤ V.heap.size) :
    Calls Tryd.prog 33 #[.pointer (some ⟨T, 0, none⟩), prV x] V (fun e W => e = .returned (.tuple #[]) ∧ TchP (fun k => k = T ∨ (Value.slice a n c).ownBlock = some k) V W ∧ ∃ a' c', W.heap[T]? = some (.cells #[.int .i64 (G 0), .int .i64 (G 1), .int .i64 (G 2), .int .i64 (G 3), .int .i64 (G 4), .int .i64 (G 5), .int .i64 (G 6), .int .i64 (G 7), .int .i64 (G 8), .int .i64 (G 9), .int .i64 (G 10), .int .i64 (G 11), .int .i64 (G 12), .int .i64 (G 13), .int .i64 (G 14), .int .i64 (G 15), .slice a' (n + 1) c'] 65 (0, 0)) ∧ W.ownsRow base 45 4 (.slice a' (n + 1) c') (n + 1) (prcells (insP L x))) := by
  obtain ⟨x0, x1, x2, x3⟩ := x
  obtain ⟨V1, hV1, hb1, hs1, hl1⟩ := laid V #[.int .u64 ((x0 : Nat) : Int), .int .u64 ((x1 : Nat) : Int), .bool x2, .int .u64 ((x3 : Nat) : Int)] 45
  obtain ⟨X, hX⟩ : ∃ X, V.heap.size = X := ⟨_, rfl⟩
  rw [hX] at hl1
  have hTX : T < X := by have := lt_laid hT; omega
  obtain ⟨-, ⟨-, h⟩ | ⟨g, cap', cur, he, -⟩⟩ := id hown
  · omega
  simp only [Value.slice.injEq, true_and] at he
  obtain ⟨rfl, -⟩ := he
  have hgX : g < X := by rw [← hX]; exact own_lt hown g rfl
  have hTg : g ≠ T := by
    obtain ⟨cur', hc⟩ := own_type hown g rfl
    exact type_ne hc hT (by decide)
  have HOW := hid (own_grow hown hb1)
  have HN := hid hn
  have KX := hid hl1
  have KT := hid (keep_laid hT hb1)
  have HB := hid hb1
  have HVX := hid hX
  have hlen := (Leads.of_own1 hown).len
  have hnc : n ≤ c := (Leads.of_own1 hown).1
  have hbX : base ≤ X := by omega
  have HIX := hid (IdxPut L (fun y => decide (x0 % 64 < y.1 % 64)) (some ⟨g, 0, none⟩) n c X V1 (Leads.of_own1 (own_grow hown hb1)) hn (by omega) (fun t W ht hW => put1_any t x0 X W (cell_laid (keep_laid hl1 hW) rfl) (lt_laid (keep_laid hl1 hW)) hx.1 (hL t ht).1))
  unfold prV
  have hmf : ∀ (fn : Fn) (first cap : Array Value) (w : World), (Instr.makeFunc fn first cap).run Tryd.prog w = .ok (.func fn first cap) w := fun _ _ _ _ => rfl
  clear hb1 hs1 hl1 hT hown hn hL hx
  go_enter Tryd.func33, Tryd.ntmps33
  have t16 := cell_laid (i := 16) KT.out rfl
  go_wp2_with fail
  refine HIX.out.mono ?_
  rintro e w ⟨i, rfl, hi, hbn⟩
  have KX1 := hid (keep_laid KX.out hbn)
  have KT1 := hid (keep_laid KT.out hbn)
  have HOW1 := hid (own_grow HOW.out hbn)
  have HB1 := hid (step HB.out hbn)
  clear KX KT HOW HB hbn t16 HIX hV1 hX
  have t16 := cell_laid (i := 16) KT1.out rfl
  obtain ⟨k, hk, hik, HKI⟩ : ∃ k, k ≤ n ∧ ((i = -1 ∧ k = n) ∨ (i = ((k : Nat) : Int) ∧ k < n)) ∧ Hid (L.take k ++ (x0, x1, x2, x3) :: L.drop k = insP L (x0, x1, x2, x3)) := by
    rcases hi with ⟨rfl, h⟩ | ⟨k, y, rfl, h1, h2, h3⟩
    · exact ⟨n, Nat.le_refl _, .inl ⟨rfl, rfl⟩, hid (ins_at (fun y hy => h y (List.mem_of_mem_take hy)) (fun y hy => by rw [List.getElem?_eq_none (by rw [HN.out]; exact Nat.le_refl _)] at hy; cases hy))⟩
    · have hkn : k < n := by rw [← HN.out]; exact (List.getElem?_eq_some_iff.1 h1).1
      exact ⟨k, by omega, .inr ⟨rfl, hkn⟩, hid (ins_at h3 (fun z hz => by rw [h1] at hz; cases hz; exact h2))⟩
  have HIK := hid hik
  have HXE : Hid (insP L (x0, x1, x2, x3) = insP L (x0, x1, x2, x3)) := hid rfl
  clear hi hik
  have hk1 : k ≤ 1000 := by omega
  go_upto_if 13 with (fail)
  go_cut [4] (fun t4 wr => t4 = .int .i64 ((k : Nat) : Int) ∧ wr = w)
  case first =>
    rcases HIK.out with ⟨rfl, rfl⟩ | ⟨rfl, hlt⟩
    · go_wp2
      go_meet
      exact ⟨rfl, rfl⟩
    · have d0 : decide (((k : Nat) : Int) < 0) = false := by simp
      go_wp2
      go_meet
      exact ⟨rfl, rfl⟩
  case rest =>
    obtain ⟨rfl, hwc⟩ := hcut
    subst hwc
    clear t16
    go_upto_region 4 with (fail)
    obtain ⟨D, hD⟩ : ∃ DX, World.drew wc = DX := ⟨_, rfl⟩
    have hbD : Below wc.heap.size wc D := by rw [← hD]; exact (Below.refl _ _).drew
    have HD := hid hD
    clear hD
    have KXD := hid (keep_laid KX1.out hbD)
    have KTD := hid (keep_laid KT1.out hbD)
    have HOWD := hid (own_grow HOW1.out hbD)
    have HBD := hid (step HB1.out hbD)
    clear KX1 KT1 HOW1 HB1 hbD
    haveI : Nonempty (Two T X #[.int .i64 (G 0), .int .i64 (G 1), .int .i64 (G 2), .int .i64 (G 3), .int .i64 (G 4), .int .i64 (G 5), .int .i64 (G 6), .int .i64 (G 7), .int .i64 (G 8), .int .i64 (G 9), .int .i64 (G 10), .int .i64 (G 11), .int .i64 (G 12), .int .i64 (G 13), .int .i64 (G 14), .int .i64 (G 15), .slice (some ⟨g, 0, none⟩) n c] #[.int .u64 ((x0 : Nat) : Int), .int .u64 ((x1 : Nat) : Int), .bool x2, .int .u64 ((x3 : Nat) : Int)] 65 45) := ⟨⟨D, KTD.out, KXD.out⟩⟩
    have r16 : ∀ z : Two T X #[.int .i64 (G 0), .int .i64 (G 1), .int .i64 (G 2), .int .i64 (G 3), .int .i64 (G 4), .int .i64 (G 5), .int .i64 (G 6), .int .i64 (G 7), .int .i64 (G 8), .int .i64 (G 9), .int .i64 (G 10), .int .i64 (G 11), .int .i64 (G 12), .int .i64 (G 13), .int .i64 (G 14), .int .i64 (G 15), .slice (some ⟨g, 0, none⟩) n c] #[.int .u64 ((x0 : Nat) : Int), .int .u64 ((x1 : Nat) : Int), .bool x2, .int .u64 ((x3 : Nat) : Int)] 65 45, z.w.cell? ⟨T, 16, none⟩ = some (.slice (some ⟨g, 0, none⟩) n c) := fun z => cell_laid z.bx rfl
    have q0 : ∀ z : Two T X #[.int .i64 (G 0), .int .i64 (G 1), .int .i64 (G 2), .int .i64 (G 3), .int .i64 (G 4), .int .i64 (G 5), .int .i64 (G 6), .int .i64 (G 7), .int .i64 (G 8), .int .i64 (G 9), .int .i64 (G 10), .int .i64 (G 11), .int .i64 (G 12), .int .i64 (G 13), .int .i64 (G 14), .int .i64 (G 15), .slice (some ⟨g, 0, none⟩) n c] #[.int .u64 ((x0 : Nat) : Int), .int .u64 ((x1 : Nat) : Int), .bool x2, .int .u64 ((x3 : Nat) : Int)] 65 45, z.w.cell? ⟨X, 0, none⟩ = some (.int .u64 ((x0 : Nat) : Int)) := fun z => cell_laid z.by_ rfl
    have q1 : ∀ z : Two T X #[.int .i64 (G 0), .int .i64 (G 1), .int .i64 (G 2), .int .i64 (G 3), .int .i64 (G 4), .int .i64 (G 5), .int .i64 (G 6), .int .i64 (G 7), .int .i64 (G 8), .int .i64 (G 9), .int .i64 (G 10), .int .i64 (G 11), .int .i64 (G 12), .int .i64 (G 13), .int .i64 (G 14), .int .i64 (G 15), .slice (some ⟨g, 0, none⟩) n c] #[.int .u64 ((x0 : Nat) : Int), .int .u64 ((x1 : Nat) : Int), .bool x2, .int .u64 ((x3 : Nat) : Int)] 65 45, z.w.cell? ⟨X, 1, none⟩ = some (.int .u64 ((x1 : Nat) : Int)) := fun z => cell_laid z.by_ rfl
    have q2 : ∀ z : Two T X #[.int .i64 (G 0), .int .i64 (G 1), .int .i64 (G 2), .int .i64 (G 3), .int .i64 (G 4), .int .i64 (G 5), .int .i64 (G 6), .int .i64 (G 7), .int .i64 (G 8), .int .i64 (G 9), .int .i64 (G 10), .int .i64 (G 11), .int .i64 (G 12), .int .i64 (G 13), .int .i64 (G 14), .int .i64 (G 15), .slice (some ⟨g, 0, none⟩) n c] #[.int .u64 ((x0 : Nat) : Int), .int .u64 ((x1 : Nat) : Int), .bool x2, .int .u64 ((x3 : Nat) : Int)] 65 45, z.w.cell? ⟨X, 2, none⟩ = some (.bool x2) := fun z => cell_laid z.by_ rfl
    have q3 : ∀ z : Two T X #[.int .i64 (G 0), .int .i64 (G 1), .int .i64 (G 2), .int .i64 (G 3), .int .i64 (G 4), .int .i64 (G 5), .int .i64 (G 6), .int .i64 (G 7), .int .i64 (G 8), .int .i64 (G 9), .int .i64 (G 10), .int .i64 (G 11), .int .i64 (G 12), .int .i64 (G 13), .int .i64 (G 14), .int .i64 (G 15), .slice (some ⟨g, 0, none⟩) n c] #[.int .u64 ((x0 : Nat) : Int), .int .u64 ((x1 : Nat) : Int), .bool x2, .int .u64 ((x3 : Nat) : Int)] 65 45, z.w.cell? ⟨X, 3, none⟩ = some (.int .u64 ((x3 : Nat) : Int)) := fun z => cell_laid z.by_ rfl
    refine wp_region_mix3 (fun W => ∃ z : Two T X #[.int .i64 (G 0), .int .i64 (G 1), .int .i64 (G 2), .int .i64 (G 3), .int .i64 (G 4), .int .i64 (G 5), .int .i64 (G 6), .int .i64 (G 7), .int .i64 (G 8), .int .i64 (G 9), .int .i64 (G 10), .int .i64 (G 11), .int .i64 (G 12), .int .i64 (G 13), .int .i64 (G 14), .int .i64 (G 15), .slice (some ⟨g, 0, none⟩) n c] #[.int .u64 ((x0 : Nat) : Int), .int .u64 ((x1 : Nat) : Int), .bool x2, .int .u64 ((x3 : Nat) : Int)] 65 45, W = z.w) 13 (.q 0 (.q 1 (.q 2 (.q 3 (.q 4 (.q 5 (.q 6 (.q 7 (.h 8 (.h 9 (.q 10 (.q 11 (.q 12 .done))))))))))))) (by kernel_rfl) (by kernel_rfl) (by rw [HD.out]; exact ⟨⟨D, KTD.out, KXD.out⟩, rfl⟩) ?_
    rw [HD.out]
    repeat (refine wpMix3_q rfl rfl ?_; go_big_quiet_step (fail); refine wpQuiet_nil ?_)
    refine wpMix3_h rfl fun R' hR' hO => ?_
    obtain ⟨w8, hw8, hb8, hs8, hl8⟩ := laid D #[.int .u64 ((x0 : Nat) : Int), .int .u64 ((x1 : Nat) : Int), .bool x2, .int .u64 ((x3 : Nat) : Int)] 45
    obtain ⟨Y, hY⟩ : ∃ Y, D.heap.size = Y := ⟨_, rfl⟩
    rw [hY] at hl8
    have hgY : g < Y := by have := own_lt HOWD.out g rfl; omega
    have KX8 := hid (keep_laid KXD.out hb8)
    have KT8 := hid (keep_laid KTD.out hb8)
    have HOW8 := hid (own_grow HOWD.out hb8)
    have HB8 := hid (step HBD.out hb8)
    have HL8 := hid hl8
    have hw8b : base ≤ w8.heap.size := by have := HB8.out.size; omega
    clear KXD KTD HOWD HBD hb8 hs8 hl8
    go_wp2
    refine hR' _ _ ⟨⟨w8, KT8.out, KX8.out⟩, rfl⟩ ?_
    clear hR' hO R' hw8 hY
    refine wpMix3_h rfl fun R' hR' hO => ?_
    have HINS := hid (Ins_any L (x0, x1, x2, x3) g n c k Y base w8 HOW8.out HN.out (by omega) HL8.out (by omega) hw8b hk)
    go_wp2_with fail
    refine HINS.out.mono ?_
    rintro e w9 ⟨v, rfl, ho9, hg9⟩
    rw [HKI.out, ins_len, HN.out] at ho9
    have KX9 := hid (keep_grown KX8.out hg9 (by simp; omega))
    have KT9 := hid (keep_grown KT8.out hg9 (by simp; exact hTg))
    obtain ⟨va, vc, rfl, hlv⟩ := Leads.of_own ho9
    have hlv2 := hlv.len
    have HO9 := hid ho9
    have HF9 := hid ((TchP.of_below (P := fun k => k = T ∨ (Value.slice (some ⟨g, 0, none⟩) n c).ownBlock = some k) HB8.out).trans (TchP.of_grown hg9 (.inr rfl)))
    clear ho9 hg9 hlv HINS KX8 KT8 HOW8 HB8 HL8
    go_wp2
    refine hR' _ _ ⟨⟨w9, KT9.out, KX9.out⟩, rfl⟩ ?_
    clear hR' hO R'
    repeat (refine wpMix3_q rfl rfl ?_; go_big_quiet_step (fail); refine wpQuiet_nil ?_)
    refine wpMix3_done ?_
    simp only [List.drop_succ_cons, List.drop_zero]
    clear r16 q0 q1 q2 q3
    have t16 := cell_laid (i := 16) KT9.out rfl
    have tf16 := free_laid (i := 16) KT9.out
    obtain ⟨u9, hu9, a1, a2, a3, a4⟩ := put17_16 KT9.out (.slice va (n + 1) vc)
    have E9 := hid hu9
    have HA1 := hid a1
    have HO10 := hid (own_keep HO9.out fun k o hk ho => a2 k o (fun e => own_neP HO9.out KT9.out (by decide) (by rw [← e]; exact hk)) ho)
    have HF10 := hid (HF9.out.trans (TchP.of_grown a4 (.inl rfl)))
    clear hu9 a1 a2 a3 a4
    go_wp2
    go_end0
    rw [← E9.out]
    exact ⟨rfl, HF10.out, va, vc, HA1.out, HO10.out⟩
end Go.Proofs.YtmnbkhmphhgdiaaDoor
