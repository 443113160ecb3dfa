/- Walk (printed by gen_wkidx.py): what WalkFinds asks. -/
import Derived.Test.YtipohagcppfgiaaWkD
import Derived.Test.YtipohagcppfgiaaLsZ
namespace Go.Proofs.Ytipohagcppfgiaa
open Go.RowKit
open Go.Proofs
set_option linter.unusedVariables false
attribute [local go_sem] Oper.semAt_some
set_option maxRecDepth 100000 in
set_option maxHeartbeats 2000000 in
theorem IdxK_any (xs l1 l2 : List Nd) (t : Nd) (q : Nd → Bool) (a : Option Addr) (n cap X Y : Nat) (V : World) (h : Leads V a n cap (ndcells xs)) (hn : xs.length = n) (hn4 : n ≤ 10000)
    (hq : ∀ (t : Nd) (W : World), Below V.heap.size V W → Calls Try.prog 13 #[ndV t, .pointer (some ⟨X, 0, none⟩), .pointer (some ⟨Y, 0, none⟩)] W (Ret (.bool (q t)) W)) (hx : xs = l1 ++ t :: l2) (h1 : ∀ x ∈ l1, q x = false) (ht : q t = true) :
    Calls Try.prog 12 #[.slice a n cap, .func (.func 13) #[] #[.pointer (some ⟨X, 0, none⟩), .pointer (some ⟨Y, 0, none⟩)]] V (Ret (.int .i64 ((l1.length : Nat) : Int)) V) := by
  have hl := h.len
  have hlt1 : l1.length < n := by have := congrArg List.length hx; simp at this; omega
  obtain ⟨m, hm⟩ : ∃ m, l1.length = m := ⟨_, rfl⟩
  rw [hm] at hlt1 ⊢
  have H := hid h
  have HN := hid hn
  have HQ := hid hq
  have HX : Hid (∀ k, k < m → ∃ x, xs[k]? = some x ∧ q x = false) := hid (fun k hk => ⟨l1[k]'(by omega), by rw [hx, List.getElem?_append_left (by omega), List.getElem?_eq_getElem (by omega)], h1 _ (List.getElem_mem _)⟩)
  have HT : Hid (xs[m]? = some t ∧ q t = true) := hid ⟨by rw [hx, ← hm, List.getElem?_append_right (Nat.le_refl _), Nat.sub_self]; rfl, ht⟩
  clear h hn hq hx h1 ht hm
  go_enter Try.func12, Try.ntmps12
  go_wp2
  go_loopg [8] n (fun g i wr => ∃ k : Nat, g + k = n ∧ i = .int .i64 (k : Nat) ∧ k ≤ m ∧ Hid (Below V.heap.size V wr))
  case atStart => exact ⟨0, rfl, rfl, Nat.zero_le _, hid (Below.refl _ _)⟩
  case round =>
    obtain ⟨k, hk, rfl, hkm, hb⟩ := hrel
    have HK := hid hk
    have HKM := hid hkm
    clear hk
    have hlt : k < n := by omega
    clear hkm
    by_cases hkl : k < m
    · obtain ⟨⟨x0, x1, x2, x3⟩, hx, hqx⟩ := HX.out k hkl
      obtain ⟨b, off, rfl, -, hcc⟩ := H.out.nd hlt hx
      obtain ⟨f0, f1, f2, f3⟩ := hcc _ hb.out
      have HI := hid (HQ.out (x0, x1, x2, x3) wr hb.out)
      rw [hqx] at HI
      unfold ndV at HI
      have HKL := hid hkl
      clear hcc hx hqx hkl
      go_wp2_with fail
      refine HI.out.mono ?_
      rintro e w2 ⟨rfl, hb2⟩
      have HB2 := hid (hb.out.trans (hb2.mono hb.out.size))
      clear hb2
      go_wp2
      go_roundg (gk - 1)
      case measure => have := HK.out; omega
      case rel => exact ⟨k + 1, by have := HK.out; omega, by go_num, HKL.out, HB2⟩
    · have hkm' : k = m := by have := HKM.out; omega
      subst hkm'
      obtain ⟨hx, hqx⟩ := HT.out
      obtain ⟨x0, x1, x2, x3⟩ := t
      obtain ⟨b, off, rfl, -, hcc⟩ := H.out.nd hlt hx
      obtain ⟨f0, f1, f2, f3⟩ := hcc _ hb.out
      have HI := hid (HQ.out (x0, x1, x2, x3) wr hb.out)
      rw [hqx] at HI
      unfold ndV at HI
      clear hcc hx hqx hkl HKM HT HX
      go_wp2_with fail
      refine HI.out.mono ?_
      rintro e w2 ⟨rfl, hb2⟩
      have HB2 := hid (hb.out.trans (hb2.mono hb.out.size))
      clear hb2
      go_wp2
      go_ret
      exact ⟨rfl, HB2.out⟩
set_option maxRecDepth 100000 in
set_option maxHeartbeats 2000000 in
theorem IdxN_any (xs : List Nd) (q : Nd → Bool) (a : Option Addr) (n cap X Y : Nat) (V : World) (h : Leads V a n cap (ndcells xs)) (hn : xs.length = n) (hn4 : n ≤ 10000)
    (hq : ∀ (t : Nd) (W : World), Below V.heap.size V W → Calls Try.prog 13 #[ndV t, .pointer (some ⟨X, 0, none⟩), .pointer (some ⟨Y, 0, none⟩)] W (Ret (.bool (q t)) W)) (h1 : ∀ x ∈ xs, q x = false) :
    Calls Try.prog 12 #[.slice a n cap, .func (.func 13) #[] #[.pointer (some ⟨X, 0, none⟩), .pointer (some ⟨Y, 0, none⟩)]] V (Ret (.int .i64 (-1)) V) := by
  have hl := h.len
  have H := hid h
  have HN := hid hn
  have HQ := hid hq
  have HX : Hid (∀ k, k < n → ∃ x, xs[k]? = some x ∧ q x = false) := hid (fun k hk => ⟨xs[k]'(by omega), List.getElem?_eq_getElem (by omega), h1 _ (List.getElem_mem _)⟩)
  clear h hn hq h1
  go_enter Try.func12, Try.ntmps12
  go_wp2
  go_loopg [8] n (fun g i wr => ∃ k : Nat, g + k = n ∧ i = .int .i64 (k : Nat) ∧ Hid (Below V.heap.size V wr))
  case atStart => exact ⟨0, rfl, rfl, hid (Below.refl _ _)⟩
  case round =>
    obtain ⟨k, hk, rfl, hb⟩ := hrel
    have HK := hid hk
    clear hk
    by_cases hlt : k < n
    · obtain ⟨⟨x0, x1, x2, x3⟩, hx, hqx⟩ := HX.out k hlt
      obtain ⟨b, off, rfl, -, hcc⟩ := H.out.nd hlt hx
      obtain ⟨f0, f1, f2, f3⟩ := hcc _ hb.out
      have HI := hid (HQ.out (x0, x1, x2, x3) wr hb.out)
      rw [hqx] at HI
      unfold ndV at HI
      clear hcc hx hqx
      go_wp2_with fail
      refine HI.out.mono ?_
      rintro e w2 ⟨rfl, hb2⟩
      have HB2 := hid (hb.out.trans (hb2.mono hb.out.size))
      clear hb2
      go_wp2
      go_roundg (gk - 1)
      case measure => have := HK.out; omega
      case rel => exact ⟨k + 1, by have := HK.out; omega, by go_num, HB2⟩
    · obtain rfl : k = n := by have := HK.out; omega
      have HBE := hid hb.out
      go_wp2
      go_ret
      exact ⟨rfl, HBE.out⟩
theorem IndexU_any (l : List Nat) (a : Option Addr) (n cap q : Nat) (V : World) (h : Leads V a n cap (wcells l)) (hn : l.length = n) :
    Calls Try.prog 32 #[.slice a n cap, .int .u64 ((q : Nat) : Int)] V (fun e W => (∃ i : Int, e = .returned (.int .i64 i) ∧ (-1 ≤ i ∧ i ≤ 9223372036854775807) ∧ decide (0 ≤ i) = decide (q ∈ l)) ∧ W = V) := by
  have hl := h.len
  have H := hid h
  have HN := hid hn
  clear h hn
  go_enter Try.func32, Try.ntmps32
  go_wp2
  go_loopg [8] n (fun g i wr => ∃ k : Nat, g + k = n ∧ i = .int .i64 (k : Nat) ∧ Hid (∀ x ∈ l.take k, x ≠ q) ∧ wr = V)
  case atStart => exact ⟨0, rfl, rfl, hid (by simp), rfl⟩
  case round =>
    obtain ⟨k, hk, rfl, hs, hwr⟩ := hrel
    subst hwr
    have HK := hid hk
    clear hk
    by_cases hlt : k < n
    · obtain ⟨x, hxk⟩ : ∃ x, l[k]? = some x := ⟨_, List.getElem?_eq_getElem (by rw [HN.out]; exact hlt)⟩
      obtain ⟨b, off, rfl, -, hc⟩ := H.out.at hlt (wcell_at hxk)
      have f1 := hc _ (Below.refl _ _)
      have HX := hid hxk
      clear hc hxk
      by_cases he : x = q
      · subst he
        have HE : Hid (decide (x ∈ l) = true) := hid (decide_eq_true (List.mem_of_getElem? HX.out))
        go_wp2
        go_ret
        exact ⟨⟨_, rfl, by omega, by rw [HE.out]; exact decide_eq_true (by omega)⟩, rfl⟩
      · have t0 : (((q : Nat) : Int) == ((x : Nat) : Int)) = false := by simp; omega
        have HTK : Hid (∀ y ∈ l.take (k + 1), y ≠ q) := hid (by
          rw [take_snoc HX.out]
          intro y hy
          rcases List.mem_append.1 hy with hy | hy
          · exact hs.out y hy
          · rw [List.mem_singleton] at hy; subst hy; exact he)
        clear he
        go_wp2
        go_roundg (gk - 1)
        case measure => have := HK.out; omega
        case rel => exact ⟨k + 1, by have := HK.out; omega, by go_num, HTK, rfl⟩
    · have e := HK.out
      obtain rfl : k = n := by omega
      have HE : Hid (decide (q ∈ l) = false) := hid (decide_eq_false fun hm => by
        have := hs.out
        rw [List.take_of_length_le (by rw [HN.out]; exact Nat.le_refl _)] at this
        exact this q hm rfl)
      clear hs e HK
      go_wp2
      go_ret
      exact ⟨⟨_, rfl, by decide, by rw [HE.out]; rfl⟩, rfl⟩
theorem ContainsU_any (l : List Nat) (a : Option Addr) (n cap q : Nat) (V : World) (h : Leads V a n cap (wcells l)) (hn : l.length = n) :
    Calls Try.prog 14 #[.slice a n cap, .int .u64 ((q : Nat) : Int)] V (fun e W => e = .returned (.bool (decide (q ∈ l))) ∧ W = V) := by
  have hl := h.len
  have HI := hid (IndexU_any l a n cap q V h hn)
  obtain ⟨B, hB⟩ : ∃ b, decide (q ∈ l) = b := ⟨_, rfl⟩
  rw [hB] at HI ⊢
  clear h hn hB
  go_enter Try.func14, Try.ntmps14
  go_wp2_with fail
  refine HI.out.mono ?_
  rintro e W ⟨⟨i, rfl, hi, ht⟩, hw⟩
  subst hw
  have t0 : decide ((0 : Int) ≤ i) = B := ht
  clear ht
  go_wp2
  go_ret
  exact ⟨rfl, rfl⟩

set_option maxRecDepth 100000 in
set_option maxHeartbeats 4000000 in
/-- Is a node of the hash and the key that a reader seeks? -/
theorem keyq_any (t : Nd) (w : Wal) (i : Nat) (k : Nat × Nat) (wa la ja ka : Option Addr) (wc lc jc kc nj nk Wb Ib : Nat) (V : World) (hW : V.heap[Wb]? = some (.cells (wal8 wa w.M.W.length wc la w.M.L.length lc w.M.F w.head ja nj jc ka nk kc) 30 (0, 0))) (hI : V.heap[Ib]? = some (.cells #[.int .i64 ((i : Nat) : Int)] 3 (0, 0)))
    (hK : Leads V ka nk kc (kycells w.K)) (hn : w.K.length = nk) (hk : w.K[i]? = some k) :
    Calls Try.prog 13 #[ndV t, .pointer (some ⟨Wb, 0, none⟩), .pointer (some ⟨Ib, 0, none⟩)] V (Ret (.bool (decide (t.2.2.2 = k.1) && decide (t.2.1 = k.2))) V) := by
  obtain ⟨x0, x1, x2, x3⟩ := t
  obtain ⟨k0, k1⟩ := k
  unfold ndV
  dsimp only
  have hkl := hK.len
  have hin : i < nk := by have := (List.getElem?_eq_some_iff.1 hk).1; omega
  obtain ⟨V1, hV1, hb1, hs1, hl1⟩ := laid V #[.int .u64 ((x0 : Nat) : Int), .int .u64 ((x1 : Nat) : Int), .int .u64 ((x2 : Nat) : Int), .int .u64 ((x3 : Nat) : Int)] 37
  obtain ⟨Nb, hNb⟩ : ∃ X, V.heap.size = X := ⟨_, rfl⟩
  rw [hNb] at hl1
  obtain ⟨D, hD⟩ : ∃ DX, World.drew V1 = DX := ⟨_, rfl⟩
  have hbD : Below V1.heap.size V1 D := by rw [← hD]; exact (Below.refl _ _).drew
  have HD := hid hD
  have HB := hid (hb1.trans (hbD.mono hb1.size))
  have KN := hid (keep_laid hl1 hbD)
  have KW := hid (keep_laid hW HB.out)
  have KI := hid (keep_laid hI HB.out)
  obtain ⟨kb, ko, rfl, hcc⟩ : ∃ b o, ka = some ⟨b, o, none⟩ ∧ ∀ j v, (kycells w.K)[j]? = some v → ∀ z : Ext D, z.v.cell? ⟨b, o + j, none⟩ = some v := by
    obtain ⟨_, _, ⟨q, _⟩ | ⟨b, off, e, h3, h4⟩⟩ := hK.grow HB.out
    · omega
    · exact ⟨b, off, e, fun j v hv z => (z.b.cell (p := ⟨b, off + j, none⟩) h3).trans (h4 j v hv)⟩
  have hat : ∀ j, j < 2 → (kycells w.K)[i * 2 + j]? = (ky2 (k0, k1))[j]? := fun j hj => flat_at ky2 2 (fun _ => rfl) w.K i j _ hk hj
  have c0 : ∀ z : Ext D, z.v.cell? ⟨kb, ko + i * 2, none⟩ = some (.int .u64 ((k0 : Nat) : Int)) := fun z => hcc (i * 2 + 0) _ (hat 0 (by decide)) z
  have c1 : ∀ z : Ext D, z.v.cell? ⟨kb, ko + i * 2 + 1, none⟩ = some (.int .u64 ((k1 : Nat) : Int)) := fun z => hcc (i * 2 + 1) _ (hat 1 (by decide)) z
  have n1 : ∀ z : Ext D, z.v.cell? ⟨Nb, 1, none⟩ = some (.int .u64 ((x1 : Nat) : Int)) := fun z => cell_laid (i := 1) (keep_laid KN.out z.b) rfl
  have n3 : ∀ z : Ext D, z.v.cell? ⟨Nb, 3, none⟩ = some (.int .u64 ((x3 : Nat) : Int)) := fun z => cell_laid (i := 3) (keep_laid KN.out z.b) rfl
  have w5 : ∀ z : Ext D, z.v.cell? ⟨Wb, 5, none⟩ = some (.slice (some ⟨kb, ko, none⟩) nk kc) := fun z => cell_laid (i := 5) (keep_laid KW.out z.b) rfl
  have i0 : ∀ z : Ext D, z.v.cell? ⟨Ib, 0, none⟩ = some (.int .i64 ((i : Nat) : Int)) := fun z => cell_laid (i := 0) (keep_laid KI.out z.b) rfl
  clear hcc hat hD hbD hb1 hs1 hl1 hW hI hK hk hn
  haveI : Nonempty (Ext D) := ⟨⟨D, Below.refl _ _⟩⟩
  go_enter Try.func13, Try.ntmps13
  have body : ∀ b3 b1 : Bool, (((x3 : Nat) : Int) == ((k0 : Nat) : Int)) = b3 → (((x1 : Nat) : Int) == ((k1 : Nat) : Int)) = b1 → (decide (x3 = k0) && decide (x1 = k1)) = (b3 && b1) := by
    intro b3 b1 h3 h1
    have e : ∀ x y : Nat, (((x : Nat) : Int) == ((y : Nat) : Int)) = decide (x = y) := fun x y => by rw [Bool.eq_iff_iff, beq_iff_eq, decide_eq_true_iff]; omega
    rw [← h3, ← h1, e, e]
  obtain ⟨b3, h3⟩ : ∃ b, (((x3 : Nat) : Int) == ((k0 : Nat) : Int)) = b := ⟨_, rfl⟩
  obtain ⟨b1, h1⟩ : ∃ b, (((x1 : Nat) : Int) == ((k1 : Nat) : Int)) = b := ⟨_, rfl⟩
  rw [body b3 b1 h3 h1]
  clear body
  go_wp2_with fail
  cases b3 <;> cases b1 <;>
  · refine wp_region_mix2 (fun W => ∃ z : Ext D, W = z.v) 21 (.q 0 (.q 1 (.q 2 (.q 3 (.q 4 (.q 5 (.q 6 (.q 7 (.q 8 (.q 9 (.q 10 (.q 11 (.q 12 (.q 13 (.q 14 (.q 15 (.q 16 (.q 17 (.q 18 (.q 19 (.q 20 (.done)))))))))))))))))))))) (by kernel_rfl) (by kernel_rfl) (by rw [HD.out]; exact ⟨⟨D, Below.refl _ _⟩, rfl⟩) ?_
    rw [HD.out]
    iterate 21 (refine wpMix2_q rfl rfl ?_; go_big_quiet_step (fail); refine wpQuiet_nil ?_)
    refine wpMix2_done ?_
    simp only [List.drop_succ_cons, List.drop_nil]
    go_wp2
    go_ret
    exact ⟨rfl, HB.out⟩
end Go.Proofs.Ytipohagcppfgiaa
