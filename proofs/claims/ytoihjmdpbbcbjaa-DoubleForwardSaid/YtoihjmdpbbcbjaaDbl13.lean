/- Lists linked both ways: in, Put, Cut. -/
import Derived.Test.YtoihjmdpbbcbjaaDbl12
namespace Go.Proofs.Ytoihjmdpbbcbjaa
open Go.RowKit
open Go.Proofs
set_option linter.unusedVariables false
attribute [local go_sem] Oper.semAt_some

def hasN (xs : List Tw) (p : Nat) : Bool := xs.any fun t => decide (t.1 = p)
theorem twcells_len (xs : List Tw) : (twcells xs).length = xs.length * 3 := by
  induction xs with
  | nil => rfl
  | cons x xs ih => show (tw3 x ++ twcells xs).length = _; rw [List.length_append, ih, List.length_cons]; show 3 + _ = _; omega
theorem twcells_at {xs : List Tw} {k : Nat} {t : Tw} (h : xs[k]? = some t) : (twcells xs)[k * 3]? = some (.int .u64 ((t.1 : Nat) : Int)) ∧ (twcells xs)[k * 3 + 1]? = some (.int .u64 ((t.2.1 : Nat) : Int)) ∧ (twcells xs)[k * 3 + 2]? = some (.int .u64 ((t.2.2 : Nat) : Int)) :=
  ⟨flat_at tw3 3 (fun _ => rfl) xs k 0 t h (by decide), flat_at tw3 3 (fun _ => rfl) xs k 1 t h (by decide), flat_at tw3 3 (fun _ => rfl) xs k 2 t h (by decide)⟩
theorem Leads.tw {w : World} {a : Option Addr} {n cap k : Nat} {xs : List Tw} {t : Tw} (h : Leads w a n cap (twcells xs)) (hk : k < n) (hv : xs[k]? = some t) : ∃ b off, a = some ⟨b, off, none⟩ ∧ b < w.heap.size ∧ ∀ w', Below w.heap.size w w' →
    w'.cell? ⟨b, off + k * 3, none⟩ = some (.int .u64 ((t.1 : Nat) : Int)) ∧ w'.cell? ⟨b, off + k * 3 + 1, none⟩ = some (.int .u64 ((t.2.1 : Nat) : Int)) ∧ w'.cell? ⟨b, off + k * 3 + 2, none⟩ = some (.int .u64 ((t.2.2 : Nat) : Int)) := by
  obtain ⟨_, _, ⟨h, _⟩ | ⟨b, off, rfl, h3, h4⟩⟩ := h
  · omega
  · obtain ⟨q0, q1, q2⟩ := twcells_at hv
    exact ⟨b, off, rfl, h3, fun w' hb => ⟨(hb.cell (p := ⟨b, off + k * 3, none⟩) h3).trans (h4 _ _ q0), (hb.cell (p := ⟨b, off + k * 3 + 1, none⟩) h3).trans (h4 (k * 3 + 1) _ q1), (hb.cell (p := ⟨b, off + k * 3 + 2, none⟩) h3).trans (h4 (k * 3 + 2) _ q2)⟩⟩

theorem in1_any (t : Tw) (p X : Nat) (V : World) (h : V.cell? ⟨X, 0, none⟩ = some (.int .u64 ((p : Nat) : Int))) (hX : X < V.heap.size) :
    Calls Try.prog 51 #[twV t, .pointer (some ⟨X, 0, none⟩)] V (Ret (.bool (decide (t.1 = p))) V) := by
  obtain ⟨V1, hV1, hb1, hs1, hl1⟩ := laid V #[.int .u64 ((t.1 : Nat) : Int), .int .u64 ((t.2.1 : Nat) : Int), .int .u64 ((t.2.2 : Nat) : Int)] 28
  have x0 : V1.cell? ⟨X, 0, none⟩ = some (.int .u64 ((p : Nat) : Int)) := (hb1.cell (p := ⟨X, 0, none⟩) hX).trans h
  have t0 := cell_laid (i := 0) hl1 rfl
  have HB1 := hid hb1
  obtain ⟨q, q2, q3⟩ := t
  dsimp only at hV1 t0 ⊢
  unfold twV
  have HE : Hid ((((q : Nat) : Int) == ((p : Nat) : Int)) = decide (q = p)) := hid (by rw [Bool.eq_iff_iff]; simp; omega)
  clear h hl1 hb1 hs1
  go_enter Try.func51, Try.ntmps51
  go_wp2
  go_ret
  exact ⟨retb HE.out, HB1.out⟩

set_option maxRecDepth 100000 in
set_option maxHeartbeats 2000000 in
theorem IndexF_any (xs : List Tw) (a : Option Addr) (n cap p X : Nat) (V : World) (h : Leads V a n cap (twcells xs)) (hn : xs.length = n) (hn4 : n ≤ 10000) (hc : V.cell? ⟨X, 0, none⟩ = some (.int .u64 ((p : Nat) : Int))) (hX : X < V.heap.size) :
    Calls Try.prog 67 #[.slice a n cap, .func (.func 51) #[] #[.pointer (some ⟨X, 0, none⟩)]] V (fun e W => Below V.heap.size V W ∧ ∃ j : Int, e = .returned (.int .i64 j) ∧ decide (0 ≤ j) = hasN xs p) := by
  have hl := h.len
  have H := hid h
  have HN := hid hn
  have HC := hid hc
  have HX := hid hX
  clear h hn hc hX
  go_enter Try.func67, Try.ntmps67
  go_wp2
  go_loopg [8] n (fun g i wr => ∃ k : Nat, g + k = n ∧ i = .int .i64 (k : Nat) ∧ Hid ((xs.take k).any (fun t => decide (t.1 = p)) = false) ∧ Hid (Below V.heap.size V wr))
  case atStart => exact ⟨0, rfl, rfl, hid (by simp), hid (Below.refl _ _)⟩
  case round =>
    obtain ⟨k, hk, rfl, hs, hb⟩ := hrel
    have HK := hid hk
    clear hk
    by_cases hlt : k < n
    · obtain ⟨t, ht⟩ : ∃ t, xs[k]? = some t := ⟨_, List.getElem?_eq_getElem (by rw [HN.out]; exact hlt)⟩
      obtain ⟨b, off, rfl, -, hcc⟩ := H.out.tw hlt ht
      obtain ⟨f0, f1, f2⟩ := hcc _ hb.out
      have HT := hid ht
      have HTK : Hid ((xs.take (k + 1)).any (fun t => decide (t.1 = p)) = decide (t.1 = p)) := hid (by rw [take_snoc ht, List.any_append, hs.out]; simp)
      have HI := hid (in1_any t p X wr ((hb.out.cell (p := ⟨X, 0, none⟩) HX.out).trans HC.out) (Nat.lt_of_lt_of_le HX.out hb.out.size))
      unfold twV at HI
      obtain ⟨BB, hBB⟩ : ∃ B, decide (t.1 = p) = B := ⟨_, rfl⟩
      rw [hBB] at HI HTK
      have HBB := hid hBB
      clear hcc ht hBB
      cases BB with
      | true =>
        have HE : Hid (hasN xs p = true) := hid (by
          unfold hasN
          rw [List.any_eq_true]
          exact ⟨t, List.mem_of_getElem? HT.out, HBB.out⟩)
        go_wp2_with fail
        refine HI.out.mono ?_
        rintro e w2 ⟨rfl, hb2⟩
        have HB2 := hid (hb.out.trans (hb2.mono hb.out.size))
        clear hb2
        go_wp2
        go_ret
        exact ⟨HB2.out, _, rfl, by rw [HE.out, decide_eq_true (by omega)]⟩
      | false =>
        go_wp2_with fail
        refine HI.out.mono ?_
        rintro e w2 ⟨rfl, hb2⟩
        have HB2 := hid (hb.out.trans (hb2.mono hb.out.size))
        clear hb2
        go_wp2
        go_roundg (gk - 1)
        case measure => have := HK.out; omega
        case rel => exact ⟨k + 1, by have := HK.out; omega, by go_num, HTK, HB2⟩
    · have e := HK.out
      obtain rfl : k = n := by omega
      have HE : Hid (hasN xs p = false) := hid (by
        have := hs.out
        rwa [List.take_of_length_le (by rw [HN.out]; exact Nat.le_refl _)] at this)
      clear hs e HK
      go_wp2
      go_ret
      exact ⟨hb.out, _, rfl, by rw [HE.out]; rfl⟩
theorem in_any (xs : List Tw) (a : Option Addr) (n cap p : Nat) (V : World) (h : Leads V a n cap (twcells xs)) (hn : xs.length = n) (hn4 : n ≤ 10000) :
    Calls Try.prog 36 #[.slice a n cap, .int .u64 ((p : Nat) : Int)] V (Ret (.bool (hasN xs p)) V) := by
  obtain ⟨V1, hV1, hb1, hs1, hl1⟩ := laid V #[.int .u64 ((p : Nat) : Int)] 26
  have HI := hid (IndexF_any xs a n cap p V.heap.size V1 (h.grow hb1) hn hn4 (cell_laid hl1 rfl) (by omega))
  have hmf : ∀ (fn : Fn) (first cap : Array Value) (w : World), (Instr.makeFunc fn first cap).run Try.prog w = .ok (.func fn first cap) w := fun _ _ _ _ => rfl
  have HB1 := hid hb1
  have HC : ∀ X, X = V.heap.size → Calls Try.prog 50 #[.slice a n cap, .func (.func 51) #[] #[.pointer (some ⟨X, 0, none⟩)]] V1 (Ret (.bool (hasN xs p)) V1) := by
    intro X hX
    subst hX
    clear hV1 hl1 hs1 hb1 h hn
    go_enter Try.func50, Try.ntmps50
    go_wp2_with fail
    refine HI.out.mono ?_
    rintro e w2 ⟨hb, j, rfl, hj⟩
    have HJ := hid hj
    clear hj
    go_wp2
    go_ret
    exact ⟨retb HJ.out, hb⟩
  have HC := hid (HC _ rfl)
  clear h hn hl1 hb1 hs1
  go_enter Try.func36, Try.ntmps36
  go_wp2_with fail
  refine HC.out.mono ?_
  rintro e w2 ⟨rfl, hb⟩
  have HB2 := hid (step HB1.out hb)
  clear hb
  go_wp2
  go_ret
  exact ⟨rfl, HB2.out⟩
end Go.Proofs.Ytoihjmdpbbcbjaa
