/- The functions of package path: what is ahead. -/
import Derived.Test.YtbfhppafffhlkaaPath7
import Derived.Test.YtbfhppafffhlkaaPathEq
namespace Go.Proofs.Ytbfhppafffhlkaa
open Go.RowKit Go.Shelf
open Go.Proofs
set_option linter.unusedVariables false

def aheadL (p q : List (List UInt8)) : Bool := decide (p = q.take p.length)
theorem dl_take (xs : List ByteArray) (k : Nat) : dl (xs.take k) = (dl xs).take k := by unfold dl; rw [List.map_take]
theorem dl_len (xs : List ByteArray) : (dl xs).length = xs.length := by unfold dl; rw [List.length_map]
theorem Leads.cut {w : World} {a : Option Addr} {n cap m : Nat} {xs : List ByteArray} (h : Leads w a n cap (tcells xs)) (hx : xs.length = n) (hm : m ≤ n) : Leads w a m cap (tcells (xs.take m)) := by
  obtain ⟨h1, h2, ⟨h, h'⟩ | ⟨b, off, rfl, h3, h4⟩⟩ := h
  · exact ⟨by omega, by omega, .inl ⟨by omega, by rw [show xs = [] from List.eq_nil_of_length_eq_zero (by omega)]; simp [tcells]⟩⟩
  · refine ⟨by omega, by omega, .inr ⟨b, off, rfl, h3, fun i v hv => h4 i v ?_⟩⟩
    unfold tcells at *
    rw [List.map_take, List.getElem?_take] at hv
    split at hv
    · exact hv
    · cases hv

theorem ahead_any (xs ys : List ByteArray) (a a' : Option Addr) (n n' cap cap' : Nat) (x y : Nat) (w : World) (hx : xs.length = n) (hy : ys.length = n') (h : Leads w a n cap (tcells xs)) (h' : Leads w a' n' cap' (tcells ys)) :
    Calls Try.prog 54 #[.agg #[.slice a n cap, .int .u64 (x : Nat)], .agg #[.slice a' n' cap', .int .u64 (y : Nat)]] w (Ret (.bool (aheadL (dl xs) (dl ys))) w) := by
  have hln := h.len.1
  have hln' := h'.len.1
  have hnc' := h'.1
  obtain ⟨w1, hw1, hb1, hs1, hl1⟩ := laid w #[.slice a n cap, .int .u64 (x : Nat)] 77
  obtain ⟨w2, hw2, hb2, hs2, hl2⟩ := laid w1 #[.slice a' n' cap', .int .u64 (y : Nat)] 77
  have f1 : ∀ z : Ext w2, z.v.cell? ⟨w.heap.size, 0, none⟩ = some (.slice a n cap) := fun z => cell_laid (keep_laid (keep_laid hl1 hb2) z.b) rfl
  have f2 : ∀ z : Ext w2, z.v.cell? ⟨w1.heap.size, 0, none⟩ = some (.slice a' n' cap') := fun z => cell_laid (keep_laid hl2 z.b) rfl
  have hb12 := step hb1 hb2
  by_cases hn : n ≤ n'
  · have hE := fun z : Ext w2 => EqP_any xs (ys.take n) a a' n n cap cap' z.v hx (by rw [List.length_take]; omega) (h.grow (step hb12 z.b)) ((h'.grow (step hb12 z.b)).cut hy hn)
    have he : decide (dl xs = dl (ys.take n)) = aheadL (dl xs) (dl ys) := by unfold aheadL; rw [dl_take, dl_len, hx]
    rw [he] at hE
    generalize aheadL (dl xs) (dl ys) = q at *
    have HE := hid hE
    have hni : ((n : Int) ≤ n') := by omega
    have hdi : decide ((n : Int) ≤ n') = true := decide_eq_true hni
    clear hE he hl1 hl2 h h' hx hy hn hs1 hs2
    go_enter Try.func54, Try.ntmps54
    go_wp2
    refine wp_region_ext (by kernel_rfl) (by kernel_rfl) ?_
    repeat (go_big_quiet_step ((go_at_call 65; exact ext_of (HE.out _))))
    refine wpQuiet_nil ?_
    rintro _ ⟨⟨w3, hb3⟩, rfl⟩
    go_wp2
    go_ret
    exact ⟨rfl, step hb12 hb3⟩
  · have he : aheadL (dl xs) (dl ys) = false := by
      unfold aheadL
      refine decide_eq_false fun e => ?_
      have := congrArg List.length e
      rw [List.length_take, dl_len, dl_len, hx, hy] at this
      omega
    rw [he]
    have hni : ((n' : Int) < n) := by omega
    have hdi : decide (n ≤ n') = false := decide_eq_false (by omega)
    clear he hl1 hl2 h h' hx hy hn hs1 hs2
    go_enter Try.func54, Try.ntmps54
    go_wp2
    refine wp_region_ext (by kernel_rfl) (by kernel_rfl) ?_
    repeat (go_big_quiet_step (fail))
    refine wpQuiet_nil ?_
    rintro _ ⟨⟨w3, hb3⟩, rfl⟩
    go_wp2
    go_ret
    exact ⟨rfl, step hb12 hb3⟩

/-- Ahead. -/
def aheadB (a b : Nat) : Bool := match rd a, rd b with
  | some p, some q => aheadL p q
  | _, _ => false
theorem Ahead_any (x y : Nat) (w : World) (hx : x < 18446744073709551616) (hy : y < 18446744073709551616) : Calls Try.prog 46 #[.int .u64 (x : Nat), .int .u64 (y : Nat)] w (Ret (.bool (aheadB x y)) w) := by
  cases h : rd x with
  | none =>
    have e : aheadB x y = false := by unfold aheadB; rw [h]
    rw [e]
    have HR := hid fun W => read_none x W hx h
    cases h' : rd y with
    | none =>
      have HR' := hid fun W => read_none y W hy h'
      clear h h' e
      go_enter Try.func46, Try.ntmps46
      go_wp2_with fail
      refine (HR.out _).mono ?_
      unfold noPath
      rintro e w1 ⟨rfl, hb1⟩
      go_wp2_with fail
      refine (HR'.out _).mono ?_
      unfold noPath
      rintro e w2 ⟨rfl, hb2⟩
      go_wp2
      go_ret
      exact ⟨rfl, (hb1.alloc hb1.size _).trans ((hb2.alloc hb2.size _).mono (by simp; have := hb1.size; omega))⟩
    | some q =>
      have HR' := hid fun W => read_some y q W hy h'
      clear h h' e
      go_enter Try.func46, Try.ntmps46
      go_wp2_with fail
      refine (HR.out _).mono ?_
      unfold noPath
      rintro e w1 ⟨rfl, hb1⟩
      go_wp2_with fail
      refine (HR'.out _).mono ?_
      rintro e w2 ⟨v, xs, rfl, hd, ho, hb2⟩
      obtain ⟨a, c, rfl, -⟩ := Leads.of_own ho
      clear hd ho
      go_wp2
      go_ret
      exact ⟨rfl, (hb1.alloc hb1.size _).trans ((hb2.alloc hb2.size _).mono (by simp; have := hb1.size; omega))⟩
  | some p =>
    have HR := hid fun W => read_some x p W hx h
    cases h' : rd y with
    | none =>
      have e : aheadB x y = false := by unfold aheadB; rw [h, h']
      rw [e]
      have HR' := hid fun W => read_none y W hy h'
      clear h h' e
      go_enter Try.func46, Try.ntmps46
      go_wp2_with fail
      refine (HR.out _).mono ?_
      rintro e w1 ⟨v, xs, rfl, hd, ho, hb1⟩
      obtain ⟨a, c, rfl, -⟩ := Leads.of_own ho
      clear hd ho
      go_wp2_with fail
      refine (HR'.out _).mono ?_
      unfold noPath
      rintro e w2 ⟨rfl, hb2⟩
      go_wp2
      go_ret
      exact ⟨rfl, (hb1.alloc hb1.size _).trans ((hb2.alloc hb2.size _).mono (by simp; have := hb1.size; omega))⟩
    | some q =>
      have e : aheadB x y = aheadL p q := by unfold aheadB; rw [h, h']
      rw [e]
      have HR' := hid fun W => read_some y q W hy h'
      clear h h' e
      go_enter Try.func46, Try.ntmps46
      go_wp2_with fail
      refine (HR.out _).mono ?_
      rintro e w1 ⟨v, xs, rfl, hd, ho, hb1⟩
      obtain ⟨n, hn⟩ : ∃ n, xs.length = n := ⟨_, rfl⟩
      rw [hn] at ho
      obtain ⟨a, c, rfl, hld⟩ := Leads.of_own ho
      obtain ⟨w2, hw2, hb2, hs2, hl2⟩ := laid w1 #[.slice a n c, .int .u64 (x : Nat)] 77
      have HLD := hid (hld.grow hb2)
      have HN := hid hn
      have HD := hid hd
      have HL2 := hid hl2
      have hb12 := step hb1 hb2
      clear hd ho hn hld hl2 hs2
      go_wp2_with fail
      refine (HR'.out _).mono ?_
      rintro e w3 ⟨v', ys, rfl, hd', ho', hb3⟩
      obtain ⟨n', hn'⟩ : ∃ n, ys.length = n := ⟨_, rfl⟩
      rw [hn'] at ho'
      obtain ⟨a', c', rfl, hld'⟩ := Leads.of_own ho'
      obtain ⟨w4, hw4, hb4, hs4, hl4⟩ := laid w3 #[.slice a' n' c', .int .u64 (y : Nat)] 77
      have hA := ahead_any xs ys a a' n n' c c' x y w4 HN.out hn' (HLD.out.grow (step hb3 hb4)) (hld'.grow hb4)
      rw [HD.out, hd'] at hA
      have hc0 := cell_laid (i := 0) (v := .slice a n c) (keep_laid HL2.out (step hb3 hb4)) rfl
      have hc1 := cell_laid (i := 1) (v := .int .u64 (x : Nat)) (keep_laid HL2.out (step hb3 hb4)) rfl
      have hc2 := cell_laid (i := 0) (v := .slice a' n' c') hl4 rfl
      have hc3 := cell_laid (i := 1) (v := .int .u64 (y : Nat)) hl4 rfl
      have HA := hid hA
      clear hd' ho' hn' hld' hl4 hs4 hA
      go_wp2_with (go_at_call 54; refine HA.out.mono ?_; rintro e w5 ⟨rfl, hb5⟩)
      go_ret
      exact ⟨rfl, step (step (step hb12 hb3) hb4) hb5⟩
end Go.Proofs.Ytbfhppafffhlkaa
