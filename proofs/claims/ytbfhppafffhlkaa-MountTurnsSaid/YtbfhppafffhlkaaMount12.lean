/- Mounts: the law's words. -/
import Derived.Test.YtbfhppafffhlkaaMount11
namespace Go.Proofs.Ytbfhppafffhlkaa
open Go.RowKit
open Go.Proofs
set_option linter.unusedVariables false

set_option maxRecDepth 100000 in
theorem words_any (ts : List ByteArray) (ns : List Nat) (a : Option Addr) (n cap : Nat) (w : World) (hl : ts.length = n) (hl2 : ns.length = n) (hn : n ≤ 1000) (hk : ∀ (k : Nat) (s : ByteArray) (N : Nat), ts[k]? = some s → ns[k]? = some N → s.size ≤ 1000 ∧ ofV s.data.toList = .tuple #[.int .u64 ((N : Nat) : Int), .int .i64 0])
    (h : Leads w a n cap (tcells ts)) :
    Calls Try.prog 24 #[.slice a n cap] w (fun e w' => ∃ v, Words ns (fun v => .tuple #[v, .bool true]) w e w' v) := by
  have H := hid h
  have HL := hid hl
  have HL2 := hid hl2
  have HK0 := hid hk
  have hn1 := h.len.1
  clear h hl hl2 hk
  go_enter Try.func24, Try.ntmps24
  go_wp2
  go_loopg [4, 6, 7, 8, 11] n (fun g v _ _ _ i wr => ∃ k : Nat, g + k = n ∧ i = .int .i64 (k : Nat) ∧ wr.ownsRow w.heap.size 23 1 v k (wcells (ns.take k)) ∧ Below w.heap.size w wr)
  case atStart => exact ⟨0, rfl, rfl, World.ownsRow_nil _ _ _ _, Below.refl _ _⟩
  case round =>
    obtain ⟨k, hk, rfl, hown, hb⟩ := hrel
    have HK := hid hk
    have hbs := hb.size
    clear hk
    by_cases hlt : k < n
    · obtain ⟨s, hs⟩ : ∃ x, ts[k]? = some x := ⟨_, List.getElem?_eq_getElem (by rw [HL.out]; exact hlt)⟩
      obtain ⟨N, hN⟩ : ∃ x, ns[k]? = some x := ⟨_, List.getElem?_eq_getElem (by rw [HL2.out]; exact hlt)⟩
      obtain ⟨hss, hof⟩ := HK0.out k s N hs hN
      obtain ⟨b, off, rfl, hc⟩ := H.out.at hlt (by unfold tcells; rw [List.getElem?_map, hs]; rfl)
      have hc1 := hc wr hb
      have hO := fun W => Of_any s W hss
      rw [hof] at hO
      have HOF := hid hO
      have HS : Hid (ns.take (k + 1) = ns.take k ++ [N]) := hid (by rw [List.take_add_one, hN]; rfl)
      have HO := hid hown
      clear hs hN hof hc hO hown
      go_wp2_with fail
      refine (HOF.out _).mono ?_
      rintro e w1 ⟨rfl, hb1⟩
      obtain ⟨w2, hw2, hb2, hs2, hl2⟩ := laid w1 #[.int .u64 ((N : Nat) : Int)] 23
      have HL3 := hid hl2
      have hb12 := step hb1 hb2
      have hs5 : w.heap.size ≤ w2.heap.size := by have := hb12.size; omega
      clear hl2 hs2
      go_wp2_with ((with_reducible show wpList _ _ _ _ _ _); refine wp_append1 elemWords rfl (.tmp 22) (.tmp 24) rfl w.heap.size u4 k _ rfl (own_grow HO.out hb12) w1.heap.size [.int .u64 ((N : Nat) : Int)] rfl rfl ?c1 ?c2 ?c3 ?c4 ?c5)
      case c1 =>
        intro j u hj
        exact cell_laid HL3.out (by simpa using hj)
      case c2 => intro u hu; simp at hu; subst hu; rfl
      case c3 => omega
      case c4 => exact hs5
      case c5 =>
        intro v' w5 hown' hb5 hs6
        have HO' : Hid (w5.ownsRow w.heap.size 23 1 v' (k + 1) (wcells (ns.take (k + 1)))) := hid (by
          rw [HS.out]
          unfold wcells at *
          rw [List.map_append]
          exact hown')
        clear hown'
        go_wp2
        go_roundg (gk - 1)
        case measure => have := HK.out; omega
        case rel => exact ⟨k + 1, by have := HK.out; omega, by go_num, HO'.out, (step hb hb12).trans hb5⟩
    · have e := HK.out
      obtain rfl : n = k := by omega
      rw [List.take_of_length_le (by rw [HL2.out]; exact Nat.le_refl _)] at hown
      have HO := hid hown
      clear hown e
      go_wp2
      go_ret2
      exact ⟨_, rfl, by rw [HL2.out]; exact HO.out, hb⟩
end Go.Proofs.Ytbfhppafffhlkaa
