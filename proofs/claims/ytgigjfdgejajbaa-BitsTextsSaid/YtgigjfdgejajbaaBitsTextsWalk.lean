/- BitsTexts: the walk of the law. -/
import Derived.Test.YtgigjfdgejajbaaLawA
import Derived.Test.YtgigjfdgejajbaaLawDefs
import Derived.Deep.DeepCutAuto
import Derived.Deep.CutBlock
namespace Go.Proofs.Ytgigjfdgejajbaa
open Go.RowKit
open Go.Proofs
set_option linter.unusedVariables false

theorem bitsTexts.walk (a0 : Option Addr) (cap0 : Nat) (ss : List ByteArray) (a1 : Option Addr) (cap1 : Nat) (xs : List Nat) (w : World) (h0 : Leads w a0 ss.length cap0 (ss.map Value.string)) (hs : ∀ s ∈ ss, s.size ≤ maxLen) (h1 : Leads w a1 xs.length cap1 (wcells xs)) (hx : wok xs) :
    Calls Try.prog 3 #[.slice a0 ss.length cap0, .slice a1 xs.length cap1] w (Ret (.bool true) w) := by
  obtain ⟨n, en⟩ : ∃ n, ss.length = n := ⟨_, rfl⟩
  obtain ⟨m, em⟩ : ∃ m, xs.length = m := ⟨_, rfl⟩
  rw [en] at h0 ⊢
  rw [em] at h1 ⊢
  have EN := hid en
  have EM := hid em
  have H0 := hid h0
  have H1 := hid h1
  have HS := hid hs
  have HX := hid hx
  have hn := h0.len.1
  have hm := h1.len.1
  clear en em h0 h1 hs hx
  go_enter Try.func3, Try.ntmps3
  go_upto_block 0 with ((go_at_call 9; refine (wakes_any _).mono ?_; rintro e w1 ⟨rfl, hb1⟩))
  go_cut [21] (fun i wr => Below w.heap.size w wr)
  case first =>
    go_wp2
    go_loopg [21] n (fun g i wr => ∃ k : Nat, g + k = n ∧ i = .int .i64 (k : Nat) ∧ Below w.heap.size w wr)
    case atStart => exact ⟨0, rfl, rfl, by assumption⟩
    case round =>
      obtain ⟨k, hk, rfl, hb⟩ := hrel
      have HK := hid hk
      clear hk
      by_cases hlt : k < n
      · obtain ⟨_, _, ⟨h, _⟩ | ⟨b, off, rfl, h3, h4⟩⟩ := H0.out
        · omega
        · obtain ⟨s, hsk⟩ : ∃ s, ss[k]? = some s := ⟨_, List.getElem?_eq_getElem (by rw [EN.out]; exact hlt)⟩
          have hc := (hb.cell (p := ⟨b, off + k, none⟩) h3).trans (h4 k (.string s) (by rw [List.getElem?_map, hsk]; rfl))
          have hsz := HS.out s (List.mem_of_getElem? hsk)
          have HSK := hid hsk
          have H4 := hid h4
          unfold maxLen at hsz
          clear h4 hsk
          cases h10 : ((k : Int) == 10) with
          | true => 
            go_wp2
            go_meet
            exact hb
          | false =>
            have hts : (s.extract 0 (min (s.size : Int) 12).toNat).size ≤ 12 := by rw [ByteArray.size_extract]; omega
            go_wp2_with fail
            generalize s.extract 0 (min (s.size : Int) 12).toNat = t at hts ⊢
            refine (Text_any t _ (by omega)).mono ?_
            by_cases h8 : 8 < t.size
            · rw [show textV t.data.toList = .tuple #[.int .u64 0, .int .i64 111] by unfold textV; rw [if_pos (by rw [← Lib.size_eq]; exact h8)]]
              rintro e w2 ⟨rfl, hb2⟩
              go_wp2
              go_roundg (gk - 1)
              case measure => have := HK.out; omega
              case rel => exact ⟨k + 1, by have := HK.out; omega, by go_num, step hb hb2⟩
            · have hle : t.size ≤ 8 := by omega
              clear h8
              cases hz : t.data.toList.contains 0 with
              | true =>
                rw [show textV t.data.toList = .tuple #[.int .u64 0, .int .i64 2] by unfold textV; rw [if_neg (by rw [← Lib.size_eq]; omega), hz]; rfl]
                rintro e w2 ⟨rfl, hb2⟩
                go_wp2_with fail
                refine (rNought_any t _ (by omega)).mono ?_
                rw [hz]
                rintro e w3 ⟨rfl, hb3⟩
                clear hz
                go_wp2
                go_roundg (gk - 1)
                case measure => have := HK.out; omega
                case rel => exact ⟨k + 1, by have := HK.out; omega, by go_num, step (step hb hb2) hb3⟩
              | false =>
                rw [show textV t.data.toList = .tuple #[.int .u64 ((Pl.textN t.data.toList : Nat) : Int), .int .i64 0] by unfold textV; rw [if_neg (by rw [← Lib.size_eq]; omega), hz]; rfl]
                rintro e w2 ⟨rfl, hb2⟩
                go_wp2_with fail
                refine (rNought_any t _ (by omega)).mono ?_
                rw [hz]
                rintro e w3 ⟨rfl, hb3⟩
                clear hz
                go_wp2_with fail
                refine (rText_any t _ hle).mono ?_
                rintro e w4 ⟨rfl, hb4⟩
                go_wp2
                go_roundg (gk - 1)
                case measure => have := HK.out; omega
                case rel => exact ⟨k + 1, by have := HK.out; omega, by go_num, step (step (step hb hb2) hb3) hb4⟩
      · go_wp2
        go_meet
        exact hb
  case rest =>
    go_wp2
    go_loopg [58] m (fun g i wr => ∃ k : Nat, g + k = m ∧ i = .int .i64 (k : Nat) ∧ Below w.heap.size w wr)
    case atStart => exact ⟨0, rfl, rfl, hcut⟩
    case round =>
      obtain ⟨k, hk, rfl, hb⟩ := hrel
      have HK := hid hk
      clear hk
      by_cases hlt : k < m
      · obtain ⟨_, _, ⟨h, _⟩ | ⟨b, off, rfl, h3, h4⟩⟩ := H1.out
        · omega
        · obtain ⟨x, hsk⟩ : ∃ x, xs[k]? = some x := ⟨_, List.getElem?_eq_getElem (by rw [EM.out]; exact hlt)⟩
          have hc := (hb.cell (p := ⟨b, off + k, none⟩) h3).trans (h4 k (.int .u64 (x : Int)) (by unfold wcells; rw [List.getElem?_map, hsk]; rfl))
          have hsz := HX.out x (List.mem_of_getElem? hsk)
          have HSK := hid hsk
          have H4 := hid h4
          clear h4 hsk
          cases h10 : ((k : Int) == 10) with
          | true => 
            go_wp2
            go_ret
            exact ⟨rfl, hb⟩
          | false =>
            go_wp2_with fail
            refine (Back_any x _ hsz).mono ?_
            by_cases hq : Pl.textN (backL x) = x
            · rw [show backV x = .tuple #[.string ⟨(backL x).toArray⟩, .int .i64 0] by unfold backV; rw [if_pos hq]]
              rintro e w2 ⟨rfl, hb2⟩
              have HQ := hid hq
              clear hq
              go_wp2_with fail
              refine (rBack_any x _ hsz).mono ?_
              rw [show rBackV x = .tuple #[.string ⟨(backL x).toArray⟩, .bool true] by unfold rBackV; rw [if_pos HQ.out]]
              rintro e w3 ⟨rfl, hb3⟩
              go_wp2
              go_roundg (gk - 1)
              case measure => have := HK.out; omega
              case rel => exact ⟨k + 1, by have := HK.out; omega, by go_num, step (step hb hb2) hb3⟩
            · rw [show backV x = .tuple #[.string ⟨#[]⟩, .int .i64 2] by unfold backV; rw [if_neg hq]]
              rintro e w2 ⟨rfl, hb2⟩
              have HQ := hid hq
              clear hq
              go_wp2_with fail
              refine (rBack_any x _ hsz).mono ?_
              rw [show rBackV x = .tuple #[.string ⟨#[]⟩, .bool false] by unfold rBackV; rw [if_neg HQ.out]]
              rintro e w3 ⟨rfl, hb3⟩
              go_wp2
              go_roundg (gk - 1)
              case measure => have := HK.out; omega
              case rel => exact ⟨k + 1, by have := HK.out; omega, by go_num, step (step hb hb2) hb3⟩
      · go_wp2
        go_ret
        exact ⟨rfl, hb⟩
end Go.Proofs.Ytgigjfdgejajbaa
