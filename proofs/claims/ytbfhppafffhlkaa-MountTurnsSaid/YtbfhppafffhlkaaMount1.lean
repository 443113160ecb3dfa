/- The functions of package mount: byPath, Check, check. -/
import Derived.Test.YtbfhppafffhlkaaPath7
import Derived.Test.YtbfhppafffhlkaaMaps
import Derived.Carry
namespace Go.Proofs.Ytbfhppafffhlkaa
open Go.RowKit
open Go.Proofs
set_option linter.unusedVariables false

/-- Mounts: paths, and ids. -/
def mcells (ms : List (Nat × Nat)) : List Value := ms.flatMap fun p => [.int .u64 ((p.1 : Nat) : Int), .int .u64 ((p.2 : Nat) : Int)]
def mok (ms : List (Nat × Nat)) : Prop := ∀ p ∈ ms, p.1 < 18446744073709551616 ∧ p.2 < 18446744073709551616
theorem Leads.mount {w : World} {a : Option Addr} {n cap k : Nat} {ms : List (Nat × Nat)} {p : Nat × Nat} (h : Leads w a n cap (mcells ms)) (hk : k < n) (hp : ms[k]? = some p) : ∃ b off, a = some ⟨b, off, none⟩ ∧ b < w.heap.size ∧ (∀ x, Below w.heap.size w x → x.cell? ⟨b, off + k * 2, none⟩ = some (.int .u64 ((p.1 : Nat) : Int)) ∧ x.cell? ⟨b, off + k * 2 + 1, none⟩ = some (.int .u64 ((p.2 : Nat) : Int))) := by
  obtain ⟨_, _, ⟨h, _⟩ | ⟨b, off, rfl, h3, h4⟩⟩ := h
  · omega
  · exact ⟨b, off, rfl, h3, fun x hx => ⟨(hx.cell (p := ⟨b, off + k * 2, none⟩) h3).trans (h4 _ _ (flat_at _ 2 (fun _ => rfl) ms k 0 _ hp (by omega))), (hx.cell (p := ⟨b, off + k * 2 + 1, none⟩) h3).trans (h4 (k * 2 + 1) _ (flat_at _ 2 (fun _ => rfl) ms k 1 _ hp (by omega)))⟩⟩

set_option maxRecDepth 100000 in
theorem byPath_any (ms : List (Nat × Nat)) (a : Option Addr) (n cap : Nat) (nx : Int) (w : World) (hl : ms.length = n) (hok : mok ms) (hn : n ≤ 1000) (h : Leads w a n cap (mcells ms)) :
    Calls Try.prog 32 #[.agg #[.slice a n cap, .int .u64 nx]] w (fun e w' => ∃ b, e = .returned (.map (some b)) ∧ w.heap.size ≤ b ∧ Ids w' b ms ∧ Below w.heap.size w w') := by
  obtain ⟨w1, hw1, hb1, hs1, hl1⟩ := laid w #[.slice a n cap, .int .u64 nx] 25
  obtain ⟨w2, hw2⟩ : ∃ w2, w1.alloc (.map #[] 0) = w2 := ⟨_, rfl⟩
  have hb2 : Below w1.heap.size w1 w2 := by rw [← hw2]; exact (Below.refl _ _).alloc (Nat.le_refl _) _
  have hid0 : Ids w2 w1.heap.size [] := by rw [← hw2]; exact Ids.made w1
  have hc0 : w2.cell? ⟨w.heap.size, 0, none⟩ = some (.slice a n cap) := cell_laid (keep_laid hl1 hb2) rfl
  have hmm := @run_makeMap Try.prog
  have H := hid h
  have hw1w : w.heap.size ≤ w1.heap.size := by omega
  have hb12 : Below w.heap.size w w2 := step hb1 hb2
  have HL := hid hl
  have HOK := hid hok
  have HI := hid hid0
  have hnc := h.len.1
  clear h hl hok hl1 hid0 hs1
  go_enter Try.func32, Try.ntmps32
  go_wp2
  go_loopg [10] n (fun g i wr => ∃ k : Nat, g + k = n ∧ i = .int .i64 (k : Nat) ∧ Hid (Ids wr w1.heap.size (ms.take k)) ∧ Below w.heap.size w wr)
  case atStart => exact ⟨0, rfl, rfl, HI, hb12⟩
  case round =>
    obtain ⟨k, hk, rfl, hI, hb⟩ := hrel
    have HK := hid hk
    clear hk
    by_cases hlt : k < n
    · obtain ⟨⟨p1, p2⟩, hp⟩ : ∃ p, ms[k]? = some p := ⟨_, List.getElem?_eq_getElem (by rw [HL.out]; exact hlt)⟩
      obtain ⟨hp1, hp2⟩ := HOK.out _ (List.mem_of_getElem? hp)
      dsimp only at hp1 hp2
      obtain ⟨b, off, rfl, hbl, hc⟩ := H.out.mount hlt hp
      have hc1 := (hc wr hb).1
      have hc2 := (hc wr hb).2
      have HS : Hid (ms.take (k + 1) = ms.take k ++ [(p1, p2)]) := hid (by rw [List.take_add_one, hp]; rfl)
      obtain ⟨wb, hwb, hbb, hsb, hlb⟩ := laid wr #[.int .u64 ((p1 : Nat) : Int), .int .u64 ((p2 : Nat) : Int)] 51
      have hx0 := cell_laid hlb (i := 0) rfl
      have hx1 := cell_laid hlb (i := 1) rfl
      have HIB := hid (hI.out.grow hbb)
      have HLN : Hid ((ms.take k).length ≤ 1000) := hid (by rw [List.length_take]; omega)
      clear hp hc hlb hI
      go_wp2_with (at_mapUpdate; refine wp_put rfl _ _ _ 66 rfl Try.underlying66 w1.heap.size p1 p2 (ms.take k) rfl HIB.out HLN.out rfl rfl hp1 hp2 w.heap.size hw1w ?_; intro w3 hI3 hb3 hs3)
      have HI3 := hid hI3
      go_roundg (gk - 1)
      case measure => have := HK.out; omega
      case rel => exact ⟨k + 1, by have := HK.out; omega, by go_num, hid (by rw [HS.out]; exact HI3.out), (step hb hbb).trans hb3⟩
    · have e := HK.out
      obtain rfl : k = n := by omega
      have HI3 : Hid (Ids wr w1.heap.size ms) := hid (by have := hI.out; rw [List.take_of_length_le (by rw [HL.out]; exact Nat.le_refl _)] at this; exact this)
      clear e hI
      go_wp2
      go_ret
      exact ⟨_, rfl, hw1w, HI3.out, hb⟩
end Go.Proofs.Ytbfhppafffhlkaa
