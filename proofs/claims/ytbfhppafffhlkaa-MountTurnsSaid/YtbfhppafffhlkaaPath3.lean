/- Rows of texts, gone through by a function value; the word of parts. -/
import Derived.Test.YtbfhppafffhlkaaPath1
import Derived.Test.YtbfhppafffhlkaaPath2
import Derived.Test.YtbfhppafffhlkaaText
namespace Go.Proofs.Ytbfhppafffhlkaa
open Go.RowKit
open Go.Proofs
set_option linter.unusedVariables false

/-- The first one of which something holds; -1: there is none. -/
def idxI {α : Type} (p : α → Bool) (xs : List α) : Int := if xs.any p then (xs.findIdx p : Nat) else -1
theorem idx_end {α : Type} (p : α → Bool) (xs : List α) (h : xs.any p = false) : idxI p xs = -1 := by unfold idxI; rw [h]; rfl
theorem idx_at {α : Type} (p : α → Bool) (xs : List α) (k : Nat) (x : α) (h : (xs.take k).any p = false) (hk : xs[k]? = some x) (hx : p x = true) : idxI p xs = (k : Nat) := by
  obtain ⟨hlt, rfl⟩ := List.getElem?_eq_some_iff.1 hk
  unfold idxI
  rw [if_pos (List.any_eq_true.2 ⟨_, List.getElem_mem hlt, hx⟩)]
  have : xs.findIdx p = k := by
    rw [List.findIdx_eq hlt]
    refine ⟨hx, fun j hj => ?_⟩
    have := List.any_eq_false.1 h (xs[j]'(by omega)) (by rw [List.mem_take_iff_getElem]; exact ⟨j, by omega, rfl⟩)
    simpa using this
  rw [this]
theorem any_snoc {α : Type} (p : α → Bool) (xs : List α) (k : Nat) (x : α) (h : (xs.take k).any p = false) (hk : xs[k]? = some x) (hx : p x = false) : (xs.take (k + 1)).any p = false := by
  obtain ⟨hlt, rfl⟩ := List.getElem?_eq_some_iff.1 hk
  rw [List.take_succ_eq_append_getElem hlt, List.any_append, h]; simp [hx]
theorem idx_ge {α : Type} (p : α → Bool) (xs : List α) : (decide (0 ≤ idxI p xs)) = xs.any p := by
  unfold idxI
  cases xs.any p with
  | true => simp
  | false => rfl

/-- Texts as cells. -/
def tcells (ss : List ByteArray) : List Value := ss.map Value.string

theorem Leads.at {w : World} {a : Option Addr} {n cap k : Nat} {cs : List Value} {v : Value} (h : Leads w a n cap cs) (hk : k < n) (hv : cs[k]? = some v) : ∃ b off, a = some ⟨b, off, none⟩ ∧ ∀ w', Below w.heap.size w w' → w'.cell? ⟨b, off + k, none⟩ = some v := by
  obtain ⟨_, _, ⟨h, _⟩ | ⟨b, off, rfl, h3, h4⟩⟩ := h
  · omega
  · exact ⟨b, off, rfl, fun w' hb => (hb.cell (p := ⟨b, off + k, none⟩) h3).trans (h4 k _ hv)⟩

set_option maxHeartbeats 1000000 in
theorem IdxS_any (xs : List ByteArray) (a : Option Addr) (n cap : Nat) (p0 : Addr) (p : ByteArray → Bool) (w : World) (hxn : xs.length = n) (hl : Leads w a n cap (tcells xs))
    (hp : ∀ W, Below w.heap.size w W → ∀ x, xs.contains x = true ∨ x ∈ xs → Calls Try.prog 64 #[.string x, .pointer (some p0)] W (Ret (.bool (p x)) W)) :
    Calls Try.prog 70 #[.slice a n cap, .func (.func 64) #[] #[.pointer (some p0)]] w (Ret (.int .i64 (idxI p xs)) w) := by
  have hln := hl.len.1
  have HL := hid hl
  have HN := hid hxn
  have HP := hid hp
  clear hl hp hxn
  go_enter Try.func70, Try.ntmps70
  go_wp2
  go_loopg [5, 8] n (fun g _ i wr => ∃ k : Nat, g + k = n ∧ i = .int .i64 (k : Nat) ∧ Hid ((xs.take k).any p = false) ∧ Below w.heap.size w wr)
  case atStart => exact ⟨0, rfl, rfl, rfl, Below.refl _ _⟩
  case round =>
    obtain ⟨k, hk, rfl, hno, hb⟩ := hrel
    have HK := hid hk
    clear hk
    by_cases hlt : k < n
    · obtain ⟨x, hx⟩ : ∃ x, xs[k]? = some x := ⟨_, List.getElem?_eq_getElem (by rw [HN.out]; exact hlt)⟩
      obtain ⟨b, off, rfl, hc⟩ := HL.out.at hlt (by unfold tcells; rw [List.getElem?_map, hx]; rfl)
      have hc1 := hc wr hb
      have hC := HP.out wr hb x (.inr (List.mem_of_getElem? hx))
      cases hpx : p x with
      | true =>
        rw [hpx] at hC
        have HC := hid hC
        have HI := hid (idx_at p xs k x hno.out hx hpx)
        clear hC hc hx hpx hno
        go_wp2_with (go_at_call 64; refine HC.out.mono ?_; rintro e w1 ⟨rfl, hb1⟩)
        go_ret
        exact ⟨reti HI.out.symm, step hb hb1⟩
      | false =>
        rw [hpx] at hC
        have HC := hid hC
        have HI := hid (any_snoc p xs k x hno.out hx hpx)
        clear hC hc hx hpx hno
        go_wp2_with (go_at_call 64; refine HC.out.mono ?_; rintro e w1 ⟨rfl, hb1⟩)
        go_roundg (gk - 1)
        case measure => have := HK.out; omega
        case rel => exact ⟨k + 1, by have := HK.out; omega, by go_num, HI, step hb hb1⟩
    · have HI : Hid (idxI p xs = -1) := by
        have e := HK.out
        have := hno.out
        rw [List.take_of_length_le (by rw [HN.out]; omega)] at this
        exact idx_end p xs this
      clear hno
      go_wp2
      go_ret
      exact ⟨reti HI.out.symm, hb⟩

theorem all1_any (x : ByteArray) (b : Nat) (w : World) (hc : w.cell? ⟨b, 0, none⟩ = some (.func (.func 50) #[] #[])) :
    Calls Try.prog 64 #[.string x, .pointer (some ⟨b, 0, none⟩)] w (Ret (.bool (!partB x.data.toList)) w) := by
  have HP := hid (part_any x w)
  generalize partB x.data.toList = q at *
  go_enter Try.func64, Try.ntmps64
  go_wp2_with (go_at_call 50; refine HP.out.mono ?_; rintro e w1 ⟨rfl, hb1⟩)
  go_ret
  exact ⟨rfl, hb1⟩

theorem HasS_any (xs : List ByteArray) (a : Option Addr) (n cap b : Nat) (w : World) (hxn : xs.length = n) (hl : Leads w a n cap (tcells xs)) (hblt : b < w.heap.size)
    (hc : w.cell? ⟨b, 0, none⟩ = some (.func (.func 50) #[] #[])) :
    Calls Try.prog 63 #[.slice a n cap, .func (.func 64) #[] #[.pointer (some ⟨b, 0, none⟩)]] w (Ret (.bool (xs.any fun x => !partB x.data.toList)) w) := by
  have HP := hid (IdxS_any xs a n cap ⟨b, 0, none⟩ (fun x => !partB x.data.toList) w hxn hl fun W hW x _ => all1_any x b W ((hW.cell (p := ⟨b, 0, none⟩) hblt).trans hc))
  have HE := hid (idx_ge (fun x : ByteArray => !partB x.data.toList) xs)
  generalize idxI (fun x : ByteArray => !partB x.data.toList) xs = q at *
  clear hl hxn
  go_enter Try.func63, Try.ntmps63
  go_wp2_with (go_at_call 70; refine HP.out.mono ?_; rintro e w1 ⟨rfl, hb1⟩)
  go_ret
  exact ⟨retb HE.out, hb1⟩

def allParts (xs : List ByteArray) : Bool := xs.all fun x => partB x.data.toList
theorem all_not (xs : List ByteArray) : (!(xs.any fun x => !partB x.data.toList)) = allParts xs := by
  unfold allParts
  induction xs with
  | nil => rfl
  | cons x r ih => rw [List.any_cons, List.all_cons, Bool.not_or, ih, Bool.not_not]

theorem all_any (xs : List ByteArray) (a : Option Addr) (n cap : Nat) (w : World) (hxn : xs.length = n) (hl : Leads w a n cap (tcells xs)) :
    Calls Try.prog 53 #[.slice a n cap, .func (.func 50) #[] #[]] w (Ret (.bool (allParts xs)) w) := by
  obtain ⟨w1, hw1, hb1, hs1, hcc⟩ := boxed w #[.func (.func 50) #[] #[]] 63
  have HP := hid (HasS_any xs a n cap w.heap.size w1 hxn (hl.grow hb1) (by omega) (hcc w1 0 _ (Below.refl _ _) rfl))
  have HE := hid (all_not xs)
  generalize (xs.any fun x => !partB x.data.toList) = q at *
  clear hl hxn hcc hs1
  go_enter Try.func53, Try.ntmps53
  go_wp2_with (go_at_call 63; refine HP.out.mono ?_; rintro e w2 ⟨rfl, hb2⟩)
  go_ret
  exact ⟨retb HE.out, step hb1 hb2⟩

/-- The text of parts, and their word. -/
def joinL (ls : List (List UInt8)) : List UInt8 := 47 :: Lib.join ls [47]
def dl (xs : List ByteArray) : List (List UInt8) := xs.map (·.data.toList)
/-- Have these texts a word? -/
def okL (ls : List (List UInt8)) : Bool := decide ((joinL ls).length ≤ 8) && !(joinL ls).contains 0 && decide (ls.length ≤ 4) && ls.all partB
def numL (ls : List (List UInt8)) : Nat := if (joinL ls).length ≤ 8 ∧ (joinL ls).contains 0 = false then Pl.textN (joinL ls) else 0
def wordV (ls : List (List UInt8)) : Value := .tuple #[.int .u64 ((numL ls : Nat) : Int), .bool (okL ls)]

theorem join_any (xs : List ByteArray) (a : Option Addr) (n cap : Nat) (w : World) (hxn : xs.length = n) (hl : Leads w a n cap (tcells xs)) (hn : n ≤ 1000) (hlen : (Lib.join (dl xs) [47]).length ≤ 900) :
    Calls Try.prog 52 #[.slice a n cap, .string ⟨#[47]⟩] w (Ret (.string ⟨(Lib.join (dl xs) [47]).toArray⟩) w) := by
  obtain ⟨h1, h2, ⟨h, hcs⟩ | ⟨b, off, rfl, h3, h4⟩⟩ := hl
  · have hx : xs = [] := List.eq_nil_of_length_eq_zero (by omega)
    subst hx
    subst h
    refine (Try.strings_Join_none a cap ⟨#[47]⟩ w).mono ?_
    rintro e w' ⟨rfl, rfl⟩
    exact ⟨rfl, Below.refl _ _⟩
  · subst hxn
    refine (Try.strings_Join b off cap xs ⟨#[47]⟩ w (fun j x hx => h4 j _ (by unfold tcells; rw [List.getElem?_map, hx]; rfl)) h3 (by omega) h1 (by show (Lib.join (dl xs) [47]).length ≤ _; omega)).mono ?_
    rintro e w' ⟨rfl, hb⟩
    exact ⟨rfl, hb⟩

theorem joinL_data (l : List UInt8) : ((⟨#[47]⟩ ++ ⟨l.toArray⟩ : ByteArray)).data.toList = 47 :: l := by simp
theorem text_ways (ls : List (List UInt8)) : (∃ E : Int, textV (joinL ls) = .tuple #[.int .u64 0, .int .i64 E] ∧ (E == 0) = false ∧ numL ls = 0 ∧ okL ls = false) ∨
    (textV (joinL ls) = .tuple #[.int .u64 ((numL ls : Nat) : Int), .int .i64 0] ∧ okL ls = (decide (ls.length ≤ 4) && ls.all partB)) := by
  unfold textV numL okL
  by_cases h : 8 < (joinL ls).length
  · left
    rw [if_pos h, if_neg (by omega), decide_eq_false (by omega)]
    exact ⟨111, rfl, by decide, rfl, by simp⟩
  · rw [if_neg h, decide_eq_true (by omega)]
    cases hc : (joinL ls).contains 0 with
    | true => left; rw [if_pos rfl, if_neg (by simp)]; exact ⟨2, rfl, by decide, rfl, by simp⟩
    | false => right; rw [if_neg (by simp), if_pos ⟨by omega, rfl⟩]; exact ⟨rfl, by simp⟩

theorem word_any (xs : List ByteArray) (a : Option Addr) (n cap : Nat) (w : World) (hxn : xs.length = n) (hl : Leads w a n cap (tcells xs)) (hn : n ≤ 1000) (hlen : (Lib.join (dl xs) [47]).length ≤ 900) :
    Calls Try.prog 40 #[.slice a n cap] w (Ret (wordV (dl xs)) w) := by
  have HJ := hid (join_any xs a n cap w hxn hl hn hlen)
  have hT := fun W : World => Text_any (⟨#[47]⟩ ++ ⟨(Lib.join (dl xs) [47]).toArray⟩) W (by rw [Lib.size_eq, joinL_data]; simp; omega)
  rw [joinL_data] at hT
  have HL := hid hl
  have hln : (dl xs).length = n := by unfold dl; rw [List.length_map]; exact hxn
  have HX := hid hxn
  have hall : (dl xs).all partB = allParts xs := by unfold dl allParts; rw [List.all_map]; rfl
  unfold wordV
  rcases text_ways (dl xs) with ⟨E, h1, h2, h3, h4⟩ | ⟨h1, h2⟩
  · rw [h3, h4]
    rw [show (47 :: Lib.join (dl xs) [47]) = joinL (dl xs) from rfl, h1] at hT
    generalize Lib.join (dl xs) [47] = q at *
    have HT := hid hT
    clear h1 h3 h4 hT hl hxn hln hall
    go_enter Try.func40, Try.ntmps40
    go_wp2_with (first | (go_at_call 52; refine HJ.out.mono ?_; rintro e w1 ⟨rfl, hb1⟩) | (go_at_call 51; refine (HT.out _).mono ?_; rintro e w2 ⟨rfl, hb2⟩))
    go_ret2
    exact ⟨rfl, step hb1 hb2⟩
  · rw [h2, hall, hln]
    rw [show (47 :: Lib.join (dl xs) [47]) = joinL (dl xs) from rfl, h1] at hT
    generalize Lib.join (dl xs) [47] = q at *
    generalize numL (dl xs) = N at *
    have HT := hid hT
    by_cases h4 : n ≤ 4
    · rw [decide_eq_true h4, Bool.true_and]
      have h4' : (n : Int) ≤ 4 := by omega
      clear h1 h2 hT hl hxn hln hall h4
      go_enter Try.func40, Try.ntmps40
      go_wp2_with (first | (go_at_call 52; refine HJ.out.mono ?_; rintro e w1 ⟨rfl, hb1⟩) | (go_at_call 51; refine (HT.out _).mono ?_; rintro e w2 ⟨rfl, hb2⟩) | (go_at_call 53; refine (all_any xs a n cap _ HX.out (HL.out.grow (step hb1 hb2))).mono ?_; rintro e w3 ⟨rfl, hb3⟩))
      go_ret2
      exact ⟨rfl, step (step hb1 hb2) hb3⟩
    · rw [decide_eq_false h4, Bool.false_and]
      have h4' : (4 : Int) < n := by omega
      clear h1 h2 hT hl hxn hln hall h4
      go_enter Try.func40, Try.ntmps40
      go_wp2_with (first | (go_at_call 52; refine HJ.out.mono ?_; rintro e w1 ⟨rfl, hb1⟩) | (go_at_call 51; refine (HT.out _).mono ?_; rintro e w2 ⟨rfl, hb2⟩))
      go_ret2
      exact ⟨rfl, step hb1 hb2⟩
end Go.Proofs.Ytbfhppafffhlkaa
