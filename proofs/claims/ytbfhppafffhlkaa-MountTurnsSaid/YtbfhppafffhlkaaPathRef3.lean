/- The document's answer for paths: Right, Parts, Join. -/
import Derived.Test.YtbfhppafffhlkaaPathRef2
namespace Go.Proofs.Ytbfhppafffhlkaa
open Go.RowKit
open Go.Proofs
set_option linter.unusedVariables false

theorem rRight_any (x : Nat) (w : World) (hx : x < 18446744073709551616) : Calls Try.prog 10 #[.int .u64 (x : Nat)] w (Ret (.bool (rd x).isSome) w) := by
  rw [← right_is]
  have hB := fun W => rBack_any x W hx
  unfold rBackV at hB
  by_cases h : Pl.textN (backL x) = x
  · rw [if_pos h] at hB
    rw [decide_eq_true h, Bool.true_and]
    have hT := fun W => rText21_any ⟨(backL x).toArray⟩ W (by rw [Lib.size_eq]; have := backGo_len 8 x; unfold backL; simp; omega)
    rw [show (⟨(backL x).toArray⟩ : ByteArray).data.toList = backL x from rfl] at hT
    generalize txB (backL x) = q at *
    generalize backL x = b at *
    have HB := hid hB
    have HT := hid hT
    clear hB hT h
    go_enter Try.func10, Try.ntmps10
    go_wp2_with (first | (go_at_call 29; refine (HB.out _).mono ?_; rintro e w1 ⟨rfl, hb1⟩) | (go_at_call 30; refine (HT.out _).mono ?_; rintro e w2 ⟨rfl, hb2⟩))
    go_ret
    exact ⟨rfl, step hb1 hb2⟩
  · rw [if_neg h] at hB
    rw [decide_eq_false h, Bool.false_and]
    have HB := hid hB
    clear hB h
    go_enter Try.func10, Try.ntmps10
    go_wp2_with (go_at_call 29; refine (HB.out _).mono ?_; rintro e w1 ⟨rfl, hb1⟩)
    go_ret
    exact ⟨rfl, hb1⟩

theorem ps_spl (x : Nat) (ps : List (List UInt8)) (h : rd x = some ps) (h47 : backL x ≠ [47]) : spl (backL x) = ps := by
  obtain ⟨h1, h2, h3, hok, hn, -, h4⟩ := rd_some h
  obtain ⟨k1, k2, k3⟩ := (okL_iff ps).1 hok
  have hjl : (joinL ps).length ≤ 8 := by
    by_cases e : ps = []
    · rw [e]; decide
    · rw [joinL_len ps e]; exact k2
  have hjz := joinL_zero ps k1
  have hnum : numL ps = Pl.textN (joinL ps) := by unfold numL; rw [if_pos ⟨hjl, hjz⟩]
  have hb : backL x = joinL ps := by rw [← hn, hnum]; exact backL_text _ hjl hjz
  have e : joinL ps = 47 :: Lib.join ps [47] := rfl
  rw [hb, e, spl_segs, ← e, ← hb, h3]
  unfold psOf
  rw [if_neg h47]

theorem rParts_any (x : Nat) (ps : List (List UInt8)) (w : World) (hx : x < 18446744073709551616) (h : rd x = some ps) : Calls Try.prog 55 #[.int .u64 (x : Nat)] w (fun e w' => ∃ v xs, Texts ps (fun v => v) w e w' v xs) := by
  obtain ⟨h1, h2, h3, hok, hn, -, h4⟩ := rd_some h
  have hB := fun W => rBack_any x W hx
  unfold rBackV at hB
  rw [if_pos h1] at hB
  obtain ⟨S, hS⟩ : ∃ S : ByteArray, S = ⟨(backL x).toArray⟩ := ⟨_, rfl⟩
  have hSd : S.data.toList = backL x := by rw [hS]
  rw [← hS] at hB
  have HB := hid hB
  by_cases h47 : backL x = [47]
  · have hps : ps = [] := by rw [h3]; unfold psOf; rw [if_pos h47]
    have q : S.toList = [47] := by rw [Lib.toList_data, hSd, h47]
    have q' : (S.toList == [47]) = true := by rw [q]; rfl
    subst hps
    clear hB h1 h2 h3 hok hn h4 h47 hS hSd h q
    go_enter Try.func55, Try.ntmps55
    go_wp2_with (go_at_call 29; refine (HB.out _).mono ?_; rintro e w1 ⟨rfl, hb1⟩)
    go_ret
    exact ⟨_, [], rfl, rfl, World.ownsRow_nil _ _ _ _, hb1⟩
  · have hsp := ps_spl x ps h h47
    have hSp := fun W => Split_any S W (by rw [Lib.size_eq, hSd]; have := backGo_len 8 x; unfold backL; omega)
    rw [hSd, hsp] at hSp
    have HSP := hid hSp
    have q : ¬ S.toList = [47] := by rw [Lib.toList_data, hSd]; exact h47
    have q' : (S.toList == [47]) = false := by rw [Lib.toList_data, hSd]; simpa using h47
    clear hB h1 h2 h3 hok hn h4 h47 hS hSd h hsp hSp
    go_enter Try.func55, Try.ntmps55
    go_wp2_with fail
    refine (HB.out _).mono ?_
    rintro e w1 ⟨rfl, hb1⟩
    go_wp2_with fail
    refine (HSP.out _).mono ?_
    rintro e w2 ⟨v, xs, rfl, hd, ho, hb2⟩
    have HD := hid hd
    have HO := hid ho
    clear hd ho
    go_wp2
    go_ret
    exact ⟨v, xs, rfl, HD.out, own_base HO.out hb1.size, step hb1 hb2⟩

/-- Join. -/
def rJoinV (ls : List (List UInt8)) : Value := if okL ls then .tuple #[.int .u64 ((numL ls : Nat) : Int), .bool true] else .tuple #[.int .u64 0, .bool false]
def catL (ls : List (List UInt8)) : List UInt8 := ls.flatMap fun l => 47 :: l
theorem catL_join : ∀ (ls : List (List UInt8)), ls ≠ [] → catL ls = joinL ls
  | [], h => absurd rfl h
  | [l], _ => by rw [joinL_cons, if_pos rfl]; simp [catL]
  | l :: m :: r, _ => by
    rw [joinL_cons, if_neg (by simp), ← catL_join (m :: r) (by simp)]
    simp [catL]
theorem catL_snoc (ls : List (List UInt8)) (k : Nat) (l : List UInt8) (h : ls[k]? = some l) : catL (ls.take (k + 1)) = catL (ls.take k) ++ 47 :: l := by
  obtain ⟨hk, rfl⟩ := List.getElem?_eq_some_iff.1 h
  unfold catL
  rw [List.take_succ_eq_append_getElem hk, List.flatMap_append]; simp
theorem catL_len (ls : List (List UInt8)) : (catL ls).length = Pth.tot ls := by
  induction ls with
  | nil => rfl
  | cons l r ih =>
    have e : catL (l :: r) = 47 :: l ++ catL r := by simp [catL]
    rw [e, List.length_append, ih]; simp [Pth.tot]
theorem tot_each (ls : List (List UInt8)) (l : List UInt8) (h : l ∈ ls) : l.length ≤ Pth.tot ls := by
  induction ls with
  | nil => cases h
  | cons m r ih =>
    simp only [Pth.tot]
    rcases List.mem_cons.1 h with rfl | h
    · omega
    · have := ih h; omega

end Go.Proofs.Ytbfhppafffhlkaa
