/- The document's answer for paths: Right, Parts, Join. -/
import Derived.Test.YtdjckgcjdbdeiaaPathRef2
namespace Go.Proofs.Ytdjckgcjdbdeiaa
open Go.RowKit
open Go.Proofs
set_option linter.unusedVariables false

theorem rRight_any (x : Nat) (w : World) (hx : x < 18446744073709551616) : Calls Try.prog 11 #[.int .u64 (x : Nat)] w (Ret (.bool (rd x).isSome) w) := by
  rw [← right_is]
  have hB := fun W => rBack_any x W hx
  unfold rBackV at hB
  by_cases h : Pl.textN (backL x) = x
  · rw [if_pos h] at hB
    rw [decide_eq_true h, Bool.true_and]
    have hT := fun W => rText21_any ⟨(backL x).toArray⟩ W (by rw [Lib.size_eq]; have := backGo_len 8 x; unfold backL; simp; omega)
    rw [show (⟨(backL x).toArray⟩ : ByteArray).data.toList = backL x from rfl] at hT
    generalize txB (backL x) = q at *
    generalize backL x = b at *
    have HB := hid hB
    have HT := hid hT
    clear hB hT h
    go_enter Try.func11, Try.ntmps11
    go_wp2_with (first | (go_at_call 32; refine (HB.out _).mono ?_; rintro e w1 ⟨rfl, hb1⟩) | (go_at_call 9; refine (HT.out _).mono ?_; rintro e w2 ⟨rfl, hb2⟩))
    go_ret
    exact ⟨rfl, step hb1 hb2⟩
  · rw [if_neg h] at hB
    rw [decide_eq_false h, Bool.false_and]
    have HB := hid hB
    clear hB h
    go_enter Try.func11, Try.ntmps11
    go_wp2_with (go_at_call 32; refine (HB.out _).mono ?_; rintro e w1 ⟨rfl, hb1⟩)
    go_ret
    exact ⟨rfl, hb1⟩

theorem ps_spl (x : Nat) (ps : List (List UInt8)) (h : rd x = some ps) (h47 : backL x ≠ [47]) : spl (backL x) = ps := by
  obtain ⟨h1, h2, h3, hok, hn, -, h4⟩ := rd_some h
  obtain ⟨k1, k2, k3⟩ := (okL_iff ps).1 hok
  have hjl : (joinL ps).length ≤ 8 := by
    by_cases e : ps = []
    · rw [e]; decide
    · rw [joinL_len ps e]; exact k2
  have hjz := joinL_zero ps k1
  have hnum : numL ps = Pl.textN (joinL ps) := by unfold numL; rw [if_pos ⟨hjl, hjz⟩]
  have hb : backL x = joinL ps := by rw [← hn, hnum]; exact backL_text _ hjl hjz
  have e : joinL ps = 47 :: Lib.join ps [47] := rfl
  rw [hb, e, spl_segs, ← e, ← hb, h3]
  unfold psOf
  rw [if_neg h47]

theorem rParts_any (x : Nat) (ps : List (List UInt8)) (w : World) (hx : x < 18446744073709551616) (h : rd x = some ps) : Calls Try.prog 13 #[.int .u64 (x : Nat)] w (fun e w' => ∃ v xs, Texts ps (fun v => v) w e w' v xs) := by
  obtain ⟨h1, h2, h3, hok, hn, -, h4⟩ := rd_some h
  have hB := fun W => rBack_any x W hx
  unfold rBackV at hB
  rw [if_pos h1] at hB
  obtain ⟨S, hS⟩ : ∃ S : ByteArray, S = ⟨(backL x).toArray⟩ := ⟨_, rfl⟩
  have hSd : S.data.toList = backL x := by rw [hS]
  rw [← hS] at hB
  have HB := hid hB
  by_cases h47 : backL x = [47]
  · have hps : ps = [] := by rw [h3]; unfold psOf; rw [if_pos h47]
    have q : S.toList = [47] := by rw [Lib.toList_data, hSd, h47]
    have q' : (S.toList == [47]) = true := by rw [q]; rfl
    subst hps
    clear hB h1 h2 h3 hok hn h4 h47 hS hSd h q
    go_enter Try.func13, Try.ntmps13
    go_wp2_with (go_at_call 32; refine (HB.out _).mono ?_; rintro e w1 ⟨rfl, hb1⟩)
    go_ret
    exact ⟨_, [], rfl, rfl, World.ownsRow_nil _ _ _ _, hb1⟩
  · have hsp := ps_spl x ps h h47
    have hSp := fun W => Split_any S W (by rw [Lib.size_eq, hSd]; have := backGo_len 8 x; unfold backL; omega)
    rw [hSd, hsp] at hSp
    have HSP := hid hSp
    have q : ¬ S.toList = [47] := by rw [Lib.toList_data, hSd]; exact h47
    have q' : (S.toList == [47]) = false := by rw [Lib.toList_data, hSd]; simpa using h47
    clear hB h1 h2 h3 hok hn h4 h47 hS hSd h hsp hSp
    go_enter Try.func13, Try.ntmps13
    go_wp2_with fail
    refine (HB.out _).mono ?_
    rintro e w1 ⟨rfl, hb1⟩
    go_wp2_with fail
    refine (HSP.out _).mono ?_
    rintro e w2 ⟨v, xs, rfl, hd, ho, hb2⟩
    have HD := hid hd
    have HO := hid ho
    clear hd ho
    go_wp2
    go_ret
    exact ⟨v, xs, rfl, HD.out, own_base HO.out hb1.size, step hb1 hb2⟩

/-- Join. -/
def rJoinV (ls : List (List UInt8)) : Value := if okL ls then .tuple #[.int .u64 ((numL ls : Nat) : Int), .bool true] else .tuple #[.int .u64 0, .bool false]
def catL (ls : List (List UInt8)) : List UInt8 := ls.flatMap fun l => 47 :: l
theorem catL_join : ∀ (ls : List (List UInt8)), ls ≠ [] → catL ls = joinL ls
  | [], h => absurd rfl h
  | [l], _ => by rw [joinL_cons, if_pos rfl]; simp [catL]
  | l :: m :: r, _ => by
    rw [joinL_cons, if_neg (by simp), ← catL_join (m :: r) (by simp)]
    simp [catL]
theorem catL_snoc (ls : List (List UInt8)) (k : Nat) (l : List UInt8) (h : ls[k]? = some l) : catL (ls.take (k + 1)) = catL (ls.take k) ++ 47 :: l := by
  obtain ⟨hk, rfl⟩ := List.getElem?_eq_some_iff.1 h
  unfold catL
  rw [List.take_succ_eq_append_getElem hk, List.flatMap_append]; simp
theorem catL_len (ls : List (List UInt8)) : (catL ls).length = Pth.tot ls := by
  induction ls with
  | nil => rfl
  | cons l r ih =>
    have e : catL (l :: r) = 47 :: l ++ catL r := by simp [catL]
    rw [e, List.length_append, ih]; simp [Pth.tot]
theorem tot_each (ls : List (List UInt8)) (l : List UInt8) (h : l ∈ ls) : l.length ≤ Pth.tot ls := by
  induction ls with
  | nil => cases h
  | cons m r ih =>
    simp only [Pth.tot]
    rcases List.mem_cons.1 h with rfl | h
    · omega
    · have := ih h; omega

set_option maxHeartbeats 1000000 in
theorem rJoin_any (xs : List ByteArray) (a : Option Addr) (n cap : Nat) (w : World) (hxn : xs.length = n) (hl : Leads w a n cap (tcells xs)) (htot : Pth.tot (dl xs) ≤ 900) :
    Calls Try.prog 17 #[.slice a n cap] w (Ret (rJoinV (dl xs)) w) := by
  have hln := hl.len.1
  have hdn : (dl xs).length = n := by rw [dl_len]; exact hxn
  have HL := hid hl
  have HX := hid hxn
  have HDN := hid hdn
  have HTOT := hid htot
  have hn9 : n ≤ 900 := by have := Pth.len_tot (dl xs); omega
  clear hl hxn hdn htot
  go_enter Try.func17, Try.ntmps17
  go_wp2
  go_loopg [4, 6, 9] n (fun g t _ i wr => ∃ (k : Nat) (T : ByteArray), g + k = n ∧ i = .int .i64 (k : Nat) ∧ t = .string T ∧ Hid (T.data.toList = catL ((dl xs).take k)) ∧ Hid (((dl xs).take k).all partB = true) ∧ Below w.heap.size w wr)
  case atStart => exact ⟨0, ⟨#[]⟩, rfl, rfl, rfl, rfl, rfl, Below.refl _ _⟩
  case round =>
    obtain ⟨k, T, hk, rfl, rfl, hT, hall, hb⟩ := hrel
    have HK := hid hk
    clear hk
    have hTs : T.size ≤ 900 := by
      rw [Lib.size_eq, hT.out, catL_len]
      exact Nat.le_trans (tot_take (dl xs) k) HTOT.out
    by_cases hlt : k < n
    · obtain ⟨p, hp⟩ : ∃ p, xs[k]? = some p := ⟨_, List.getElem?_eq_getElem (by rw [HX.out]; exact hlt)⟩
      obtain ⟨b, off, rfl, hc⟩ := HL.out.at hlt (by unfold tcells; rw [List.getElem?_map, hp]; rfl)
      have hc1 := hc wr hb
      have hpl : (dl xs)[k]? = some p.data.toList := by unfold dl; rw [List.getElem?_map, hp]; rfl
      have hps : p.size ≤ 900 := by
        rw [Lib.size_eq]
        exact Nat.le_trans (tot_each _ _ (List.mem_of_getElem? hpl)) HTOT.out
      have hP := fun W => rPart_any p W (by omega)
      cases hpp : partB p.data.toList with
      | false =>
        have HR : Hid (rJoinV (dl xs) = .tuple #[.int .u64 0, .bool false]) := hid (by
          unfold rJoinV
          rw [if_neg]
          intro h
          have := ((okL_iff _).1 h).1
          rw [List.all_eq_true] at this
          have := this _ (List.mem_of_getElem? hpl)
          rw [hpp] at this; cases this)
        rw [hpp] at hP
        have HP := hid hP
        clear hP hpp hc hp hpl hall hT
        go_wp2_with (go_at_call 31; refine (HP.out _).mono ?_; rintro e w2 ⟨rfl, hb2⟩)
        go_ret2
        exact ⟨by rw [HR.out]; rfl, step hb hb2⟩
      | true =>
        have HN : Hid (((dl xs).take (k + 1)).all partB = true) := hid (by
          obtain ⟨h1, h2⟩ := List.getElem?_eq_some_iff.1 hpl
          rw [List.take_succ_eq_append_getElem h1, List.all_append, hall.out, h2]; simp [hpp])
        have HT : Hid ((T ++ (⟨#[47]⟩ ++ p)).data.toList = catL ((dl xs).take (k + 1))) := hid (by
          rw [catL_snoc _ k _ hpl, ba_append, ba_append, hT.out]; rfl)
        rw [hpp] at hP
        have HP := hid hP
        clear hP hpp hc hp hpl hall hT
        go_wp2_with (go_at_call 31; refine (HP.out _).mono ?_; rintro e w2 ⟨rfl, hb2⟩)
        go_roundg (gk - 1)
        case measure => have := HK.out; omega
        case rel => exact ⟨k + 1, _, by have := HK.out; omega, by go_num, rfl, HT, HN, step hb hb2⟩
    · have hkn : k = n := by have := HK.out; omega
      have hall2 : (dl xs).all partB = true := by have := hall.out; rwa [List.take_of_length_le (by rw [HDN.out]; omega)] at this
      have hT2 : T.data.toList = catL (dl xs) := by have := hT.out; rwa [List.take_of_length_le (by rw [HDN.out]; omega)] at this
      by_cases he : dl xs = []
      · have hTe : T = ⟨#[]⟩ := by rw [he] at hT2; cases T; congr 1; exact Array.toList_inj.1 hT2
        have HR : Hid (rJoinV (dl xs) = .tuple #[.int .u64 47, .bool true]) := hid (by rw [he]; kernel_rfl)
        have hX := fun W => rText21_any ⟨#[47]⟩ W (by decide)
        rw [show txB (⟨#[47]⟩ : ByteArray).data.toList = true by kernel_rfl] at hX
        have hN := fun W => rText_any ⟨#[47]⟩ W (by decide)
        rw [show Pl.textN (⟨#[47]⟩ : ByteArray).data.toList = 47 by kernel_rfl] at hN
        have HXX := hid hX
        have HNN := hid hN
        subst hTe
        clear hX hN hall hall2 hT hT2 he
        go_wp2_with (first | (go_at_call 9; refine (HXX.out _).mono ?_; rintro e w2 ⟨rfl, hb2⟩) | (go_at_call 10; refine (HNN.out _).mono ?_; rintro e w3 ⟨rfl, hb3⟩))
        go_ret2
        exact ⟨by rw [HR.out]; rfl, step (step hb hb2) hb3⟩
      · rw [catL_join _ he] at hT2
        have q : ¬ T.toList = [] := by rw [Lib.toList_data, hT2]; unfold joinL; simp
        have q' : T.toList.isEmpty = false := by rw [Lib.toList_data, hT2]; rfl
        have hX := fun W => rText21_any T W (by omega)
        rw [hT2, txB_join _ hall2] at hX
        cases hok : okL (dl xs) with
        | true =>
          rw [hok] at hX
          obtain ⟨k1, k2, k3⟩ := (okL_iff _).1 hok
          have hjl : (joinL (dl xs)).length ≤ 8 := by rw [joinL_len _ he]; exact k2
          have hN := fun W => rText_any T W (by rw [Lib.size_eq, hT2]; exact hjl)
          have hnum : numL (dl xs) = Pl.textN (joinL (dl xs)) := by unfold numL; rw [if_pos ⟨hjl, joinL_zero _ k1⟩]
          rw [hT2, ← hnum] at hN
          have HR : Hid (rJoinV (dl xs) = .tuple #[.int .u64 ((numL (dl xs) : Nat) : Int), .bool true]) := hid (by unfold rJoinV; rw [if_pos hok])
          have HXX := hid hX
          have HNN := hid hN
          clear hX hN hall hall2 hT hT2 he hok k1 k2 k3 hjl hnum
          go_wp2_with (first | (go_at_call 9; refine (HXX.out _).mono ?_; rintro e w2 ⟨rfl, hb2⟩) | (go_at_call 10; refine (HNN.out _).mono ?_; rintro e w3 ⟨rfl, hb3⟩))
          go_ret2
          exact ⟨by rw [HR.out]; rfl, step (step hb hb2) hb3⟩
        | false =>
          rw [hok] at hX
          have HR : Hid (rJoinV (dl xs) = .tuple #[.int .u64 0, .bool false]) := hid (by unfold rJoinV; rw [if_neg (by rw [hok]; simp)])
          have HXX := hid hX
          clear hX hall hall2 hT hT2 he hok
          go_wp2_with (go_at_call 9; refine (HXX.out _).mono ?_; rintro e w2 ⟨rfl, hb2⟩)
          go_ret2
          exact ⟨by rw [HR.out]; rfl, step hb hb2⟩
end Go.Proofs.Ytdjckgcjdbdeiaa
