/- The document's answer for paths: what is one. -/
import Derived.Test.YtbfhppafffhlkaaPathRef1
namespace Go.Proofs.Ytbfhppafffhlkaa
open Go.RowKit
open Go.Proofs
set_option linter.unusedVariables false

theorem spl_go : ∀ (r : List UInt8) (out : List (List UInt8)) (cur : List UInt8), r.foldl spStep (out ++ [cur]) = out ++ [cur ++ Pth.fw r] ++ Pth.segs (Pth.bw r)
  | [], out, cur => by simp [Pth.fw, Pth.bw, Pth.segs, Pth.segsF]
  | c :: r, out, cur => by
    by_cases hc : c = 47
    · subst hc
      have e : spStep (out ++ [cur]) 47 = (out ++ [cur]) ++ [[]] := by unfold spStep; rw [if_pos rfl]
      rw [List.foldl_cons, e, spl_go r (out ++ [cur]) []]
      have e1 : Pth.fw (47 :: r) = [] := by simp [Pth.fw]
      have e2 : Pth.bw (47 :: r) = 47 :: r := by simp [Pth.bw]
      rw [e1, e2, Pth.segs_cons]
      simp
    · have e : spStep (out ++ [cur]) c = out ++ [cur ++ [c]] := by unfold spStep; rw [if_neg hc]; simp
      rw [List.foldl_cons, e, spl_go r out (cur ++ [c])]
      have e1 : Pth.fw (c :: r) = c :: Pth.fw r := by simp [Pth.fw, hc]
      have e2 : Pth.bw (c :: r) = Pth.bw r := by simp [Pth.bw, hc]
      rw [e1, e2]
      simp
theorem spl_segs (r : List UInt8) : spl (47 :: r) = Pth.segs (47 :: r) := by
  have e : spStep [] 47 = [] ++ [[]] := by unfold spStep; rw [if_pos rfl]
  unfold spl
  rw [List.foldl_cons, e, spl_go, Pth.segs_cons]
  simp
theorem segs_ne (r : List UInt8) : Pth.segs (47 :: r) ≠ [] := by rw [Pth.segs_cons]; simp
theorem join_segs : ∀ (n : Nat) (r : List UInt8), r.length ≤ n → joinL (Pth.segs (47 :: r)) = 47 :: r
  | 0, r, h => by
    obtain rfl : r = [] := List.eq_nil_of_length_eq_zero (by omega)
    rw [Pth.segs_cons, joinL_cons]; rfl
  | n + 1, r, h => by
    rw [Pth.segs_cons, joinL_cons]
    have h2 := Pth.fw_bw r
    cases hb : Pth.bw r with
    | nil =>
      rw [hb, List.append_nil] at h2
      rw [if_pos (by rfl), List.append_nil, h2]
    | cons c q =>
      have hc : c = 47 := by
        have : (Pth.bw r).head? = some c := by rw [hb]; rfl
        unfold Pth.bw at this
        have h3 := List.head?_dropWhile_not (· != 47) r
        rw [this] at h3
        simpa using h3
      subst hc
      have hl := Pth.bw_le r
      have hlen := congrArg List.length h2
      rw [List.length_append, hb] at hlen
      rw [if_neg (segs_ne q), join_segs n q (by simp at hlen; omega)]
      rw [hb] at h2
      rw [List.cons_append, h2]

/-- A text of a path. -/
def txB (l : List UInt8) : Bool := decide (l = [47]) || ((spl l).all partB && decide (0 < l.length) && decide (l.length ≤ 8) && decide (l.head? = some 47) && decide (1 ≤ (spl l).length) && decide ((spl l).length ≤ 4))
theorem txB_join (ls : List (List UInt8)) (h : ls.all partB = true) : txB (joinL ls) = okL ls := by
  by_cases e : ls = []
  · subst e; kernel_rfl
  · have hs := segs_join ls h e
    have hj : ∃ r, joinL ls = 47 :: r := ⟨_, rfl⟩
    obtain ⟨r, hr⟩ := hj
    have hne : joinL ls ≠ [47] := by
      intro e2
      rw [e2] at hs
      have : Pth.segs [47] = [[]] := by kernel_rfl
      rw [this] at hs
      rw [← hs] at h
      simp [partB] at h
    rw [hr] at hs hne
    have hl := joinL_len ls e
    rw [hr] at hl
    rw [Bool.eq_iff_iff, okL_iff]
    unfold txB
    rw [hr, spl_segs, hs]
    have h1 : 1 ≤ ls.length := by cases ls with | nil => exact absurd rfl e | cons a b => simp
    simp [hne, h, h1]
    simp at hl
    omega
theorem right_is (x : Nat) : (decide (Pl.textN (backL x) = x) && txB (backL x)) = (rd x).isSome := by
  have hl8 : (backL x).length ≤ 8 := backGo_len 8 x
  have hz : (backL x).contains 0 = false := backGo_zero 8 x
  rw [Bool.eq_iff_iff, Bool.and_eq_true, decide_eq_true_iff]
  constructor
  · rintro ⟨h1, h2⟩
    have hex : ∃ r, backL x = 47 :: r := by
      unfold txB at h2
      rw [Bool.or_eq_true, decide_eq_true_iff] at h2
      rcases h2 with h2 | h2
      · exact ⟨[], h2⟩
      · simp only [Bool.and_eq_true, decide_eq_true_eq] at h2
        cases hb : backL x with
        | nil => rw [hb] at h2; simp at h2
        | cons c r => rw [hb] at h2; simp at h2; exact ⟨r, by rw [h2.1.1.2]⟩
    obtain ⟨r, hr⟩ := hex
    by_cases h47 : backL x = [47]
    · have hx : x = 47 := by rw [← h1, h47]; rfl
      subst hx
      exact (show (rd 47).isSome = true by kernel_rfl)
    · unfold txB at h2
      rw [Bool.or_eq_true, decide_eq_true_iff] at h2
      rcases h2 with h2 | h2
      · exact absurd h2 h47
      · simp only [Bool.and_eq_true, decide_eq_true_eq] at h2
        rw [hr, spl_segs, ← hr] at h2
        have hok : okL (Pth.segs (backL x)) = true := (okL_iff _).2 ⟨h2.1.1.1.1.1, Nat.le_trans (Pth.segs_tot _) hl8, h2.2⟩
        have hj : joinL (Pth.segs (backL x)) = backL x := by rw [hr]; exact join_segs _ r (Nat.le_refl _)
        have hn : numL (Pth.segs (backL x)) = x := by unfold numL; rw [hj, if_pos ⟨hl8, hz⟩, h1]
        have hp : psOf (backL x) = Pth.segs (backL x) := by unfold psOf; rw [if_neg h47]
        unfold rd
        rw [hp, if_pos ⟨h1, by rw [hr]; simp, hok, hn⟩]; rfl
  · intro h
    cases hr : rd x with
    | none => rw [hr] at h; cases h
    | some ps =>
      obtain ⟨h1, h2, h3, hok, hn, -, h4⟩ := rd_some hr
      refine ⟨h1, ?_⟩
      obtain ⟨k1, k2, k3⟩ := (okL_iff ps).1 hok
      have hjl : (joinL ps).length ≤ 8 := by
        by_cases e : ps = []
        · rw [e]; decide
        · rw [joinL_len ps e]; exact k2
      have hjz := joinL_zero ps k1
      have hnum : numL ps = Pl.textN (joinL ps) := by unfold numL; rw [if_pos ⟨hjl, hjz⟩]
      have hb : backL x = joinL ps := by rw [← hn, hnum]; exact backL_text _ hjl hjz
      rw [hb, txB_join ps k1]; exact hok

set_option maxHeartbeats 1000000 in
theorem rText21_any (s : ByteArray) (w : World) (hs : s.size ≤ 1000) : Calls Try.prog 30 #[.string s] w (Ret (.bool (txB s.data.toList)) w) := by
  by_cases h47 : s.data.toList = [47]
  · have he : txB s.data.toList = true := by rw [h47]; rfl
    rw [he]
    obtain rfl : s = ⟨#[47]⟩ := by cases s; congr 1; exact Array.toList_inj.1 h47
    go_enter Try.func30, Try.ntmps30
    go_wp2
    go_ret
    exact ⟨rfl, Below.refl _ _⟩
  · obtain ⟨l, el⟩ : ∃ l, s.data.toList = l := ⟨_, rfl⟩
    have hsz : s.size = l.length := by rw [← el]; exact Lib.size_eq s
    have hat := str_at s
    have hSp := Split_any s w hs
    have hq : ¬ s.toList = [47] := by rw [Lib.toList_data]; exact h47
    have hq' : (s.toList == [47]) = false := by rw [Lib.toList_data]; simpa using h47
    rw [el] at hat hSp h47 ⊢
    have heq : txB l = ((spl l).all partB && decide (0 < l.length) && decide (l.length ≤ 8) && decide (l.head? = some 47) && decide (1 ≤ (spl l).length) && decide ((spl l).length ≤ 4)) := by unfold txB; rw [decide_eq_false h47, Bool.false_or]
    have HEQ := hid heq
    have HSP := hid hSp
    have HA := hid hat
    have HS := hid hsz
    have EL := hid el
    clear heq hSp hat hsz h47 el
    go_enter Try.func30, Try.ntmps30
    go_wp2_with fail
    refine HSP.out.mono ?_
    rintro e w1 ⟨v, xs, rfl, hd, ho, hb1⟩
    obtain ⟨m, hm⟩ : ∃ m, xs.length = m := ⟨_, rfl⟩
    rw [hm] at ho
    have hlm : (spl l).length = m := by rw [← hd, dl_len]; exact hm
    obtain ⟨a, c, rfl, hld⟩ := Leads.of_own ho
    have hm1 : m ≤ 1000 := by
      have h2 := spl_len l l.length
      rw [List.take_length, hlm] at h2
      have := HS.out; omega
    have hpx : ∀ p ∈ xs, p.size ≤ 1000 := by
      intro p hp
      have h1 : p.data.toList ∈ spl l := by rw [← hd]; unfold dl; exact List.mem_map.2 ⟨p, hp, rfl⟩
      have h2 := spl_each _ _ h1
      have := HS.out
      rw [Lib.size_eq]; omega
    have hln := hld.len.1
    have HLD := hid hld
    have HM := hid hm
    have HLM := hid hlm
    have HD := hid hd
    have HPX := hid hpx
    clear ho hld hm hlm hd hpx
    go_wp2
    go_loopg [5, 12] m (fun g _ i wr => ∃ k : Nat, g + k = m ∧ i = .int .i64 (k : Nat) ∧ Hid (((spl l).take k).all partB = true) ∧ Below w1.heap.size w1 wr)
    case atStart => exact ⟨0, rfl, rfl, rfl, Below.refl _ _⟩
    case round =>
      obtain ⟨k, hk, rfl, hall, hb⟩ := hrel
      have HK := hid hk
      clear hk
      by_cases hlt : k < m
      · obtain ⟨p, hp⟩ : ∃ p, xs[k]? = some p := ⟨_, List.getElem?_eq_getElem (by rw [HM.out]; exact hlt)⟩
        obtain ⟨b, off, rfl, hc⟩ := HLD.out.at hlt (by unfold tcells; rw [List.getElem?_map, hp]; rfl)
        have hc1 := hc wr hb
        have hpl : (spl l)[k]? = some p.data.toList := by rw [← HD.out]; unfold dl; rw [List.getElem?_map, hp]; rfl
        have hP := fun W => rPart_any p W (HPX.out p (List.mem_of_getElem? hp))
        cases hpp : partB p.data.toList with
        | false =>
          have HR : Hid (txB l = false) := hid (by
            rw [HEQ.out]
            have : (spl l).all partB = false := by
              rw [List.all_eq_false]
              exact ⟨_, List.mem_of_getElem? hpl, by rw [hpp]; simp⟩
            rw [this]; rfl)
          rw [hpp] at hP
          have HP := hid hP
          clear hP hpp hc hp hpl hall
          go_wp2_with (go_at_call 44; refine (HP.out _).mono ?_; rintro e w2 ⟨rfl, hb2⟩)
          go_ret
          exact ⟨retb HR.out.symm, step hb1 (step hb hb2)⟩
        | true =>
          have HN : Hid (((spl l).take (k + 1)).all partB = true) := hid (by
            obtain ⟨h1, h2⟩ := List.getElem?_eq_some_iff.1 hpl
            rw [List.take_succ_eq_append_getElem h1, List.all_append, hall.out, h2]; simp [hpp])
          rw [hpp] at hP
          have HP := hid hP
          clear hP hpp hc hp hpl hall
          go_wp2_with (go_at_call 44; refine (HP.out _).mono ?_; rintro e w2 ⟨rfl, hb2⟩)
          go_roundg (gk - 1)
          case measure => have := HK.out; omega
          case rel => exact ⟨k + 1, by have := HK.out; omega, by go_num, HN, step hb hb2⟩
      · have hkm : k = m := by have := HK.out; omega
        have hall2 : (spl l).all partB = true := by have := hall.out; rwa [List.take_of_length_le (by rw [HLM.out]; omega)] at this
        have hE := HEQ.out
        rw [hall2, Bool.true_and, HLM.out] at hE
        obtain ⟨n, hn⟩ : ∃ n, s.size = n := ⟨_, rfl⟩
        have hn2 : n = l.length := by rw [← hn]; exact HS.out
        rw [← hn2] at hE
        cases hl : l with
        | nil =>
          have hn0 : n = 0 := by rw [hn2, hl]; rfl
          have HR : Hid (txB l = false) := hid (by rw [hE, hn0]; simp)
          subst hn0
          clear hE hall hall2 hn2 hl
          go_wp2
          go_ret
          exact ⟨retb HR.out.symm, step hb1 hb⟩
        | cons u r =>
          have hn0 : 0 < n := by rw [hn2, hl]; simp
          have ha := HA.out 0 (by rw [hn]; exact hn0)
          rw [bt_at l 0 u (by rw [hl]; rfl)] at ha
          have hh : decide (l.head? = some 47) = decide (u.toNat = 47) := by
            rw [hl]
            simp only [List.head?_cons, Option.some.injEq]
            rw [Bool.eq_iff_iff, decide_eq_true_iff, decide_eq_true_iff]
            constructor
            · rintro rfl; rfl
            · intro h; exact UInt8.toNat_inj.1 (by rw [h]; rfl)
          rw [hh, decide_eq_true hn0, Bool.true_and] at hE
          obtain ⟨q, hq2⟩ : ∃ q, u.toNat = q := ⟨_, rfl⟩
          rw [hq2] at ha hE
          have HE := hid hE
          have hn0' : (0 : Int) < n := by omega
          clear hE hall hall2 hn2 hl hh hq2
          go_wp2
          all_goals go_ret
          all_goals refine ⟨retb ?_, step hb1 hb⟩
          all_goals (rw [HE.out, Bool.eq_iff_iff]; simp; omega)
end Go.Proofs.Ytbfhppafffhlkaa
