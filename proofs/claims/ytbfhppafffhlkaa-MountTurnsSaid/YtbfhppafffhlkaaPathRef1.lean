/- The document's answer for paths: parts, and what stands behind each /. -/
import Derived.Test.YtbfhppafffhlkaaPathPlain2
import Derived.Test.YtbfhppafffhlkaaRefT
import Derived.Test.YtbfhppafffhlkaaRegion
import Derived.Laws.OwnMore
namespace Go.Proofs.Ytbfhppafffhlkaa
open Go.RowKit
open Go.Proofs
set_option linter.unusedVariables false

theorem bt_at (l : List UInt8) (k : Nat) (c : UInt8) (h : l[k]? = some c) : Pl.bt l k = c.toNat := by unfold Pl.bt; rw [List.getD_eq_getElem?_getD, h]; rfl
theorem allL_snoc (l : List UInt8) (k : Nat) (c : UInt8) (h : l[k]? = some c) : allL (l.take (k + 1)) = (allL (l.take k) && letterB c.toNat) := by
  obtain ⟨hk, rfl⟩ := List.getElem?_eq_some_iff.1 h
  unfold allL
  rw [List.take_succ_eq_append_getElem hk, List.all_append]; simp

set_option maxHeartbeats 1000000 in
theorem rPart_any (s : ByteArray) (w : World) (hs : s.size ≤ 1000) : Calls Try.prog 44 #[.string s] w (Ret (.bool (partB s.data.toList)) w) := by
  obtain ⟨l, el⟩ : ∃ l, s.data.toList = l := ⟨_, rfl⟩
  have hsz : s.size = l.length := by rw [← el]; exact Lib.size_eq s
  have hat := str_at s
  rw [el] at hat ⊢
  obtain ⟨n, hn⟩ : ∃ n, s.size = n := ⟨_, rfl⟩
  have HA := hid hat
  have HS := hid hsz
  have hn2 : n ≤ 1000 := by omega
  clear hat hsz el hs
  go_enter Try.func44, Try.ntmps44
  go_wp2
  go_loopg [3, 6] n (fun g _ i wr => ∃ k : Nat, g + k = n ∧ i = .int .i64 (k : Nat) ∧ Hid (allL (l.take k) = true) ∧ w = wr)
  case atStart => exact ⟨0, rfl, rfl, rfl, rfl⟩
  case round =>
    obtain ⟨k, hk, rfl, hall, rfl⟩ := hrel
    have HK := hid hk
    clear hk
    by_cases hlt : k < n
    · have hks : k < s.size := by omega
      have ha := HA.out k hks
      obtain ⟨u, hu⟩ : ∃ u, l[k]? = some u := ⟨_, List.getElem?_eq_getElem (by rw [← HS.out]; exact hks)⟩
      have hsn := allL_snoc l k u hu
      rw [hall.out, Bool.true_and] at hsn
      rw [bt_at l k u hu] at ha
      obtain ⟨c, hc⟩ : ∃ c, u.toNat = c := ⟨_, rfl⟩
      have hc2 : c < 256 := by rw [← hc]; exact u.toNat_lt
      rw [hc] at ha hsn
      have HSN := hid hsn
      clear hsn hu hc hall
      have yes : letterB c = true → Hid (allL (l.take (k + 1)) = true) := fun h => hid (HSN.out.trans h)
      have no : letterB c = false → Hid (partB l = false) := fun h => hid (allL_no l (k + 1) (HSN.out.trans h))
      rcases (by omega : c < 48 ∨ (48 ≤ c ∧ c ≤ 57) ∨ (57 < c ∧ c < 97) ∨ (97 ≤ c ∧ c ≤ 122) ∨ 122 < c) with h | h | h | h | h
      · have HP := no (by unfold letterB; exact decide_eq_false (by omega))
        have q1 : (c : Int) < 97 := by omega
        have q1d : decide ((97 : Int) ≤ (c : Int)) = false := decide_eq_false (by omega)
        have q3 : (c : Int) < 48 := by omega
        have q3d : decide ((48 : Int) ≤ (c : Int)) = false := decide_eq_false (by omega)
        clear yes no
        go_wp2
        go_ret
        exact ⟨retb HP.out.symm, Below.refl _ _⟩
      · have HP := yes (by unfold letterB; exact decide_eq_true (by omega))
        have q1 : (c : Int) < 97 := by omega
        have q1d : decide ((97 : Int) ≤ (c : Int)) = false := decide_eq_false (by omega)
        have q3 : (48 : Int) ≤ (c : Int) := by omega
        have q3d : decide ((48 : Int) ≤ (c : Int)) = true := decide_eq_true q3
        have q4 : (c : Int) ≤ 57 := by omega
        have q4d : decide ((c : Int) ≤ 57) = true := decide_eq_true q4
        clear yes no
        go_wp2
        go_roundg (gk - 1)
        case measure => have := HK.out; omega
        case rel => exact ⟨k + 1, by have := HK.out; omega, by go_num, HP, rfl⟩
      · have HP := no (by unfold letterB; exact decide_eq_false (by omega))
        have q1 : (c : Int) < 97 := by omega
        have q1d : decide ((97 : Int) ≤ (c : Int)) = false := decide_eq_false (by omega)
        have q3 : (48 : Int) ≤ (c : Int) := by omega
        have q3d : decide ((48 : Int) ≤ (c : Int)) = true := decide_eq_true q3
        have q4 : (57 : Int) < (c : Int) := by omega
        have q4d : decide ((c : Int) ≤ 57) = false := decide_eq_false (by omega)
        clear yes no
        go_wp2
        go_ret
        exact ⟨retb HP.out.symm, Below.refl _ _⟩
      · have HP := yes (by unfold letterB; exact decide_eq_true (by omega))
        have q1 : (97 : Int) ≤ (c : Int) := by omega
        have q1d : decide ((97 : Int) ≤ (c : Int)) = true := decide_eq_true q1
        have q2 : (c : Int) ≤ 122 := by omega
        have q2d : decide ((c : Int) ≤ 122) = true := decide_eq_true q2
        clear yes no
        go_wp2
        go_roundg (gk - 1)
        case measure => have := HK.out; omega
        case rel => exact ⟨k + 1, by have := HK.out; omega, by go_num, HP, rfl⟩
      · have HP := no (by unfold letterB; exact decide_eq_false (by omega))
        have q1 : (97 : Int) ≤ (c : Int) := by omega
        have q1d : decide ((97 : Int) ≤ (c : Int)) = true := decide_eq_true q1
        have q2 : (122 : Int) < (c : Int) := by omega
        have q2d : decide ((c : Int) ≤ 122) = false := decide_eq_false (by omega)
        have q3 : (48 : Int) ≤ (c : Int) := by omega
        have q3d : decide ((48 : Int) ≤ (c : Int)) = true := decide_eq_true q3
        have q4 : (57 : Int) < (c : Int) := by omega
        have q4d : decide ((c : Int) ≤ 57) = false := decide_eq_false (by omega)
        clear yes no
        go_wp2
        go_ret
        exact ⟨retb HP.out.symm, Below.refl _ _⟩
    · have e := HK.out
      have hkn : k = n := by omega
      have ha : allL l = true := by have := hall.out; rwa [List.take_of_length_le (by have := HS.out; omega)] at this
      cases hl : l with
      | nil =>
        have HP : Hid (partB l = false) := hid (by rw [hl]; rfl)
        have hn0 : n = 0 := by have := HS.out; rw [hl, List.length_nil] at this; omega
        subst hn0
        obtain rfl : k = 0 := by omega
        clear ha e HK hall
        go_wp2
        go_ret
        exact ⟨rfl, Below.refl _ _⟩
      | cons c r =>
        have HP : Hid (partB l = true) := hid (by unfold partB; rw [ha, hl]; rfl)
        have hn0 : 0 < n := by have := HS.out; rw [hl, List.length_cons] at this; omega
        clear ha e HK hall
        go_wp2
        go_ret
        exact ⟨retb (HP.out.symm ▸ (by first | rfl | exact decide_eq_true hn0)), Below.refl _ _⟩

/-- What stands behind each /, letter by letter. -/
def spStep (out : List (List UInt8)) (c : UInt8) : List (List UInt8) := if c = 47 then out ++ [[]] else out.set (out.length - 1) ((out.getLast?.getD []) ++ [c])
def spl (l : List UInt8) : List (List UInt8) := l.foldl spStep []
theorem spl_snoc (l : List UInt8) (k : Nat) (c : UInt8) (h : l[k]? = some c) : spl (l.take (k + 1)) = spStep (spl (l.take k)) c := by
  obtain ⟨hk, rfl⟩ := List.getElem?_eq_some_iff.1 h
  unfold spl
  rw [List.take_succ_eq_append_getElem hk, List.foldl_append]; rfl
theorem elemText : Elem Try.prog 74 9 1 16 := Elem.mk' (z := .string ⟨#[]⟩) Try.underlying74 (by kernel_rfl) rfl (by decide) (by decide)
theorem spl_len (l : List UInt8) (k : Nat) : (spl (l.take k)).length ≤ k := by
  induction k with
  | zero => simp [spl]
  | succ k ih =>
    rcases Nat.lt_or_ge k l.length with h | h
    · rw [spl_snoc l k _ (List.getElem?_eq_getElem h)]
      unfold spStep
      split <;> simp <;> omega
    · rw [List.take_of_length_le (show l.length ≤ k + 1 by omega)]
      rw [List.take_of_length_le h] at ih; omega
theorem spl_each (l : List UInt8) : ∀ p ∈ spl l, p.length ≤ l.length := by
  induction l using snocRec with
  | h0 => intro p hp; cases hp
  | h1 l c ih =>
    have e : spl (l ++ [c]) = spStep (spl l) c := by unfold spl; rw [List.foldl_append]; rfl
    rw [e, List.length_append, List.length_singleton]
    intro p hp
    unfold spStep at hp
    split at hp
    · rw [List.mem_append] at hp
      rcases hp with hp | hp
      · have := ih p hp; omega
      · simp at hp; subst hp; simp
    · rcases List.mem_or_eq_of_mem_set hp with hp | hp
      · have := ih p hp; omega
      · subst hp
        rw [List.length_append, List.length_singleton]
        cases hg : (spl l).getLast? with
        | none => simp
        | some q => have := ih q (List.mem_of_getLast? hg); simpa using this

theorem ba_append (a b : ByteArray) : (a ++ b).data.toList = a.data.toList ++ b.data.toList := by simp

set_option maxHeartbeats 2000000 in
theorem Split_any (s : ByteArray) (w : World) (hs : s.size ≤ 1000) : Calls Try.prog 43 #[.string s] w (fun e w' => ∃ v xs, Texts (spl s.data.toList) (fun v => v) w e w' v xs) := by
  obtain ⟨l, el⟩ : ∃ l, s.data.toList = l := ⟨_, rfl⟩
  have hsz : s.size = l.length := by rw [← el]; exact Lib.size_eq s
  have hat := str_at s
  rw [el] at hat ⊢
  obtain ⟨n, hn⟩ : ∃ n, s.size = n := ⟨_, rfl⟩
  have HA := hid hat
  have HS := hid hsz
  have EL := hid el
  have hn2 : n ≤ 1000 := by omega
  clear hat hsz el hs
  go_enter Try.func43, Try.ntmps43
  go_wp2
  go_loopg [3, 4, 7] n (fun g v _ i wr => ∃ (k m : Nat) (xs : List ByteArray), g + k = n ∧ i = .int .i64 (k : Nat) ∧ wr.ownsRow w.heap.size 9 1 v m (tcells xs) ∧ Hid (xs.length = m) ∧ Hid (dl xs = spl (l.take k)) ∧ Below w.heap.size w wr)
  case atStart => exact ⟨0, 0, [], rfl, rfl, World.ownsRow_nil _ _ _ _, rfl, rfl, Below.refl _ _⟩
  case round =>
    obtain ⟨k, m, xs, hk, rfl, hown, hm, hd, hb⟩ := hrel
    have HK := hid hk
    have hbs := hb.size
    clear hk
    by_cases hlt : k < n
    · have hks : k < s.size := by omega
      have ha := HA.out k hks
      obtain ⟨u, hu⟩ : ∃ u, l[k]? = some u := ⟨_, List.getElem?_eq_getElem (by rw [← HS.out]; exact hks)⟩
      have hsn := spl_snoc l k u hu
      rw [bt_at l k u hu] at ha
      obtain ⟨c, hc⟩ : ∃ c, u.toNat = c := ⟨_, rfl⟩
      rw [hc] at ha
      have hmk : m ≤ k := by rw [← hm.out, ← dl_len, hd.out]; exact spl_len l k
      by_cases h47 : c = 47
      · subst h47
        have hu47 : u = 47 := UInt8.toNat_inj.1 (by rw [hc]; rfl)
        have HD : Hid (dl (xs ++ [⟨#[]⟩]) = spl (l.take (k + 1))) := hid (by
          rw [hsn]; unfold spStep; rw [if_pos hu47, ← hd.out]; unfold dl; simp)
        have HM : Hid ((xs ++ [(⟨#[]⟩ : ByteArray)]).length = m + 1) := hid (by rw [List.length_append, hm.out]; rfl)
        have HO := hid hown
        obtain ⟨w2, hw2, hb2, hs2, hl2⟩ := laid wr #[.string ⟨#[]⟩] 9
        have HL2 := hid hl2
        have hs5 : w.heap.size ≤ w2.heap.size := by have := hb2.size; omega
        clear hsn hu hc hu47 hown hl2 hs2
        go_wp2_with ((with_reducible show wpList _ _ _ _ _ _); refine wp_append1 elemText rfl (.tmp 14) (.tmp 15) rfl w.heap.size u3 m _ rfl (own_grow HO.out hb2) wr.heap.size [.string ⟨#[]⟩] rfl rfl ?c1 ?c2 ?c3 ?c4 ?c5)
        case c1 =>
          intro j v hj
          exact cell_laid HL2.out (by simpa using hj)
        case c2 => intro v hv; simp at hv; subst hv; rfl
        case c3 => omega
        case c4 => exact hs5
        case c5 =>
          intro v' w5 hown' hb5 hs6
          have HO' : Hid (w5.ownsRow w.heap.size 9 1 v' (m + 1) (tcells (xs ++ [⟨#[]⟩]))) := hid (by unfold tcells at *; rw [List.map_append]; exact hown')
          clear hown'
          go_wp2
          go_roundg (gk - 1)
          case measure => have := HK.out; omega
          case rel => exact ⟨k + 1, m + 1, xs ++ [⟨#[]⟩], by have := HK.out; omega, by go_num, HO'.out, HM, HD, (step hb hb2).trans hb5⟩
      · have hne : (((c : Nat) : Int) == 47) = false := by simp; omega
        have hu47 : u ≠ 47 := by rintro rfl; exact h47 (by rw [← hc]; rfl)
        have HSN : Hid (spl (l.take (k + 1)) = (spl (l.take k)).set ((spl (l.take k)).length - 1) (((spl (l.take k)).getLast?.getD []) ++ [u])) := hid (by rw [hsn]; unfold spStep; rw [if_neg hu47])
        cases m with
        | zero =>
          have hx : xs = [] := List.eq_nil_of_length_eq_zero hm.out
          subst hx
          have HD : Hid (dl [] = spl (l.take (k + 1))) := hid (by rw [HSN.out, ← hd.out]; rfl)
          obtain ⟨a3, c3, rfl, -⟩ := Leads.of_own hown
          have HO := hid hown
          clear hsn hu hc hu47 hown h47 hd
          go_wp2
          go_roundg (gk - 1)
          case measure => have := HK.out; omega
          case rel => exact ⟨k + 1, 0, [], by have := HK.out; omega, by go_num, HO.out, rfl, HD, hb⟩
        | succ j =>
          rcases hown.2 with ⟨_, h⟩ | ⟨g0, cap, cur, rfl, hg, hh, -⟩
          · omega
          obtain ⟨x, hx⟩ : ∃ x, xs[j]? = some x := ⟨_, List.getElem?_eq_getElem (by rw [hm.out]; omega)⟩
          have hcj := hown.cellAt j (by omega)
          rw [show (tcells xs)[j]? = some (.string x) by unfold tcells; rw [List.getElem?_map, hx]; rfl] at hcj
          have hfr := hown.frozenAt j
          have hgl := (Array.getElem?_eq_some_iff.1 hh).1
          have hex : (s.extract k (k + 1)).data.toList = [u] := by
            rw [Lib.extract_data, EL.out, show k + 1 - k = 1 by omega]
            obtain ⟨h1, rfl⟩ := List.getElem?_eq_some_iff.1 hu
            rw [List.drop_eq_getElem_cons h1]; rfl
          have hlen : (dl xs).length = j + 1 := by rw [dl_len]; exact hm.out
          have hlast : (dl xs).getLast?.getD [] = x.data.toList := by
            rw [List.getLast?_eq_getElem?, hlen, Nat.add_sub_cancel]
            unfold dl
            rw [List.getElem?_map, hx]; rfl
          have hxs : x.size ≤ 1000 := by
            have h1 : x.data.toList ∈ spl (l.take k) := by rw [← hd.out]; unfold dl; exact List.mem_map.2 ⟨x, List.mem_of_getElem? hx, rfl⟩
            have h2 := spl_each _ _ h1
            rw [List.length_take] at h2
            rw [Lib.size_eq]; omega
          have HD : Hid (dl (xs.set j (x ++ s.extract k (k + 1))) = spl (l.take (k + 1))) := hid (by
            rw [HSN.out, ← hd.out, hlen, hlast, Nat.add_sub_cancel]
            unfold dl
            rw [List.map_set, ba_append, hex])
          have HM : Hid ((xs.set j (x ++ s.extract k (k + 1))).length = j + 1) := hid (by rw [List.length_set]; exact hm.out)
          have hst := (hown.stored j (.string (x ++ s.extract k (k + 1)))).1
          have HST : Hid ((wr.setCell ⟨g0, j, none⟩ (.string (x ++ s.extract k (k + 1)))).ownsRow w.heap.size 9 1 (.slice (some ⟨g0, 0, none⟩) (j + 1) cap) (j + 1) (tcells (xs.set j (x ++ s.extract k (k + 1))))) := hid (by unfold tcells at *; rw [List.map_set]; exact hst)
          have f1 : ∀ z : Ext wr, z.v.cell? ⟨g0, j, none⟩ = some (.string x) := fun z => (z.b.cell (p := ⟨g0, j, none⟩) hgl).trans hcj
          clear hsn hu hc hu47 hown h47 hd hh hx hex hlen hlast hst hcj
          go_upto_region 8 with (fail)
          refine wp_region_mix (fun w' => ∃ z : Ext wr, w' = z.v) 13 [(0, false), (1, false), (2, false), (3, false), (4, false), (5, false), (6, false), (7, false), (8, false), (9, false), (10, false), (11, false), (12, false)] (by kernel_rfl) (by kernel_rfl) ⟨⟨_, (Below.refl _ _).drew⟩, rfl⟩ ?_
          repeat (refine wpMix_q rfl rfl ?_; go_big_quiet_step (fail); refine wpQuiet_nil ?_)
          refine wpMix_done ?_
          simp only [List.drop_succ_cons, List.drop_zero]
          have hcj := f1 ⟨_, (Below.refl _ _).drew⟩
          have hfr' := hfr
          go_wp2
          go_roundg (gk - 1)
          case measure => have := HK.out; omega
          case rel => exact ⟨k + 1, j + 1, _, by have := HK.out; omega, by go_num, own_grow HST.out ((Below.refl _ _).drew), HM, HD, (hb.setCell (p := ⟨g0, j, none⟩) hg _).drew⟩
    · have e := HK.out
      obtain rfl : k = n := by omega
      have hdn : dl xs = spl l := by rw [hd.out, List.take_of_length_le (by have := HS.out; omega)]
      have HD := hid hdn
      have HO := hid hown
      clear hdn hd e hown HK
      go_wp2
      go_ret
      exact ⟨_, xs, rfl, HD.out, by rw [hm.out]; exact HO.out, hb⟩
end Go.Proofs.Ytbfhppafffhlkaa
