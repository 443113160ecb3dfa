/- PathMay: the walk of the law. -/
import Derived.Test.YtdjckgcjdbdeiaaPathRef3
import Derived.Test.YtdjckgcjdbdeiaaPathLaw
namespace Go.Proofs.Ytdjckgcjdbdeiaa
open Go.RowKit
open Go.Proofs
set_option linter.unusedVariables false

theorem txB_ok (l : List UInt8) (h : txB l = true) : l.length ≤ 8 ∧ l.contains 0 = false := by
  unfold txB at h
  rw [Bool.or_eq_true, decide_eq_true_iff] at h
  rcases h with h | h
  · rw [h]; exact ⟨by decide, by decide⟩
  · simp only [Bool.and_eq_true, decide_eq_true_eq] at h
    refine ⟨h.1.1.1.2, ?_⟩
    cases hb : l with
    | nil => rfl
    | cons c r =>
      have hc : c = 47 := by have := h.1.1.2; rw [hb] at this; simpa using this
      subst hc
      have h1 := h.1.1.1.1.1
      rw [hb, spl_segs] at h1
      have h2 := joinL_zero _ h1
      rw [join_segs _ r (Nat.le_refl _)] at h2
      exact h2
theorem of_is (l : List UInt8) : ofV l = .tuple #[.int .u64 ((if txB l then Pl.textN l else 0 : Nat) : Int), .int .i64 (if txB l then 0 else 310)] := by
  unfold ofV
  cases h : txB l with
  | true =>
    obtain ⟨h1, h2⟩ := txB_ok l h
    have h3 : (rd (Pl.textN l)).isSome = true := by
      rw [← right_is, backL_text l h1 h2, h, decide_eq_true rfl]; rfl
    rw [if_pos ⟨h1, h2, h3⟩]; rfl
  | false =>
    rw [if_neg]
    · rfl
    · rintro ⟨h1, h2, h3⟩
      rw [← right_is, backL_text l h1 h2, h] at h3
      simp at h3

set_option maxRecDepth 100000 in
set_option maxHeartbeats 2000000 in
theorem pathMay.walk (a0 : Option Addr) (cap0 : Nat) (ts : List ByteArray) (a1 : Option Addr) (cap1 : Nat) (ws : List Nat) (a2 : Option Addr) (cap2 : Nat) (qs : List ByteArray) (w : World)
    (h0 : Leads w a0 ts.length cap0 (ts.map Value.string)) (ht : ∀ s ∈ ts, s.size ≤ maxLen) (h1 : Leads w a1 ws.length cap1 (wcells ws)) (hw : wok ws) (h2 : Leads w a2 qs.length cap2 (qs.map Value.string)) (hq : ∀ s ∈ qs, s.size ≤ maxLen) :
    Calls Try.prog 3 #[.slice a0 ts.length cap0, .slice a1 ws.length cap1, .slice a2 qs.length cap2] w (Ret (.bool true) w) := by
  obtain ⟨n0, en0⟩ : ∃ n, ts.length = n := ⟨_, rfl⟩
  obtain ⟨n1, en1⟩ : ∃ n, ws.length = n := ⟨_, rfl⟩
  obtain ⟨n2, en2⟩ : ∃ n, qs.length = n := ⟨_, rfl⟩
  rw [en0] at h0 ⊢
  rw [en1] at h1 ⊢
  rw [en2] at h2 ⊢
  have l0 := h0.len.1
  have l1 := h1.len.1
  have l2 := h2.len.1
  have hml : maxLen ≤ 9223372036854775807 := by decide
  have H0 := hid h0
  have H1 := hid h1
  have H2 := hid h2
  have HT := hid fun s hs => Nat.le_trans (ht s hs) hml
  have HQ := hid fun s hs => Nat.le_trans (hq s hs) hml
  have HW := hid hw
  have E0 := hid en0
  have E1 := hid en1
  have E2 := hid en2
  clear h0 h1 h2 ht hq hw en0 en1 en2 hml
  go_enter Try.func3, Try.ntmps3
  go_wp2_with fail
  refine (wakes_any _).mono ?_
  rintro e w1 ⟨rfl, hb1⟩
  go_upto_block 0 with (fail)
  go_cut [] (fun wr => Below w1.heap.size w1 wr)
  case first =>
    go_wp2
    go_loopg [7, 8, 9, 10, 11, 12, 32] n0 (fun g _ _ _ _ _ _ i wr => ∃ k : Nat, g + k = n0 ∧ k ≤ 10 ∧ i = .int .i64 (k : Nat) ∧ Below w1.heap.size w1 wr)
    case atStart => exact ⟨0, rfl, by decide, rfl, Below.refl _ _⟩
    case round =>
      obtain ⟨k, hk, hk10, rfl, hb⟩ := hrel
      have HK := hid hk
      clear hk
      by_cases hlt : k < n0
      · obtain ⟨s, hs⟩ : ∃ p, ts[k]? = some p := ⟨_, List.getElem?_eq_getElem (by rw [E0.out]; exact hlt)⟩
        obtain ⟨b, off, rfl, hc⟩ := H0.out.at hlt (by rw [List.getElem?_map, hs]; rfl)
        have hc1 := hc wr (step hb1 hb)
        have hss := HT.out s (List.mem_of_getElem? hs)
        clear hc hs
        by_cases hk2 : k = 10
        · subst hk2
          clear HK hk10
          go_wp2
          go_meet
          exact hb
        · have q : (((k : Nat) : Int) == 10) = false := by simp; omega
          have hk9 : k < 10 := by omega
          obtain ⟨m, hm⟩ : ∃ m : Nat, min (s.size : Int) 12 = (m : Int) := ⟨min s.size 12, by omega⟩
          have hm12 : m ≤ 12 := by omega
          have hms : m ≤ s.size := by omega
          obtain ⟨S, hS⟩ : ∃ S, s.extract 0 m = S := ⟨_, rfl⟩
          have hSz : S.size ≤ 12 := by rw [← hS, Lib.size_eq, Lib.extract_data, List.length_take]; omega
          have hO := fun W => Of_any S W (by omega)
          rw [of_is] at hO
          have hX := fun W => rText21_any S W (by omega)
          cases htx : txB S.data.toList with
          | true =>
            rw [htx] at hO hX
            have hN := fun W => rText_any S W (by rw [Lib.size_eq]; exact (txB_ok _ htx).1)
            rw [if_pos rfl, if_pos rfl] at hO
            generalize Pl.textN S.data.toList = N at *
            have HO := hid hO
            have HX := hid hX
            have HN := hid hN
            clear hO hX hN htx hk2
            go_wp2_with fail
            refine (HO.out _).mono ?_
            rintro e y0 ⟨rfl, hy0⟩
            go_wp2_with fail
            refine (HX.out _).mono ?_
            rintro e y1 ⟨rfl, hy1⟩
            go_wp2_with fail
            refine (HN.out _).mono ?_
            rintro e y2 ⟨rfl, hy2⟩
            go_wp2
            go_roundg (gk - 1)
            case measure => have := HK.out; omega
            case rel => exact ⟨k + 1, by have := HK.out; omega, by omega, by go_num, step (step (step hb hy0) hy1) hy2⟩
          | false =>
            rw [htx] at hO hX
            rw [if_neg (by simp), if_neg (by simp)] at hO
            have HO := hid hO
            have HX := hid hX
            clear hO hX htx hk2
            go_wp2_with fail
            refine (HO.out _).mono ?_
            rintro e y0 ⟨rfl, hy0⟩
            go_wp2_with fail
            refine (HX.out _).mono ?_
            rintro e y1 ⟨rfl, hy1⟩
            go_wp2
            go_roundg (gk - 1)
            case measure => have := HK.out; omega
            case rel => exact ⟨k + 1, by have := HK.out; omega, by omega, by go_num, step (step hb hy0) hy1⟩
      · clear HK
        go_wp2
        go_meet
        exact hb
  case rest =>
    go_upto_block 2 with (fail)
    go_cut [] (fun wr => Below w1.heap.size w1 wr)
    case first =>
      go_wp2
      go_loopg [13, 14, 15, 16, 17, 18, 19, 20, 64, 98] n1 (fun g _ _ _ _ _ _ _ _ i _ wr => ∃ k : Nat, g + k = n1 ∧ k ≤ 10 ∧ i = .int .i64 (k : Nat) ∧ Below w1.heap.size w1 wr)
      case atStart => exact ⟨0, rfl, by decide, rfl, hcut⟩
      case round =>
        obtain ⟨k, hk, hk10, rfl, hb⟩ := hrel
        have HK := hid hk
        obtain ⟨G, hG⟩ : ∃ G, G = gk - 1 := ⟨_, rfl⟩
        have HG := hid hG
        clear hk hG
        by_cases hlt : k < n1
        · obtain ⟨x, hx⟩ : ∃ p, ws[k]? = some p := ⟨_, List.getElem?_eq_getElem (by rw [E1.out]; exact hlt)⟩
          obtain ⟨b, off, rfl, hc⟩ := H1.out.at hlt (wcell_at hx)
          have hc1 := hc wr (step hb1 hb)
          have hxw := HW.out x (List.mem_of_getElem? hx)
          clear hc hx
          by_cases hk2 : k = 10
          · subst hk2
            clear HK hk10 HG
            go_wp2
            go_meet
            exact hb
          · have q : (((k : Nat) : Int) == 10) = false := by simp; omega
            have hk9 : k < 10 := by omega
            have hR := fun W => rRight_any x W hxw
            have hC := fun W => Check_any x W hxw
            unfold pathE at hC
            cases hr : rd x with
            | none =>
              rw [hr] at hR hC
              have HR := hid hR
              have HC := hid hC
              have HP := hid fun W => Parts_none x W hxw hr
              have HE : Hid (∀ W : World, Calls Try.prog 15 #[.slice none 0 0, .slice none 0 0] W (Ret (.bool true) W)) := hid fun W => EqS_any [] [] none none 0 0 0 0 W rfl rfl ⟨Nat.le_refl _, Nat.zero_le _, .inl ⟨rfl, rfl⟩⟩ ⟨Nat.le_refl _, Nat.zero_le _, .inl ⟨rfl, rfl⟩⟩
              clear hR hC hr hk2
              go_wp2_with fail
              refine (HR.out _).mono ?_
              rintro e y0 ⟨rfl, hy0⟩
              go_wp2_with fail
              refine (HP.out _).mono ?_
              rintro e y1 ⟨rfl, hy1⟩
              go_wp2_with fail
              refine (HC.out _).mono ?_
              rintro e y2 ⟨rfl, hy2⟩
              go_wp2_with fail
              refine (HE.out _).mono ?_
              rintro e y3 ⟨rfl, hy3⟩
              have hb5 := step (step (step (step hb hy0) hy1) hy2) hy3
              clear hy0 hy1 hy2 hy3
              go_wp2
              refine wp_loop_rounds 1 ?_
              rw [rounds_succ]
              go_wp2
              go_roundg G
              case measure => have := HG.out; have := HK.out; omega
              case rel => exact ⟨k + 1, by have := HG.out; have := HK.out; omega, by omega, by go_num, hb5⟩
            | some ps =>
              rw [hr] at hR hC
              have HR := hid hR
              have HC := hid hC
              have HP := hid fun W => Parts_some x ps W hxw hr
              have HQ2 := hid fun W => rParts_any x ps W hxw hr
              have hlen := (rd_some hr).2.2.2.2.2.2
              clear hR hC hr hk2
              go_wp2_with fail
              refine (HR.out _).mono ?_
              rintro e y0 ⟨rfl, hy0⟩
              go_wp2_with fail
              refine (HP.out _).mono ?_
              rintro e y1 ⟨v, xs, rfl, hd, ho, hy1⟩
              obtain ⟨m, hm⟩ : ∃ m, xs.length = m := ⟨_, rfl⟩
              rw [hm] at ho
              have hm4 : m ≤ 4 := by rw [← hm, ← dl_len, hd]; exact hlen
              obtain ⟨a3, c3, rfl, hld⟩ := Leads.of_own ho
              have HLD := hid hld
              have HO := hid ho
              have HD := hid hd
              have HM := hid hm
              clear hld ho hd hm
              go_wp2_with fail
              refine (HQ2.out _).mono ?_
              rintro e y2 ⟨v, ys, rfl, hd, ho, hy2⟩
              obtain ⟨m', hm'⟩ : ∃ m, ys.length = m := ⟨_, rfl⟩
              rw [hm'] at ho
              obtain ⟨a4, c4, rfl, hld⟩ := Leads.of_own ho
              have HLD' := hid hld
              have HD' := hid hd
              have HM' := hid hm'
              clear hld ho hd hm'
              go_wp2_with fail
              refine (HC.out _).mono ?_
              rintro e y3 ⟨rfl, hy3⟩
              have hE := EqS_any xs ys a3 a4 m m' c3 c4 y3 HM.out HM'.out (HLD.out.grow (step hy2 hy3)) (HLD'.out.grow hy3)
              rw [decide_eq_true (by rw [HD.out, HD'.out])] at hE
              have HE := hid hE
              clear hE
              go_wp2_with fail
              refine HE.out.mono ?_
              rintro e y4 ⟨rfl, hy4⟩
              have hb5 := step hb hy0
              have hb6 := step (step hy2 hy3) hy4
              have HO4 := hid (own_grow HO.out hb6)
              have hb7 := step (step hb5 hy1) hb6
              have hsz : y0.heap.size ≤ y4.heap.size := by have := hy1.size; have := hb6.size; omega
              have hw1y : w1.heap.size ≤ y0.heap.size := hb5.size
              clear hy0 hy2 hy3 hy4
              go_wp2
              go_loopg [20, 98] m (fun g _ i wr => ∃ (j : Nat) (cs : List Value), g + j = m ∧ i = .int .i64 (j : Nat) ∧ wr.ownsRow y0.heap.size 9 1 (.slice a3 m c3) m cs ∧ Below w1.heap.size w1 wr)
              case atStart => exact ⟨0, _, rfl, rfl, HO4.out, hb7⟩
              case round =>
                obtain ⟨j, cs, hj, rfl, hown, hb8⟩ := hrel
                have HJ := hid hj
                clear hj
                by_cases hjm : j < m
                · have hcl : cs.length = m * 1 := hown.1
                  rcases hown.2 with ⟨_, h⟩ | ⟨g0, cap, cur, e, hg, hh, -⟩
                  · omega
                  cases e
                  have hcj := hown.cellAt j (by omega)
                  rw [List.getElem?_eq_getElem (by omega)] at hcj
                  have hfr := hown.frozenAt j
                  have HST := hid (hown.stored j (.string ⟨#[]⟩)).1
                  generalize cs[j]'(by omega) = old at hcj
                  clear hcl hown hh
                  go_wp2
                  go_roundg (gk - 1)
                  case measure => have := HJ.out; omega
                  case rel => exact ⟨j + 1, _, by have := HJ.out; omega, by go_num, HST.out, hb8.setCell (p := ⟨g0, j, none⟩) (by show w1.heap.size ≤ g0; omega) _⟩
                · clear HJ hown
                  go_wp2
                  go_roundg G
                  case measure => have := HG.out; have := HK.out; omega
                  case rel => exact ⟨k + 1, by have := HG.out; have := HK.out; omega, by omega, by go_num, hb8⟩
        · clear HK HG
          go_wp2
          go_meet
          exact hb
    case rest =>
      go_wp2
      go_loopg [21, 22, 23, 108] n2 (fun g v _ _ i wr => ∃ (k m : Nat) (xs : List ByteArray), g + k = n2 ∧ i = .int .i64 (k : Nat) ∧ wr.ownsRow w1.heap.size 9 1 v m (tcells xs) ∧ Hid (xs.length = m) ∧ Hid (Pth.tot (dl xs) ≤ 11 * m) ∧ m ≤ 6 ∧ m ≤ k ∧ Below w1.heap.size w1 wr)
      case atStart => exact ⟨0, 0, [], rfl, rfl, World.ownsRow_nil _ _ _ _, rfl, Nat.le_refl _, by decide, Nat.le_refl _, hcut⟩
      case round =>
        obtain ⟨k, m, xs, hk, rfl, hown, hm, htot, hm6, hmk, hb⟩ := hrel
        have HK := hid hk
        have hbs := hb.size
        clear hk
        by_cases hlt : k < n2
        · obtain ⟨s, hs⟩ : ∃ p, qs[k]? = some p := ⟨_, List.getElem?_eq_getElem (by rw [E2.out]; exact hlt)⟩
          obtain ⟨b, off, rfl, hc⟩ := H2.out.at hlt (by rw [List.getElem?_map, hs]; rfl)
          have hc1 := hc wr (step hb1 hb)
          have hss := HQ.out s (List.mem_of_getElem? hs)
          clear hc hs
          by_cases hk6 : k < 6
          · obtain ⟨t, ht⟩ : ∃ m : Nat, min (s.size : Int) 10 = (m : Int) := ⟨min s.size 10, by omega⟩
            have ht10 : t ≤ 10 := by omega
            have hts : t ≤ s.size := by omega
            have HM : Hid ((xs ++ [s.extract 0 t]).length = m + 1) := hid (by rw [List.length_append, hm.out]; rfl)
            have HT2 : Hid (Pth.tot (dl (xs ++ [s.extract 0 t])) ≤ 11 * (m + 1)) := hid (by
              have e : dl (xs ++ [s.extract 0 t]) = dl xs ++ [(s.extract 0 t).data.toList] := by unfold dl; simp
              rw [e, Pth.tot_append]
              have h1 : Pth.tot [(s.extract 0 t).data.toList] = (s.extract 0 t).data.toList.length + 1 := by simp [Pth.tot]
              have h2 : (s.extract 0 t).data.toList.length ≤ t := by rw [Lib.extract_data, List.length_take]; omega
              have := htot.out
              omega)
            have HO := hid hown
            obtain ⟨w2, hw2, hb2, hs2, hl2⟩ := laid wr #[.string (s.extract 0 t)] 9
            have HL2 := hid hl2
            have hs5 : w1.heap.size ≤ w2.heap.size := by have := hb2.size; omega
            clear hown hl2 hs2
            go_wp2_with ((with_reducible show wpList _ _ _ _ _ _); refine wp_append1 elemText rfl (.tmp 115) (.tmp 121) rfl w1.heap.size u21 m _ rfl (own_grow HO.out hb2) wr.heap.size [.string (s.extract 0 t)] rfl rfl ?c1 ?c2 ?c3 ?c4 ?c5)
            case c1 =>
              intro j v hj
              exact cell_laid HL2.out (by simpa using hj)
            case c2 => intro v hv; simp at hv; subst hv; rfl
            case c3 => omega
            case c4 => exact hs5
            case c5 =>
              intro v' w5 hown' hb5 hs6
              have HO' : Hid (w5.ownsRow w1.heap.size 9 1 v' (m + 1) (tcells (xs ++ [s.extract 0 t]))) := hid (by unfold tcells at *; rw [List.map_append]; exact hown')
              clear hown'
              go_wp2
              go_roundg (gk - 1)
              case measure => have := HK.out; omega
              case rel => exact ⟨k + 1, m + 1, _, by have := HK.out; omega, by go_num, HO'.out, HM, HT2, by omega, by omega, (step hb hb2).trans hb5⟩
          · have hk6' : (6 : Int) ≤ k := by omega
            have HO := hid hown
            clear hown hk6
            go_wp2
            go_roundg (gk - 1)
            case measure => have := HK.out; omega
            case rel => exact ⟨k + 1, m, xs, by have := HK.out; omega, by go_num, HO.out, hm, htot, hm6, by omega, hb⟩
        · clear HK
          obtain ⟨a5, c5, rfl, hld⟩ := Leads.of_own hown
          have hJ := Join_any xs a5 m c5 wr hm.out hld (by omega) (Nat.le_trans (Pth.join_tot _) (by have := htot.out; omega))
          have hJ2 := fun W (hW : Below wr.heap.size wr W) => rJoin_any xs a5 m c5 W hm.out (hld.grow hW) (by have := htot.out; omega)
          unfold joinV at hJ
          unfold rJoinV at hJ2
          generalize numL (dl xs) = N at *
          cases hok : okL (dl xs) with
          | true =>
            rw [hok, if_pos rfl] at hJ
            rw [hok, if_pos rfl] at hJ2
            have HJ := hid hJ
            have HJ2 := hid hJ2
            clear hJ hJ2 hld hown hok
            go_wp2_with fail
            refine HJ.out.mono ?_
            rintro e y0 ⟨rfl, hy0⟩
            go_wp2_with fail
            refine (HJ2.out _ hy0).mono ?_
            rintro e y1 ⟨rfl, hy1⟩
            go_wp2
            go_ret
            exact ⟨rfl, step hb1 (step (step hb hy0) hy1)⟩
          | false =>
            rw [hok, if_neg (by simp)] at hJ
            rw [hok, if_neg (by simp)] at hJ2
            have HJ := hid hJ
            have HJ2 := hid hJ2
            clear hJ hJ2 hld hown hok
            go_wp2_with fail
            refine HJ.out.mono ?_
            rintro e y0 ⟨rfl, hy0⟩
            go_wp2_with fail
            refine (HJ2.out _ hy0).mono ?_
            rintro e y1 ⟨rfl, hy1⟩
            go_wp2
            go_ret
            exact ⟨rfl, step hb1 (step (step hb hy0) hy1)⟩
end Go.Proofs.Ytdjckgcjdbdeiaa
