/- Lists linked both ways: the places of nodes; who goes forward (the walks). -/
import Derived.Test.YtoihjmdpbbcbjaaDblFwd
import Derived.Test.YtoihjmdpbbcbjaaDblWakes
namespace Go.Proofs.Ytoihjmdpbbcbjaa
open Go.RowKit
open Go.Proofs
set_option linter.unusedVariables false
attribute [local go_sem] Oper.semAt_some

def GivesP (ps : List Nat) (V : World) (e : Ending) (W : World) : Prop := ∃ v, e = .returned v ∧ W.ownsRow V.heap.size 26 1 v ps.length (wcells ps) ∧ Below V.heap.size V W
theorem wcells_snoc (ps : List Nat) (p : Nat) : wcells (ps ++ [p]) = wcells ps ++ [.int .u64 ((p : Nat) : Int)] := by simp [wcells]
set_option maxRecDepth 100000 in
set_option maxHeartbeats 4000000 in
theorem places_any (xs : List Tw) (a : Option Addr) (n cap : Nat) (V : World) (h : Leads V a n cap (twcells xs)) (hn : xs.length = n) (hn4 : n ≤ 5000) :
    Calls Try.prog 24 #[.slice a n cap] V (GivesP (xs.map (·.1)) V) := by
  have hl := h.len
  have H := hid h
  have HN := hid hn
  obtain ⟨ps, hps⟩ : ∃ ps, xs.map (·.1) = ps := ⟨_, rfl⟩
  rw [hps]
  have HPS := hid hps
  clear h hn hps
  go_enter Try.func24, Try.ntmps24
  go_wp2
  go_loopg [8, 3] n (fun g t8 t3 wr => ∃ (k : Nat) (v : Value), g + k = n ∧ t8 = .int .i64 ((k : Nat) : Int) ∧ t3 = v ∧ Hid (wr.ownsRow V.heap.size 26 1 v k (wcells (ps.take k)) ∧ Below V.heap.size V wr))
  case atStart => exact ⟨0, _, rfl, rfl, rfl, hid ⟨World.ownsRow_nil _ _ _ _, Below.refl _ _⟩⟩
  case round =>
    obtain ⟨k, v, hk, rfl, rfl, hR⟩ := hrel
    have HK := hid hk
    clear hk
    obtain ⟨ua, uc, rfl, -⟩ := Leads.of_own hR.out.1
    by_cases hlt : k < n
    · obtain ⟨⟨p1, p2, p3⟩, ht⟩ : ∃ t, xs[k]? = some t := ⟨_, List.getElem?_eq_getElem (by rw [HN.out]; exact hlt)⟩
      obtain ⟨b, off, rfl, -, hcc⟩ := H.out.tw hlt ht
      obtain ⟨f0, f1, f2⟩ := hcc _ hR.out.2
      have HTK : Hid (ps.take (k + 1) = ps.take k ++ [p1]) := hid (take_snoc (by rw [← HPS.out, List.getElem?_map, ht]; rfl))
      obtain ⟨w2, hw2, hb2, hs2, hl2⟩ := laid wr #[.int .u64 ((p1 : Nat) : Int), .int .u64 ((p2 : Nat) : Int), .int .u64 ((p3 : Nat) : Int)] 28
      have x0 := cell_laid (i := 0) hl2 rfl
      obtain ⟨w3, hw3, hb3, hs3, hl3⟩ := laid w2 #[.int .u64 ((p1 : Nat) : Int)] 26
      have HL3 := hid hl3
      have HO3 := hid (own_grow (own_grow hR.out.1 hb2) hb3)
      have HB3 := hid (hR.out.2.trans ((step hb2 hb3).mono hR.out.2.size))
      have hV3 : V.heap.size ≤ w3.heap.size := HB3.out.size
      clear hcc ht hb2 hs2 hl2 hb3 hs3 hl3
      have hk6 : k ≤ 1000000 := by omega
      go_wp2_with ((with_reducible show wpList _ _ _ _ _ _); refine wp_append1 elemWords rfl (.tmp 12) (.tmp 15) rfl V.heap.size (.slice ua k uc) k _ rfl HO3.out w2.heap.size [.int .u64 ((p1 : Nat) : Int)] rfl rfl ?c1 ?c2 hk6 hV3 ?c3)
      case c1 =>
        intro j u hj
        exact cell_laid HL3.out (by simpa using hj)
      case c2 => first | (intro u hu; simp at hu; subst hu; rfl) | rfl | exact hk6
      case c3 =>
        intro v' w4 hown' hb4 hg4
        obtain ⟨a', cap', rfl, -⟩ := Leads.of_own hown'
        have HO4 : Hid (w4.ownsRow V.heap.size 26 1 (.slice a' (k + 1) cap') (k + 1) (wcells (ps.take (k + 1)))) := hid (by rw [HTK.out, wcells_snoc]; exact hown')
        have HB4 := hid (HB3.out.trans hb4)
        clear hown' hb4 hg4
        go_wp2
        go_roundg (gk - 1)
        case measure => have := HK.out; omega
        case rel => exact ⟨k + 1, _, by have := HK.out; omega, by go_num, rfl, hid ⟨HO4.out, HB4.out⟩⟩
    · have e := HK.out
      obtain rfl : k = n := by omega
      have HX : Hid (ps.take k = ps ∧ ps.length = k) := hid ⟨List.take_of_length_le (by rw [← HPS.out, List.length_map, HN.out]; exact Nat.le_refl _), by rw [← HPS.out, List.length_map, HN.out]⟩
      clear e
      go_wp2
      go_ret
      refine ⟨_, rfl, ?_, hR.out.2⟩
      have := hR.out.1
      rw [HX.out.1] at this
      rw [HX.out.2]
      exact this
def GivesF (R : List Nat × Bool) (V : World) (e : Ending) (W : World) : Prop := ∃ v, e = .returned (.tuple #[v, .bool R.2]) ∧ W.ownsRow V.heap.size 26 1 v R.1.length (wcells R.1) ∧ Below V.heap.size V W
set_option maxRecDepth 100000 in
set_option maxHeartbeats 4000000 in
theorem forward_any (M : Mem) (wa la : Option Addr) (wc lc head : Nat) (V : World) (h : MemL V wa wc la lc M) (hh : head < 18446744073709551616) (hW : Wok M) :
    Calls Try.prog 25 #[memV wa wc la lc M, .int .u64 ((head : Nat) : Int)] V (GivesF (fwdG M.W 20 head []) V) := by
  obtain ⟨V1, hV1, hb1, hs1, hl1⟩ := laid V #[.slice wa M.W.length wc, .slice la M.L.length lc, .bool M.F] 25
  obtain ⟨X, hX⟩ : ∃ X, V.heap.size = X := ⟨_, rfl⟩
  rw [hX] at hl1
  have HX1 := hid hl1
  have HB1 := hid hb1
  have HM := hid (h.grow hb1)
  have HWK := hid hW
  have hwl := h.w.len
  have hll := h.l.len
  obtain ⟨RES, hRES⟩ : ∃ R, fwdG M.W 20 head [] = R := ⟨_, rfl⟩
  rw [hRES]
  have HRES := hid hRES
  have HH := hid hh
  unfold memV
  obtain ⟨n, hn⟩ : ∃ n, M.W.length = n := ⟨_, rfl⟩
  rw [hn] at hV1 hwl HX1 ⊢
  have HN := hid hn
  clear h hb1 hs1 hl1 hW hRES hh hn
  go_enter Try.func25, Try.ntmps25
  go_wp2
  go_loopg [10, 6, 7] 20 (fun g t10 t6 t7 wr => ∃ (k : Nat) (v : Value) (p : Nat) (out : List Nat), g + k = 20 ∧ t10 = .int .i64 ((k : Nat) : Int) ∧ t6 = v ∧ t7 = .int .u64 ((p : Nat) : Int) ∧ Hid (wr.ownsRow V1.heap.size 26 1 v k (wcells out) ∧ Below V1.heap.size V1 wr ∧ out.length = k ∧ p < 18446744073709551616 ∧ fwdG M.W g p out = RES))
  case atStart => exact ⟨0, _, head, [], rfl, rfl, rfl, rfl, hid ⟨World.ownsRow_nil _ _ _ _, Below.refl _ _, rfl, HH.out, HRES.out⟩⟩
  case round =>
    obtain ⟨k, v, p, out, hk, rfl, rfl, rfl, hR⟩ := hrel
    have HK := hid hk
    obtain ⟨ua, uc, rfl, -⟩ := Leads.of_own hR.out.1
    have hp : p < 18446744073709551616 := hR.out.2.2.2.1
    by_cases hlt : k < 20
    · obtain ⟨g, hg⟩ : ∃ g, gk = g + 1 := ⟨gk - 1, by omega⟩
      have HF : Hid (fwdG M.W (g + 1) p out = RES) := hid (by rw [← hg]; exact hR.out.2.2.2.2)
      have HG := hid hg
      obtain ⟨x0, x1, x2⟩ := cells3 (keep_laid HX1.out hR.out.2.1)
      clear hk hg
      by_cases hle : n ≤ p
      · have t1 : decide (((n : Nat) : Int) ≤ ((p : Nat) : Int)) = true := decide_eq_true (by omega)
        have HE : Hid (RES = (out, false)) := hid (by rw [← HF.out]; unfold fwdG; rw [HN.out, if_pos hle])
        go_wp2
        go_ret2
        refine ⟨.slice ua k uc, by rw [HE.out]; rfl, ?_, step HB1.out hR.out.2.1⟩
        rw [HE.out, hR.out.2.2.1]
        exact own_base hR.out.1 HB1.out.size
      · have t1 : decide (((n : Nat) : Int) ≤ ((p : Nat) : Int)) = false := decide_eq_false (by omega)
        have hpn : p < n := by omega
        obtain ⟨x, hx⟩ : ∃ x, M.W[p]? = some x := ⟨_, List.getElem?_eq_getElem (by rw [HN.out]; exact hpn)⟩
        have HXB := hid (HWK.out x (List.mem_of_getElem? hx))
        have hxr : rdW M.W p = x := by unfold rdW; rw [List.getD_eq_getElem?_getD, hx]; rfl
        have hML := (HM.out.grow hR.out.2.1).w
        rw [HN.out] at hML
        obtain ⟨b, off, rfl, -, hcc⟩ := hML.at hpn (wcell_at hx)
        have f0 := hcc _ (Below.refl _ _)
        clear hcc hx hML hle
        by_cases h0 : x = 0
        · have HE : Hid (RES = (out, true)) := hid (by rw [← HF.out]; unfold fwdG; rw [HN.out, if_neg (by omega), hxr, if_pos h0])
          have t2 : (((x : Nat) : Int) == 0) = true := by simp; omega
          clear h0 hxr
          go_wp2
          go_ret2
          refine ⟨.slice ua k uc, by rw [HE.out]; rfl, ?_, step HB1.out hR.out.2.1⟩
          rw [HE.out, hR.out.2.2.1]
          exact own_base hR.out.1 HB1.out.size
        · have HE : Hid (fwdG M.W g ((x + 2) % 18446744073709551616) (out ++ [x]) = RES) := hid (by rw [← HF.out]; conv => rhs; unfold fwdG; rw [HN.out, if_neg (by omega), hxr, if_neg h0])
          have t2 : (((x : Nat) : Int) == 0) = false := by simp; omega
          clear h0 hxr
          obtain ⟨w3, hw3, hb3, hs3, hl3⟩ := laid wr #[.int .u64 ((x : Nat) : Int)] 26
          have HL3 := hid hl3
          have HO3 := hid (own_grow hR.out.1 hb3)
          have HB3 := hid (hR.out.2.1.trans (hb3.mono hR.out.2.1.size))
          have hV3 : V1.heap.size ≤ w3.heap.size := HB3.out.size
          have HLEN := hid hR.out.2.2.1
          clear hb3 hs3 hl3 hR
          have hk6 : k ≤ 1000000 := by omega
          go_wp2_with ((with_reducible show wpList _ _ _ _ _ _); refine wp_append1 elemWords rfl (.tmp 27) (.tmp 29) rfl V1.heap.size (.slice ua k uc) k _ rfl HO3.out wr.heap.size [.int .u64 ((x : Nat) : Int)] rfl rfl ?c1 ?c2 hk6 hV3 ?c3)
          case c1 =>
            intro j u hj
            exact cell_laid HL3.out (by simpa using hj)
          case c2 => first | (intro u hu; simp at hu; subst hu; rfl) | rfl | exact hk6
          case c3 =>
            intro v' w4 hown' hb4 hg4
            obtain ⟨a', cap', rfl, -⟩ := Leads.of_own hown'
            have HO4 : Hid (w4.ownsRow V1.heap.size 26 1 (.slice a' (k + 1) cap') (k + 1) (wcells (out ++ [x]))) := hid (by rw [wcells_snoc]; exact hown')
            have HB4 := hid (HB3.out.trans hb4)
            clear hown' hb4 hg4
            go_wp2
            go_roundg g
            case measure => have := HG.out; omega
            case rel => exact ⟨k + 1, _, (x + 2) % 18446744073709551616, out ++ [x], by have := HK.out; have := HG.out; omega, by go_num, rfl, by go_num, hid ⟨HO4.out, HB4.out, by rw [List.length_append, HLEN.out]; rfl, Nat.mod_lt _ (by decide), HE.out⟩⟩
    · have e := HK.out
      obtain rfl : k = 20 := by omega
      obtain rfl : gk = 0 := by omega
      have HE : Hid (RES = (out, false)) := hid (by rw [← hR.out.2.2.2.2]; rfl)
      clear e hk
      go_wp2
      go_ret2
      refine ⟨.slice ua 20 uc, by rw [HE.out]; rfl, ?_, step HB1.out hR.out.2.1⟩
      rw [HE.out, hR.out.2.2.1]
      exact own_base hR.out.1 HB1.out.size
end Go.Proofs.Ytoihjmdpbbcbjaa
