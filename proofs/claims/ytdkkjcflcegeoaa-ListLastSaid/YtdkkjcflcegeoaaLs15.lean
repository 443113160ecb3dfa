/- Lists (printed by gen_ls15.py): which nodes fit. -/
import Derived.Test.YtdkkjcflcegeoaaLs14
import Derived.Test.YtdkkjcflcegeoaaLsRef2
namespace Go.Proofs.Ytdkkjcflcegeoaa
open Go.RowKit
open Go.Proofs
set_option linter.unusedVariables false
attribute [local go_sem] Oper.semAt_some

theorem Index_any (l : List Nat) (a : Option Addr) (n cap q : Nat) (V : World) (h : Leads V a n cap (ncells l)) (hn : l.length = n) :
    Calls Try.prog 90 #[.slice a n cap, .int .i64 ((q : Nat) : Int)] V (fun e W => (∃ i : Int, e = .returned (.int .i64 i) ∧ (-1 ≤ i ∧ i ≤ 9223372036854775807) ∧ decide (0 ≤ i) = decide (q ∈ l)) ∧ W = V) := by
  have hl := h.len
  have H := hid h
  have HN := hid hn
  clear h hn
  go_enter Try.func90, Try.ntmps90
  go_wp2
  go_loopg [8] n (fun g i wr => ∃ k : Nat, g + k = n ∧ i = .int .i64 (k : Nat) ∧ Hid (∀ x ∈ l.take k, x ≠ q) ∧ wr = V)
  case atStart => exact ⟨0, rfl, rfl, hid (by simp), rfl⟩
  case round =>
    obtain ⟨k, hk, rfl, hs, hwr⟩ := hrel
    subst hwr
    have HK := hid hk
    clear hk
    by_cases hlt : k < n
    · obtain ⟨x, hxk⟩ : ∃ x, l[k]? = some x := ⟨_, List.getElem?_eq_getElem (by rw [HN.out]; exact hlt)⟩
      obtain ⟨b, off, rfl, -, hc⟩ := H.out.at hlt (ncell_at hxk)
      have f1 := hc _ (Below.refl _ _)
      have HX := hid hxk
      clear hc hxk
      by_cases he : x = q
      · subst he
        have HE : Hid (decide (x ∈ l) = true) := hid (decide_eq_true (List.mem_of_getElem? HX.out))
        go_wp2
        go_ret
        exact ⟨⟨_, rfl, by omega, by rw [HE.out]; exact decide_eq_true (by omega)⟩, rfl⟩
      · have t0 : (((q : Nat) : Int) == ((x : Nat) : Int)) = false := by simp; omega
        have HTK : Hid (∀ y ∈ l.take (k + 1), y ≠ q) := hid (by
          rw [take_snoc HX.out]
          intro y hy
          rcases List.mem_append.1 hy with hy | hy
          · exact hs.out y hy
          · rw [List.mem_singleton] at hy; subst hy; exact he)
        clear he
        go_wp2
        go_roundg (gk - 1)
        case measure => have := HK.out; omega
        case rel => exact ⟨k + 1, by have := HK.out; omega, by go_num, HTK, rfl⟩
    · have e := HK.out
      obtain rfl : k = n := by omega
      have HE : Hid (decide (q ∈ l) = false) := hid (decide_eq_false fun hm => by
        have := hs.out
        rw [List.take_of_length_le (by rw [HN.out]; exact Nat.le_refl _)] at this
        exact this q hm rfl)
      clear hs e HK
      go_wp2
      go_ret
      exact ⟨⟨_, rfl, by decide, by rw [HE.out]; rfl⟩, rfl⟩
theorem Contains_any (l : List Nat) (a : Option Addr) (n cap q : Nat) (V : World) (h : Leads V a n cap (ncells l)) (hn : l.length = n) :
    Calls Try.prog 67 #[.slice a n cap, .int .i64 ((q : Nat) : Int)] V (fun e W => e = .returned (.bool (decide (q ∈ l))) ∧ W = V) := by
  have hl := h.len
  have HI := hid (Index_any l a n cap q V h hn)
  obtain ⟨B, hB⟩ : ∃ b, decide (q ∈ l) = b := ⟨_, rfl⟩
  rw [hB] at HI ⊢
  clear h hn hB
  go_enter Try.func67, Try.ntmps67
  go_wp2_with fail
  refine HI.out.mono ?_
  rintro e W ⟨⟨i, rfl, hi, ht⟩, hw⟩
  subst hw
  have t0 : decide ((0 : Int) ≤ i) = B := ht
  clear ht
  go_wp2
  go_ret
  exact ⟨rfl, rfl⟩

theorem four_snoc (p j : Nat) (h : j < 4) : ([posL p 0, posL p 1, posL p 2, posL p 3] : List Nat).take (j + 1) = ([posL p 0, posL p 1, posL p 2, posL p 3] : List Nat).take j ++ [posL p j] := by
  match j, h with
  | 0, _ => rfl
  | 1, _ => rfl
  | 2, _ => rfl
  | 3, _ => rfl
/-- Does a node fit? -/
def fitsP (M : Mem) (head : Nat) (xs : List Nd) (t : Nd) : Bool := decide (t.1 ≠ 0) && (List.range' 0 4).all fun k => liveN M (posL t.1 k) && !decide (posL t.1 k ∈ wordsL head xs)
/-- Between two rounds of the gathering of words. -/
structure Ft (V : World) (X Y : Nat) (csx csy : Array Value) (tk : List Nat) (v9 : Value) (W : World) : Prop where
  bx : W.heap[X]? = some (.cells csx 25 (0, 0))
  by_ : W.heap[Y]? = some (.cells csy 38 (0, 0))
  r9 : W.ownsRow V.heap.size 3 1 v9 tk.length (ncells tk)
  below : Below V.heap.size V W
theorem Ft.grow {V W W' : World} {X Y : Nat} {csx csy : Array Value} {tk : List Nat} {v9 : Value} (h : Ft V X Y csx csy tk v9 W) (hb : Below W.heap.size W W') : Ft V X Y csx csy tk v9 W' :=
  ⟨keep_laid h.bx hb, keep_laid h.by_ hb, own_grow h.r9 hb, h.below.trans (hb.mono h.below.size)⟩
theorem Ft.app {V W W' : World} {X Y q : Nat} {csx csy : Array Value} {tk : List Nat} {v9 v9' : Value} (h : Ft V X Y csx csy tk v9 W) (ho : W'.ownsRow V.heap.size 3 1 v9' (tk.length + 1) (ncells tk ++ [.int .i64 ((q : Nat) : Int)])) (hg : W.grownBy W' v9.ownBlock) : Ft V X Y csx csy (tk ++ [q]) v9' W' := by
  refine ⟨keep_grown h.bx hg (own_ne h.r9 h.bx (by decide)), keep_grown h.by_ hg (own_ne h.r9 h.by_ (by decide)), ?_, h.below.trans (own_below h.r9 hg h.below.size)⟩
  rw [List.length_append, ncells_app]
  exact ho
set_option maxRecDepth 100000 in
set_option maxHeartbeats 8000000 in
theorem fits_any (M : Mem) (wa la : Option Addr) (wc lc head : Nat) (xs : List Nd) (t : Nd) (a : Option Addr) (n cap : Nat) (V : World) (h : MemL V wa wc la lc M) (hok : okM M = true) (hh : head < 18446744073709551616) (hl : Leads V a n cap (ndcells xs)) (hn : xs.length = n) (hn5 : n ≤ 5000) (hx : ∀ x ∈ xs, x.1 < 18446744073709551616) (ht : t.1 < 18446744073709551616) :
    Calls Try.prog 49 #[memV wa wc la lc M, .int .u64 ((head : Nat) : Int), .slice a n cap, ndV t] V (Ret (.bool (fitsP M head xs t)) V) := by
  obtain ⟨t0, t1, t2, t3⟩ := t
  have HFI : Hid (fitsP M head xs (t0, t1, t2, t3) = (decide (t0 ≠ 0) && (List.range' 0 4).all fun k => liveN M (posL t0 k) && !decide (posL t0 k ∈ wordsL head xs))) := hid rfl
  unfold ndV
  obtain ⟨V1, hV1, hbV1, hsV1, hlV1⟩ := laid V #[.slice wa M.W.length wc, .slice la M.L.length lc, .bool M.F] 25
  obtain ⟨V2, hV2, hbV2, hsV2, hlV2⟩ := laid V1 #[.int .u64 ((t0 : Nat) : Int), .int .u64 ((t1 : Nat) : Int), .int .u64 ((t2 : Nat) : Int), .int .u64 ((t3 : Nat) : Int)] 38
  obtain ⟨X, hX⟩ : ∃ X, V.heap.size = X := ⟨_, rfl⟩
  rw [hX] at hlV1
  obtain ⟨Y, hY⟩ : ∃ X, V1.heap.size = X := ⟨_, rfl⟩
  rw [hY] at hlV2
  have KX := hid (keep_laid hlV1 hbV2)
  have KY := hid hlV2
  have HB := hid (step hbV1 hbV2)
  have hVX : V.heap.size ≤ X := by omega
  have hVY : V.heap.size ≤ Y := by omega
  have nXY : X < Y := by omega
  clear hbV1 hsV1 hlV1 hbV2 hsV2 hlV2
  obtain ⟨hn1, hn4, hmn, -⟩ := okM_spec hok
  have HAT := hid (fun (p k : Nat) (W : World) (hp : p < 18446744073709551616) (hk : k ≤ 1000) => at_any p k W hp hk)
  have HF2 : Hid (Ft V X Y #[.slice wa M.W.length wc, .slice la M.L.length lc, .bool M.F] #[.int .u64 ((t0 : Nat) : Int), .int .u64 ((t1 : Nat) : Int), .int .u64 ((t2 : Nat) : Int), .int .u64 ((t3 : Nat) : Int)] [] (.slice none 0 0) V2) := hid ⟨KX.out, KY.out, World.ownsRow_nil _ _ _ _, HB.out⟩
  have HN := hid hn
  have HL := hid hl
  have HXS := hid hx
  have hwl := h.w.len
  have hll := h.l.len
  have hnl := hl.len
  have HML := hid h.l
  have HMN := hid hmn
  unfold memV
  obtain ⟨x0, x1, x2⟩ := cells3 KX.out
  have y0 := cell_laid (i := 0) KY.out rfl
  obtain ⟨RES, hRES⟩ : ∃ R, fitsP M head xs (t0, t1, t2, t3) = R := ⟨_, rfl⟩
  rw [hRES] at HFI ⊢
  clear h hok hl hn hx hRES hmn
  go_enter Try.func49, Try.ntmps49
  by_cases h0 : t0 = 0
  · have tz : (((t0 : Nat) : Int) == 0) = true := by simp; omega
    have HE : Hid (RES = false) := hid (by rw [HFI.out, decide_eq_false (by simp [h0])]; rfl)
    clear HFI h0
    go_wp2
    go_ret
    exact ⟨retb HE.out.symm, HB.out⟩
  have tz : (((t0 : Nat) : Int) == 0) = false := by simp; omega
  have HFI2 : Hid (RES = (List.range' 0 4).all fun k => liveN M (posL t0 k) && !decide (posL t0 k ∈ wordsL head xs)) := hid (by rw [HFI.out, decide_eq_true h0, Bool.true_and])
  obtain ⟨H0, hH0⟩ : ∃ q, posL head 0 = q := ⟨_, rfl⟩
  have HH0 := hid hH0
  have HAH := hid (at_any head 0 V2 hh (by decide))
  rw [hH0] at HAH
  clear h0 hH0 HFI
  go_wp2_with fail
  refine HAH.out.mono ?_
  rintro e wq ⟨rfl, hwq⟩
  rw [hwq]
  clear hwq wq HAH hX hY
  obtain ⟨w3, hw3, hb3, hs3, hl3⟩ := laid V2 #[.int .i64 ((H0 : Nat) : Int)] 3
  obtain ⟨Z, hZ⟩ : ∃ X, V2.heap.size = X := ⟨_, rfl⟩
  rw [hZ] at hl3
  have HLZ := hid hl3
  have HFZ := hid (HF2.out.grow hb3)
  have HOW := hid HFZ.out.r9
  clear hb3 hs3 hl3 x0 x1 x2 y0
  go_wp2_with ((with_reducible show wpList _ _ _ _ _ _); refine wp_appendM elemInts rfl (.tmp 18) (.tmp 21) rfl V.heap.size (.slice none 0 0) 0 (ncells []) rfl HOW.out ⟨Z, 0, none⟩ 1 1 [.int .i64 ((H0 : Nat) : Int)] rfl rfl ?c1 ?c2 ?c3 ?c4 ?c5)
  case c1 => intro j u hj; refine cell_add (o := 0) (by rw [Nat.zero_add]; exact cell_laid HLZ.out (by simpa using hj))
  case c2 => first | (intro u hu; simp at hu; subst hu; rfl) | omega
  try (case c3 => omega)
  try (case c4 => exact HFZ.out.below.size)
  case c5 =>
    intro v' w4 ho hg hmv
    have HF4 := hid (HFZ.out.app (q := H0) (v9' := v') ho hg)
    obtain ⟨x9, y9, e9, -⟩ := Leads.of_own ho
    subst e9
    clear ho hg hmv HFZ HLZ HOW HF2
    go_wp2
    go_loopg [9, 25] n (fun g t9 t25 wr => ∃ (k : Nat) (v9 : Value), g + k = n ∧ t25 = .int .i64 ((k : Nat) : Int) ∧ v9 = t9 ∧ Hid (Ft V X Y #[.slice wa M.W.length wc, .slice la M.L.length lc, .bool M.F] #[.int .u64 ((t0 : Nat) : Int), .int .u64 ((t1 : Nat) : Int), .int .u64 ((t2 : Nat) : Int), .int .u64 ((t3 : Nat) : Int)] (wordsL head (xs.take k)) v9 wr))
    case atStart => exact ⟨0, _, rfl, rfl, rfl, hid (by have := HF4.out; unfold wordsL; rw [HH0.out]; exact this)⟩
    case round =>
      clear HF4
      obtain ⟨k, v9, hk, rfl, rfl, hF⟩ := hrel
      have HK := hid hk
      clear hk
      by_cases hlt : k < n
      · obtain ⟨⟨p0, p1, p2, p3⟩, hp⟩ : ∃ x, xs[k]? = some x := ⟨_, List.getElem?_eq_getElem (by rw [HN.out]; exact hlt)⟩
        obtain ⟨b, off, rfl, hcc⟩ : ∃ b o, a = some ⟨b, o, none⟩ ∧ ∀ i v, (ndcells xs)[i]? = some v → wr.cell? ⟨b, o + i, none⟩ = some v := by
          obtain ⟨_, _, ⟨q, _⟩ | ⟨b, off, e, _, h4⟩⟩ := HL.out.grow hF.out.below
          · omega
          · exact ⟨b, off, e, h4⟩
        have hat : ∀ i, i < 4 → (ndcells xs)[k * 4 + i]? = (nd4 (p0, p1, p2, p3))[i]? := fun i hi => flat_at nd4 4 (fun _ => rfl) xs k i _ hp hi
        have c0 : wr.cell? ⟨b, off + k * 4, none⟩ = some (.int .u64 ((p0 : Nat) : Int)) := hcc (k * 4 + 0) _ (hat 0 (by decide))
        have c1 : wr.cell? ⟨b, off + k * 4 + 1, none⟩ = some (.int .u64 ((p1 : Nat) : Int)) := hcc (k * 4 + 1) _ (hat 1 (by decide))
        have c2 : wr.cell? ⟨b, off + k * 4 + 2, none⟩ = some (.int .u64 ((p2 : Nat) : Int)) := hcc (k * 4 + 2) _ (hat 2 (by decide))
        have c3 : wr.cell? ⟨b, off + k * 4 + 3, none⟩ = some (.int .u64 ((p3 : Nat) : Int)) := hcc (k * 4 + 3) _ (hat 3 (by decide))
        have hp0 : p0 < 18446744073709551616 := HXS.out _ (List.mem_of_getElem? hp)
        have HP := hid hp
        obtain ⟨w5, hw5, hb5, hs5, hl5⟩ := laid wr #[.int .u64 0, .int .u64 0, .int .u64 0, .int .u64 0] 38
        obtain ⟨B, hB⟩ : ∃ X, wr.heap.size = X := ⟨_, rfl⟩
        rw [hB] at hl5
        obtain ⟨w6, hw6, a1, a2, a3⟩ := put4 hl5 (.int .u64 ((p0 : Nat) : Int)) (.int .u64 ((p1 : Nat) : Int)) (.int .u64 ((p2 : Nat) : Int)) (.int .u64 ((p3 : Nat) : Int))
        obtain ⟨z0, zf0, z1, zf1, z2, zf2, z3, zf3⟩ := fcl4 hl5
        have HB6 := hid a1
        have hVB : V.heap.size ≤ B := by have := hF.out.below.size; omega
        have HF6 : Hid (Ft V X Y #[.slice wa M.W.length wc, .slice la M.L.length lc, .bool M.F] #[.int .u64 ((t0 : Nat) : Int), .int .u64 ((t1 : Nat) : Int), .int .u64 ((t2 : Nat) : Int), .int .u64 ((t3 : Nat) : Int)] (wordsL head (xs.take k)) v9 w6) := hid (by
          have g := hF.out.grow hb5
          have hX := lt_laid hF.out.bx
          have hY := lt_laid hF.out.by_
          exact ⟨a2 X _ (by omega) g.bx, a2 Y _ (by omega) g.by_, own_keep g.r9 fun j o hj ho => a2 j o (by have := own_lt hF.out.r9 j hj; omega) ho, a3 _ _ hVB g.below⟩)
        have HW6 := hid hw6
        have HTK : Hid (wordsL head (xs.take (k + 1)) = wordsL head (xs.take k) ++ [posL p0 0, posL p0 1, posL p0 2, posL p0 3]) := hid (by unfold wordsL; rw [take_snoc hp, List.flatMap_append]; simp)
        have hlen : Hid ((wordsL head (xs.take k)).length ≤ 30000) := hid (by unfold wordsL; rw [List.length_cons, flat4_len, List.length_take, HN.out]; omega)
        clear hw6 a1 a2 a3 hb5 hs5 hl5 hcc hat hp hF
        obtain ⟨G, hG⟩ : ∃ G, G = gk - 1 := ⟨_, rfl⟩
        have HG := hid hG
        clear hG
        go_upto_region 8 with (fail)
        rw [← HW6.out]
        clear c0 c1 c2 c3 z0 z1 z2 z3 zf0 zf1 zf2 zf3 HW6
        go_wp2
        go_loopg [9, 29] 4 (fun g t9 t29 wr => ∃ (j : Nat) (v9 : Value), g + j = 4 ∧ t29 = .int .i64 ((j : Nat) : Int) ∧ v9 = t9 ∧ Hid (Ft V X Y #[.slice wa M.W.length wc, .slice la M.L.length lc, .bool M.F] #[.int .u64 ((t0 : Nat) : Int), .int .u64 ((t1 : Nat) : Int), .int .u64 ((t2 : Nat) : Int), .int .u64 ((t3 : Nat) : Int)] (wordsL head (xs.take k) ++ [posL p0 0, posL p0 1, posL p0 2, posL p0 3].take j) v9 wr) ∧ Hid (wr.heap[B]? = some (.cells #[.int .u64 ((p0 : Nat) : Int), .int .u64 ((p1 : Nat) : Int), .int .u64 ((p2 : Nat) : Int), .int .u64 ((p3 : Nat) : Int)] 38 (0, 0))))
        case atStart => exact ⟨0, _, rfl, rfl, rfl, hid (by have := HF6.out; simpa using this), HB6⟩
        case round =>
          clear HF6 HB6
          obtain ⟨j, v9, hj, rfl, rfl, hF, hBB⟩ := hrel
          have HJ := hid hj
          clear hj
          by_cases hjt : j < 4
          · obtain ⟨m, hm⟩ : ∃ m, (wordsL head (xs.take k) ++ [posL p0 0, posL p0 1, posL p0 2, posL p0 3].take j).length = m := ⟨_, rfl⟩
            have hm6 : m ≤ 40000 := by rw [← hm, List.length_append, List.length_take]; have := hlen.out; omega
            obtain ⟨x9, y9, e9, -⟩ := Leads.of_own hF.out.r9
            rw [hm] at e9
            subst e9
            have b0 := cell_laid (i := 0) hBB.out rfl
            obtain ⟨P, hP⟩ : ∃ q, posL p0 j = q := ⟨_, rfl⟩
            have HAP := hid (at_any p0 j wr hp0 (by omega))
            rw [hP] at HAP
            have HPJ := hid (four_snoc p0 j hjt)
            rw [hP] at HPJ
            have HM := hid hm
            clear hP hm
            go_wp2_with fail
            refine HAP.out.mono ?_
            rintro e wq ⟨rfl, hwq⟩
            rw [hwq]
            clear hwq wq HAP
            obtain ⟨w7, hw7, hb7, hs7, hl7⟩ := laid wr #[.int .i64 ((P : Nat) : Int)] 3
            obtain ⟨Z, hZ⟩ : ∃ X, wr.heap.size = X := ⟨_, rfl⟩
            rw [hZ] at hl7
            have HLZ := hid hl7
            have HFZ := hid (hF.out.grow hb7)
            have HBZ := hid (keep_laid hBB.out hb7)
            have HOW : Hid (w7.ownsRow V.heap.size 3 1 (.slice x9 m y9) m (ncells (wordsL head (xs.take k) ++ [posL p0 0, posL p0 1, posL p0 2, posL p0 3].take j))) := hid (by have := HFZ.out.r9; rw [HM.out] at this; exact this)
            clear hb7 hs7 hl7 b0
            go_wp2_with ((with_reducible show wpList _ _ _ _ _ _); refine wp_appendM elemInts rfl (.tmp 32) (.tmp 37) rfl V.heap.size (.slice x9 m y9) m (ncells (wordsL head (xs.take k) ++ [posL p0 0, posL p0 1, posL p0 2, posL p0 3].take j)) rfl HOW.out ⟨Z, 0, none⟩ 1 1 [.int .i64 ((P : Nat) : Int)] rfl rfl ?c1 ?c2 ?c3 ?c4 ?c5)
            case c1 => intro j u hj; refine cell_add (o := 0) (by rw [Nat.zero_add]; exact cell_laid HLZ.out (by simpa using hj))
            case c2 => first | (intro u hu; simp at hu; subst hu; rfl) | omega
            try (case c3 => omega)
            try (case c4 => exact HFZ.out.below.size)
            case c5 =>
              intro v' w8 ho hg hmv
              have HF8 := hid (HFZ.out.app (q := P) (v9' := v') (by rw [HM.out]; exact ho) hg)
              have HB8 := hid (keep_grown HBZ.out hg (own_ne HOW.out HBZ.out (by decide)))
              obtain ⟨x9', y9', e9, -⟩ := Leads.of_own ho
              subst e9
              clear ho hg hmv HFZ HLZ HOW HBZ hF hBB
              go_wp2
              go_roundg (gk - 1)
              case measure => have := HJ.out; omega
              case rel => exact ⟨j + 1, _, by have := HJ.out; omega, by go_num, rfl, hid (by have := HF8.out; rw [HPJ.out, ← List.append_assoc]; exact this), HB8⟩
          · have e4 : j = 4 := by have := HJ.out; omega
            subst e4
            have HF9 : Hid (Ft V X Y #[.slice wa M.W.length wc, .slice la M.L.length lc, .bool M.F] #[.int .u64 ((t0 : Nat) : Int), .int .u64 ((t1 : Nat) : Int), .int .u64 ((t2 : Nat) : Int), .int .u64 ((t3 : Nat) : Int)] (wordsL head (xs.take (k + 1))) v9 wr) := hid (by have := hF.out; rw [HTK.out]; exact this)
            clear hF
            go_wp2
            go_roundg G
            case measure => have := HK.out; have := HG.out; omega
            case rel => exact ⟨k + 1, _, by have := HK.out; have := HG.out; omega, by go_num, rfl, HF9⟩
      · have e := HK.out
        obtain rfl : k = n := by omega
        have HF5 : Hid (Ft V X Y #[.slice wa M.W.length wc, .slice la M.L.length lc, .bool M.F] #[.int .u64 ((t0 : Nat) : Int), .int .u64 ((t1 : Nat) : Int), .int .u64 ((t2 : Nat) : Int), .int .u64 ((t3 : Nat) : Int)] (wordsL head xs) v9 wr) := hid (by have := hF.out; rw [List.take_of_length_le (by rw [HN.out]; exact Nat.le_refl _)] at this; exact this)
        have hlen : Hid ((wordsL head xs).length ≤ 30000) := hid (by unfold wordsL; rw [List.length_cons, flat4_len, HN.out]; omega)
        clear hF e HK
        obtain ⟨m, hm⟩ : ∃ m, (wordsL head xs).length = m := ⟨_, rfl⟩
        obtain ⟨x9, y9, e9, -⟩ := Leads.of_own HF5.out.r9
        rw [hm] at e9
        subst e9
        have HM := hid hm
        clear hm
        obtain ⟨U, hU⟩ : ∃ U, wr = U := ⟨_, rfl⟩
        subst hU
        have HCO := hid (fun (q : Nat) => Contains_any (wordsL head xs) x9 m y9 q wr (by have := Leads.of_own HF5.out.r9; obtain ⟨a', c', e, hl⟩ := this; cases e; rw [HM.out] at hl; exact hl) HM.out)
        obtain ⟨x0, x1, x2⟩ := cells3 HF5.out.bx
        have y0 := cell_laid (i := 0) HF5.out.by_ rfl
        have HLV : Hid (∀ q b, q < M.W.length → M.L[q]? = some b → ∃ bb oo, la = some ⟨bb, oo, none⟩ ∧ wr.cell? ⟨bb, oo + q, none⟩ = some (.bool b)) := hid (fun q b hq hb => by
          obtain ⟨bb, oo, e, -, hc⟩ := HML.out.at (by rw [HMN.out]; exact hq) (bcell_at hb)
          exact ⟨bb, oo, e, hc _ (HF5.out.below.mono (by exact Nat.le_refl _))⟩)
        obtain ⟨wn, hwn⟩ : ∃ n, M.W.length = n := ⟨_, rfl⟩
        rw [HMN.out] at x1 hll ⊢
        rw [hwn] at x0 x1 hwl hll hn4 HLV ⊢
        have HWN := hid hwn
        clear hwn hlt
        go_wp2
        go_loopg [41] 4 (fun g t41 w => ∃ j : Nat, g + j = 4 ∧ t41 = .int .i64 ((j : Nat) : Int) ∧ w = wr ∧ Hid (RES = (List.range' j g).all fun k => liveN M (posL t0 k) && !decide (posL t0 k ∈ wordsL head xs)))
        case atStart => exact ⟨0, rfl, rfl, rfl, HFI2⟩
        case round =>
          clear HFI2
          obtain ⟨j, hj, rfl, hw, hR⟩ := hrel
          subst hw
          have HJ := hid hj
          clear hj
          by_cases hjt : j < 4
          · obtain ⟨g1, hg1⟩ : ∃ g1, gk = g1 + 1 := ⟨gk - 1, by have := HJ.out; omega⟩
            obtain ⟨P, hP⟩ : ∃ q, posL t0 j = q := ⟨_, rfl⟩
            have hR2 := hR.out
            rw [hg1, List.range'_succ, List.all_cons, hP] at hR2
            have HR2 := hid hR2
            have HG1 := hid hg1
            have HAP := hid (fun W => at_any t0 j W ht (by omega))
            rw [hP] at HAP
            have hp46 : P ≤ 1000000 := by rw [← hP]; unfold posL; omega
            clear hR2 hR hg1 hP
            by_cases hw : wn ≤ P
            · have q1 : decide (((wn : Nat) : Int) ≤ ((P : Nat) : Int)) = true := decide_eq_true (by omega)
              have HE : Hid (RES = false) := hid (by
                have e : liveN M P = false := by unfold liveN; rw [List.getElem?_eq_none (by rw [HMN.out, HWN.out]; exact hw)]; rfl
                rw [HR2.out, e]; rfl)
              have hPn : ¬ P < wn := by omega
              clear hw
              go_wp2_with fail
              refine (HAP.out _).mono ?_
              rintro e wq ⟨rfl, hwq⟩
              rw [hwq]
              clear hwq wq HAP
              go_wp2
              go_ret
              exact ⟨retb HE.out.symm, HF5.out.below⟩
            · have q1 : decide (((wn : Nat) : Int) ≤ ((P : Nat) : Int)) = false := decide_eq_false (by omega)
              obtain ⟨bv, hbv⟩ : ∃ x, M.L[P]? = some x := ⟨_, List.getElem?_eq_getElem (by rw [HMN.out, HWN.out]; omega)⟩
              obtain ⟨bb, oo, rfl, f1⟩ := HLV.out P bv (by omega) hbv
              have hPw : P < wn := by omega
              have HLI : Hid (liveN M P = bv) := hid (by unfold liveN; rw [hbv]; rfl)
              clear hbv hw
              cases bv with
              | false =>
                have HE : Hid (RES = false) := hid (by rw [HR2.out, HLI.out]; rfl)
                go_wp2_with fail
                refine (HAP.out _).mono ?_
                rintro e wq ⟨rfl, hwq⟩
                rw [hwq]
                clear hwq wq HAP
                go_wp2
                go_ret
                exact ⟨retb HE.out.symm, HF5.out.below⟩
              | true =>
                have HCP := hid (HCO.out P)
                obtain ⟨B, hB⟩ : ∃ b, decide (P ∈ wordsL head xs) = b := ⟨_, rfl⟩
                rw [hB] at HCP
                have HR3 : Hid (RES = (!B && (List.range' (j + 1) g1).all fun k => liveN M (posL t0 k) && !decide (posL t0 k ∈ wordsL head xs))) := hid (by rw [HR2.out, HLI.out, hB, Bool.true_and])
                clear hB
                go_wp2_with fail
                refine (HAP.out _).mono ?_
                rintro e wq ⟨rfl, hwq⟩
                rw [hwq]
                clear hwq wq HAP
                go_wp2_with fail
                refine HCP.out.mono ?_
                rintro e wq ⟨rfl, hwq⟩
                rw [hwq]
                clear hwq wq HCP
                cases B with
                | true =>
                  have HE : Hid (RES = false) := hid (by rw [HR3.out]; rfl)
                  go_wp2
                  go_ret
                  exact ⟨retb HE.out.symm, HF5.out.below⟩
                | false =>
                  have HE : Hid (RES = (List.range' (j + 1) g1).all fun k => liveN M (posL t0 k) && !decide (posL t0 k ∈ wordsL head xs)) := hid (by rw [HR3.out]; rfl)
                  go_wp2
                  go_roundg (gk - 1)
                  case measure => have := HJ.out; omega
                  case rel => exact ⟨j + 1, by have := HJ.out; omega, by go_num, rfl, hid (by rw [show gk - 1 = g1 by have := HG1.out; omega]; exact HE.out)⟩
          · have e0 : gk = 0 := by have := HJ.out; omega
            have HE : Hid (RES = true) := hid (by rw [hR.out, e0]; rfl)
            clear e0 hR
            go_wp2
            go_ret
            exact ⟨retb HE.out.symm, HF5.out.below⟩
end Go.Proofs.Ytdkkjcflcegeoaa
