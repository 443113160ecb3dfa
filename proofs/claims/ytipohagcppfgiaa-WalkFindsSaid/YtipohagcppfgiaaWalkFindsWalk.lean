/- Walk (printed by gen_wkfinds.py): WalkFinds. -/
import Derived.Test.YtipohagcppfgiaaWkIdx
import Derived.Test.YtipohagcppfgiaaWkP
namespace Go.Proofs.Ytipohagcppfgiaa
open Go.RowKit
open Go.Proofs
set_option linter.unusedVariables false
attribute [local go_sem] Oper.semAt_some
theorem icells_lenF (ps : List Int) : (icells ps).length = ps.length := by unfold icells; rw [List.length_map]
theorem icells_takeF (ps : List Int) (k : Nat) : (icells ps).take k = icells (ps.take k) := by unfold icells; rw [List.map_take]
theorem afterP_ofF {w : Wal} (h : (wFault w).2 = 0) {n : Nat} (hn : n ≤ w.J.length) : afterP w ((n : Nat) : Int) = (afterL (wFault w).1 (w.J.take n), 0) := by
  unfold afterP
  rw [if_neg (by omega), if_neg (by omega)]
  rfl
/-- What the inner loop has gathered. -/
structure FInv (xs0 : List Nd) (J : List Jb) (k : Nat × Nat) (d j : Nat) (A N : Bool) (vs : List Nat) : Prop where
  a : A = true → ∀ m, m < j → m ≤ d → KeyIn (afterL xs0 (J.take m)) k
  n : N = true → ∀ m, m < j → ¬ KeyIn (afterL xs0 (J.take m)) k
  v : ∀ m, m < j → ∀ x ∈ afterL xs0 (J.take m), x.2.2.2 = k.1 → x.2.1 = k.2 → x.2.2.1 ∈ vs
theorem FInv.zero (xs0 : List Nd) (J : List Jb) (k : Nat × Nat) (d : Nat) : FInv xs0 J k d 0 true true [] := ⟨fun _ m h => by omega, fun _ m h => by omega, fun m h => by omega⟩
theorem FInv.none {xs0 : List Nd} {J : List Jb} {k : Nat × Nat} {d j : Nat} {A N : Bool} {vs : List Nat} (h : FInv xs0 J k d j A N vs) {B : Bool} (hB : B = true → d < j) (hq : ∀ x ∈ afterL xs0 (J.take j), (decide (x.2.2.2 = k.1) && decide (x.2.1 = k.2)) = false) : FInv xs0 J k d (j + 1) (A && B) N vs := by
  have hn : ∀ x ∈ afterL xs0 (J.take j), ¬ (x.2.2.2 = k.1 ∧ x.2.1 = k.2) := fun x hx e => by have := hq x hx; rw [decide_eq_true e.1, decide_eq_true e.2] at this; cases this
  refine ⟨fun hA m hm hd => ?_, fun hN m hm hk => ?_, fun m hm x hx e1 e2 => ?_⟩
  · rw [Bool.and_eq_true] at hA
    have := hB hA.2
    exact h.a hA.1 m (by omega) hd
  · by_cases hj : m = j
    · subst hj
      obtain ⟨x, hx, e1, e2⟩ := hk
      exact hn x hx ⟨e1, e2⟩
    · exact h.n hN m (by omega) hk
  · by_cases hj : m = j
    · subst hj; exact absurd ⟨e1, e2⟩ (hn x hx)
    · exact h.v m (by omega) x hx e1 e2
theorem FInv.some {xs0 : List Nd} {J : List Jb} {k : Nat × Nat} {d j : Nat} {A N : Bool} {vs : List Nat} (h : FInv xs0 J k d j A N vs) (hi : incr xs0 = true) {l1 l2 : List Nd} {t : Nd} (e : afterL xs0 (J.take j) = l1 ++ t :: l2) (ht : (decide (t.2.2.2 = k.1) && decide (t.2.1 = k.2)) = true) : FInv xs0 J k d (j + 1) A false (vs ++ [t.2.2.1]) := by
  rw [Bool.and_eq_true, decide_eq_true_iff, decide_eq_true_iff] at ht
  have hm : t ∈ afterL xs0 (J.take j) := by rw [e]; exact List.mem_append_right _ (List.mem_cons_self ..)
  refine ⟨fun hA m hm' hd => ?_, fun hN => (by cases hN), fun m hm' x hx e1 e2 => ?_⟩
  · by_cases hj : m = j
    · subst hj; exact ⟨t, hm, ht.1, ht.2⟩
    · exact h.a hA m (by omega) hd
  · by_cases hj : m = j
    · subst hj
      have := incr_one (afterL_incr hi _) hx hm (e1.trans ht.1.symm) (e2.trans ht.2.symm)
      rw [this]; exact List.mem_append_right _ (List.mem_singleton.2 rfl)
    · exact List.mem_append_left _ (h.v m (by omega) x hx e1 e2)
theorem split_at (q : Nd → Bool) : ∀ xs : List Nd, (∀ x ∈ xs, q x = false) ∨ ∃ l1 t l2, xs = l1 ++ t :: l2 ∧ (∀ x ∈ l1, q x = false) ∧ q t = true
  | [] => .inl (by simp)
  | x :: xs => by
    cases hx : q x with
    | true => exact .inr ⟨[], x, xs, rfl, by simp, hx⟩
    | false =>
      rcases split_at q xs with h | ⟨l1, t, l2, e, h1, h2⟩
      · exact .inl fun y hy => by rcases List.mem_cons.1 hy with rfl | hy; exact hx; exact h y hy
      · exact .inr ⟨x :: l1, t, l2, by rw [e]; rfl, fun y hy => by rcases List.mem_cons.1 hy with rfl | hy; exact hx; exact h1 y hy, h2⟩
set_option maxRecDepth 100000 in
set_option maxHeartbeats 16000000 in
theorem wfinds_walk (w : Wal) (ps : List Int) (pa wa la ja ka : Option Addr) (np pc wc lc jc kc nj nk : Nat) (V : World) (h : WalL V wa wc la lc ja nj jc ka nk kc w) (hp : Leads V pa np pc (icells ps)) (hnp : ps.length = np) (hpo : ∀ n ∈ ps, -9223372036854775808 ≤ n ∧ n ≤ 9223372036854775807) :
    Calls Try.prog 4 #[walV wa wc la lc ja nj jc ka nk kc w, .slice pa np pc] V (Ret (.bool true) V) := by
  have HOK := hid h.ok.own
  have HOWN : Hid (∀ W : World, Below V.heap.size V W → Calls Try.prog 6 #[walV wa wc la lc ja nj jc ka nk kc w] W (GivesWl (ownW w) W)) := hid (fun W hb => wown_any w wa la ja ka wc lc jc kc nj nk W (h.grow hb))
  obtain ⟨o, ho⟩ : ∃ x, ownW w = x := ⟨_, rfl⟩
  rw [ho] at HOWN HOK
  unfold walV at HOWN ⊢
  obtain ⟨hd, hhd⟩ : ∃ x, w.head = x := ⟨_, rfl⟩
  obtain ⟨wl, hwl'⟩ : ∃ x, w.M.W.length = x := ⟨_, rfl⟩
  obtain ⟨ll, hll'⟩ : ∃ x, w.M.L.length = x := ⟨_, rfl⟩
  obtain ⟨F, hf⟩ : ∃ x, w.M.F = x := ⟨_, rfl⟩
  rw [hhd, hwl', hll', hf] at HOWN ⊢
  obtain ⟨V1, hV1, hb1, hs1, hl1⟩ := laid V (wal8 wa wl wc la ll lc F hd ja nj jc ka nk kc) 30
  obtain ⟨X, hX⟩ : ∃ X, V.heap.size = X := ⟨_, rfl⟩
  rw [hX] at hl1
  have HX := hid hl1
  have HB := hid hb1
  have HPL := hid hp
  have HPN := hid hnp
  have HPO := hid hpo
  have hplen := hp.len
  have hpcap := hp.1
  obtain ⟨m, hm⟩ : ∃ x, min np 200 = x := ⟨_, rfl⟩
  have hmi : min ((np : Nat) : Int) 200 = ((m : Nat) : Int) := by omega
  have hmn : m ≤ np := by omega
  have hm50 : m ≤ 200 := by omega
  have hmc : m ≤ pc := by omega
  clear h hb1 hs1 hl1 hhd hwl' hll' hf ho hp hnp hpo hm
  go_enter Try.func4, Try.ntmps4
  go_wp2_with fail
  refine (wakes_any V1).mono ?_
  rintro e w1 ⟨rfl, hb⟩
  have HX1 := hid (keep_laid HX.out hb)
  have HB1 := hid (HB.out.trans (hb.mono HB.out.size))
  clear hb HX HB
  go_wp2_with (refine wp_loadW rfl 30 (.tmp 2) rfl X _ rfl _ HX1.out _ Try.underlying30 rfl (by kernel_rfl) ?_; intro v hv; subst hv)
  refine (HOWN.out w1 HB1.out).mono ?_
  rintro e w2 ⟨wa0, wc0, la0, lc0, ja0, jc0, ka0, kc0, rfl, hO⟩
  have HB2 := hid (HB1.out.trans (hO.below.mono HB1.out.size))
  obtain ⟨w3, hw3, hb3, hs3, hl3⟩ := laid w2 #[.slice none 0 0, .slice none 0 0, .bool false, .int .u64 0, .slice none 0 0, .slice none 0 0] 30
  obtain ⟨Wb, hWb⟩ : ∃ X, w2.heap.size = X := ⟨_, rfl⟩
  rw [hWb] at hl3
  have KW3 := hid hl3
  have HB3 := hid hb3
  have HO2 := hid hO
  have hVW : V.heap.size ≤ w2.heap.size := HB2.out.size
  clear hO hb3 hs3 hl3 HOWN HX1 HB1 hX
  unfold walV
  go_upto_region 4 with (refine wp_storeP rfl 30 (.tmp 5) (.tmp 20) rfl Wb 0 _ (wal8 wa0 o.M.W.length wc0 la0 o.M.L.length lc0 o.M.F o.head ja0 o.J.length jc0 ka0 o.K.length kc0) _ rfl rfl _ KW3.out (by kernel_rfl) (Nat.le_of_ble_eq_true rfl) (by kernel_rfl) rfl ?_; intro w4 a1 a2 a3 a4; have KW := hid a1; have hbx := a3 _ _ (Nat.le_of_eq hWb) HB3.out; have HB4 := hid (HB2.out.trans (hbx.mono hVW)); have HO := hid (HO2.out.grow hbx); clear a1 a2 a3 a4 hbx KW3 HB3 HB2 HO2; (try simp only [Act.put]))
  clear hw3 hWb
  obtain ⟨E, hE⟩ : ∃ x, (wFault o).2 = x := ⟨_, rfl⟩
  have HE := hid hE
  have HPY := hid (Play_any o (ps.take m) pa wa0 la0 ja0 ka0 m pc wc0 lc0 jc0 kc0 _ _ w4 (HO.out.walL HOK.out) (by rw [← icells_takeF]; exact ((HPL.out.grow HB4.out)).vtake (by rw [icells_lenF]; exact HPN.out) hmn) (by rw [List.length_take, HPN.out]; omega) (fun n hn => HPO.out n (List.mem_of_mem_take hn)) (by omega))
  have hp2 : (playP o (ps.take m)).2 = E := by
    unfold playP
    rw [hE]
    by_cases h0 : E = 0
    · rw [if_neg (by simp [h0])]; exact h0.symm
    · rw [if_pos h0]
  rw [hp2] at HPY
  obtain ⟨g, hg⟩ : ∃ x, (playP o (ps.take m)).1 = x := ⟨_, rfl⟩
  rw [hg] at HPY
  have HG := hid hg
  unfold walV at HPY
  clear hE hp2 hg
  go_wp2_with (refine wp_loadW rfl 30 (.tmp 5) rfl Wb _ rfl _ KW.out _ Try.underlying30 rfl (by kernel_rfl) ?_; intro v hv; subst hv)
  refine HPY.out.mono ?_
  rintro e w5 ⟨v5, rfl, hg5⟩
  obtain ⟨wa', wc', la', lc', ra', rc', rfl, hmo, hrd, hb5⟩ := hg5
  have HR5 := hid (Leads.of_own1 hrd)
  have KW5 := hid (keep_laid KW.out hb5)
  have HB5 := hid (HB4.out.trans (hb5.mono HB4.out.size))
  have HO5 := hid (HO.out.grow hb5)
  clear hb5 hmo hrd KW HB4 HO HPY
  obtain ⟨w6, hw6, hb6, hs6, hl6⟩ := laid w5 #[.slice none 0 0, .slice none 0 0, .bool false, .int .i64 0, .bool false, .int .i64 0, .bool false, .int .u64 0, .int .u64 0, .int .u64 0, .int .u64 0, .int .u64 0, .int .u64 0, .int .i64 0, .int .u64 0, .int .u64 0, .int .u64 0, .int .u64 0, .int .u64 0, .bool false, .slice none 0 0] 44
  obtain ⟨Tb, hTb⟩ : ∃ X, w5.heap.size = X := ⟨_, rfl⟩
  rw [hTb] at hl6
  have KT6 := hid hl6
  have HBX6 := hid hb6
  clear hb6 hs6 hl6
  go_upto_region 6 with (refine wp_storeP rfl 44 (.tmp 6) (.tmp 30) rfl Tb 0 _ (w21 wa' g.M.W.length wc' la' g.M.L.length lc' g.M.F g.done g.edits g.ed g.wr ra' g.R.length rc') _ rfl rfl _ KT6.out (by kernel_rfl) (Nat.le_of_ble_eq_true rfl) (by kernel_rfl) rfl ?_; intro w7 a1 a2 a3 a4; have KT7 := hid a1; have hbx := a3 _ _ (Nat.le_of_eq hTb) HBX6.out; have KW7 := hid (keep_laid KW5.out hbx); have HR7 := hid (HR5.out.grow hbx); have HB7 := hid (HB5.out.trans (hbx.mono HB5.out.size)); have HO7 := hid (HO5.out.grow hbx); clear a1 a2 a3 a4 hbx KT6 HBX6 KW5 HB5 HO5 HR5; (try simp only [Act.put]))
  clear hw6 hTb
  by_cases hE0 : E = 0
  · subst hE0
    have HGG : Hid (g = playG o (ps.take m)) := hid (by rw [← HG.out]; unfold playP; rw [if_neg (by rw [HE.out]; simp)])
    have HFL := hid (finds_law HE.out HOK.out (ps.take m))
    rw [← HGG.out] at HFL
    have HHL := hid (has_law HE.out HOK.out (ps.take m))
    rw [← HGG.out] at HHL
    have HJ := hid (wFault_ok HE.out)
    have hrl := HR7.out.len
    have t20 := cell_laid (i := 20) KT7.out rfl
    obtain ⟨rn, hrn⟩ : ∃ x, g.R.length = x := ⟨_, rfl⟩
    rw [hrn] at t20 hrl HR7 KT7
    have HRN := hid hrn
    clear hrn
    go_wp2
    clear t20
    go_loopg [41] rn (fun g i wr => ∃ (k : Nat), g + k = rn ∧ i = .int .i64 ((k : Nat) : Int) ∧ Hid (Below w7.heap.size w7 wr))
    case atStart => exact ⟨0, rfl, rfl, hid (Below.refl _ _)⟩
    case round =>
      obtain ⟨i, hk, rfl, hbr⟩ := hrel
      have HI := hid hk
      have HBR := hid hbr.out
      clear hk hbr
      by_cases hlt : i < rn
      · have tl : decide (((i : Nat) : Int) < ((rn : Nat) : Int)) = true := decide_eq_true (by omega)
        obtain ⟨r, hr⟩ : ∃ x, g.R[i]? = some x := ⟨_, List.getElem?_eq_getElem (by rw [HRN.out]; exact hlt)⟩
        obtain ⟨k, hki, h5, h4a, h4b⟩ := HFL.out.2 i r hr
        have HKI := hid hki
        have H4A := hid h4a
        have H4B := hid h4b
        obtain ⟨rb, ro, rfl, hcc⟩ : ∃ b o, ra' = some ⟨b, o, none⟩ ∧ wr.rangeAt b (o + i * 7) [.int .i64 r.ph, .int .u64 ((r.hash : Nat) : Int), .int .u64 ((r.key : Nat) : Int), .int .u64 ((r.link : Nat) : Int), .int .u64 ((r.node : Nat) : Int), .int .u64 ((r.val : Nat) : Int), .bool r.found] := by
          obtain ⟨_, _, ⟨q, _⟩ | ⟨b, off, e, h3, h4⟩⟩ := HR7.out.grow HBR.out
          · omega
          · refine ⟨b, off, e, fun j v hv => ?_⟩
            have hj7 : j < 7 := (List.getElem?_eq_some_iff.1 hv).1
            have := h4 (i * 7 + j) v (by rw [skcell_at hr j hj7]; exact hv)
            rwa [← Nat.add_assoc] at this
        have HCC := hid hcc
        clear hcc hr hki h4a h4b
        obtain ⟨w8, hw8, hb8, hs8, hl8⟩ := laid wr #[.int .i64 0] 3
        obtain ⟨Ib, hIb⟩ : ∃ X, wr.heap.size = X := ⟨_, rfl⟩
        rw [hIb] at hl8
        obtain ⟨w9, hw9, hb9, hs9, hl9⟩ := laid w8 #[.int .i64 0, .int .u64 0, .int .u64 0, .int .u64 0, .int .u64 0, .int .u64 0, .bool false] 41
        obtain ⟨Sb, hSb⟩ : ∃ X, w8.heap.size = X := ⟨_, rfl⟩
        rw [hSb] at hl9
        have hIS : Ib < Sb := by have := lt_laid hl8; omega
        have KI9 := hid (keep_laid hl8 hb9)
        have KS9 := hid hl9
        have HB9 := hid (hb8.trans (hb9.mono hb8.size))
        have hrI : wr.heap.size ≤ Ib := by omega
        have hrS : wr.heap.size ≤ Sb := by omega
        clear hb8 hs8 hl8 hb9 hs9 hl9
        go_upto_region 11 with (first
          | (refine wpList_load_mid rfl 41 (.tmp 44) rfl rb (ro + i * 7) rfl [.int .i64 r.ph, .int .u64 ((r.hash : Nat) : Int), .int .u64 ((r.key : Nat) : Int), .int .u64 ((r.link : Nat) : Int), .int .u64 ((r.node : Nat) : Int), .int .u64 ((r.val : Nat) : Int), .bool r.found] _ HCC.out Try.underlying41 rfl (by kernel_rfl) ?_)
          | (refine wp_storeP rfl 3 (.tmp 8) (.tmp 43) rfl Ib 0 _ #[.int .i64 ((i : Nat) : Int)] _ rfl rfl _ KI9.out (by kernel_rfl) (Nat.le_of_ble_eq_true rfl) (by kernel_rfl) rfl ?_; intro wA a1 a2 a3 a4; have KIA := hid a1; have KSA := hid (a2 Sb _ (by omega) KS9.out); have HBA := hid (a3 _ _ hrI HB9.out); clear a1 a2 a3 a4 KI9 KS9 HB9; (try simp only [Act.put]))
          | (refine wp_storeP rfl 41 (.tmp 9) (.tmp 45) rfl Sb 0 _ [.int .i64 r.ph, .int .u64 ((r.hash : Nat) : Int), .int .u64 ((r.key : Nat) : Int), .int .u64 ((r.link : Nat) : Int), .int .u64 ((r.node : Nat) : Int), .int .u64 ((r.val : Nat) : Int), .bool r.found].toArray _ rfl rfl _ KSA.out (by kernel_rfl) (Nat.le_of_ble_eq_true rfl) (by kernel_rfl) rfl ?_; intro wB a1 a2 a3 a4; have KSB := hid a1; have KIB := hid (a2 Ib _ (by omega) KIA.out); have HBB := hid (a3 _ _ hrS HBA.out); clear a1 a2 a3 a4 KIA KSA HBA; (try simp only [Act.put])))
        have HRB := hid (HBR.out.trans (HBB.out.mono HBR.out.size))
        have KWB := hid (keep_laid KW7.out HRB.out)
        have KTB := hid (keep_laid KT7.out HRB.out)
        have s0 := cell_laid (i := 0) KSB.out rfl
        have q5 : (r.ph == 5) = false := by rw [Bool.eq_false_iff, ne_eq, beq_iff_eq]; exact h5
        clear hw8 hIb hw9 hSb HBB h5
        by_cases hp4 : r.ph = 4
        · have q4 : (r.ph != 4) = false := by simp [hp4]
          have H4C := hid (H4A.out hp4)
          have x3 := cell_laid (i := 3) KTB.out rfl
          have y4 := cell_laid (i := 4) KWB.out rfl
          have hdn : g.done ≤ o.J.length := HHL.out.2.1
          have hj16 : o.J.length ≤ 16 := HJ.out.2.2.1
          obtain ⟨lm, hlm⟩ : ∃ x, min (g.done + 1) o.J.length = x := ⟨_, rfl⟩
          have hmin : min (((g.done : Nat) : Int) + 1) ((o.J.length : Nat) : Int) = ((lm : Nat) : Int) := by omega
          have hmin' : min (((g.done + 1 : Nat)) : Int) ((o.J.length : Nat) : Int) = ((lm : Nat) : Int) := by omega
          have hlmJ : lm ≤ o.J.length := by omega
          have hlmd : g.done ≤ lm := by omega
          obtain ⟨G, hG⟩ : ∃ x, x = gk - 1 := ⟨_, rfl⟩
          have HGK := hid hG
          clear hlm hp4 H4A hG
          go_wp2
          clear q5 q4 s0 x3 y4 tl
          go_loopg [10, 11, 12, 60] (lm + 1) (fun g' t10 t11 t12 t60 wr' => ∃ (j : Nat) (A N : Bool) (vs : List Nat) (n : Nat) (va : Option Addr) (vc : Nat), g' + j = lm + 1 ∧ t60 = .int .i64 ((j : Nat) : Int) ∧ t10 = .bool A ∧ t11 = .bool N ∧ t12 = .slice va n vc ∧ Hid (FInv (wFault o).1 o.J k g.done j A N vs ∧ vs.length = n ∧ n ≤ j ∧ wr'.ownsRow wB.heap.size 26 1 (.slice va n vc) n (wcells vs) ∧ Below wB.heap.size wB wr'))
          case atStart => exact ⟨0, true, true, [], 0, none, 0, rfl, rfl, rfl, rfl, rfl, hid ⟨FInv.zero _ _ _ _, rfl, Nat.le_refl _, World.ownsRow_nil _ _ _ _, Below.refl _ _⟩⟩
          case round =>
            obtain ⟨j, A, N, vs, n, va, vc, hj, rfl, rfl, rfl, rfl, hin⟩ := hrel
            have HJJ := hid hj
            have HIN := hid hin.out
            have hnj := HIN.out.2.2.1
            have hvl := (Leads.of_own1 HIN.out.2.2.2.1).len
            clear hj hin
            have HBI := hid HIN.out.2.2.2.2
            have KWI := hid (keep_laid KWB.out HBI.out)
            have KTI := hid (keep_laid KTB.out HBI.out)
            have KSI := hid (keep_laid KSB.out HBI.out)
            have KII := hid (keep_laid KIB.out HBI.out)
            have HRI := hid (HRB.out.trans (HBI.out.mono HRB.out.size))
            by_cases hjl : j < lm + 1
            · have tj : decide (((j : Nat) : Int) < (((lm + 1 : Nat)) : Int)) = true := decide_eq_true (by omega)
              have tj' : decide (((j : Nat) : Int) < ((lm : Nat) : Int) + 1) = true := decide_eq_true (by omega)
              have hjJ : j ≤ o.J.length := by omega
              have HA := hid (After_any o ((j : Nat) : Int) wa0 la0 ja0 ka0 wc0 lc0 jc0 kc0 _ _ wr ((HO7.out.grow HRI.out).walL HOK.out) (by omega))
              rw [afterP_ofF HE.out hjJ] at HA
              obtain ⟨L, hL⟩ : ∃ x, afterL (wFault o).1 (o.J.take j) = x := ⟨_, rfl⟩
              rw [hL] at HA
              have HLL := hid hL
              have hln : L.length ≤ 10000 := by
                have := afterL_len (wFault o).1 (o.J.take j)
                have h3 := (wFault_small HE.out).2
                rw [hL, List.length_take] at this
                omega
              unfold walV at HA
              clear hL
              go_wp2_with (refine wp_loadW rfl 30 (.tmp 5) rfl Wb _ rfl _ KWI.out _ Try.underlying30 rfl (by kernel_rfl) ?_; intro v hv; subst hv)
              refine HA.out.mono ?_
              rintro e wC ⟨lv, rfl, hrow, hb⟩
              dsimp only at hrow
              obtain ⟨lva, lvc, rfl, hlv⟩ := Leads.of_own hrow
              obtain ⟨ln, hlnn⟩ : ∃ x, L.length = x := ⟨_, rfl⟩
              rw [hlnn] at hlv hln ⊢
              have HL := hid hlv
              have HLN := hid hlnn
              have hlvl := hlv.len
              have HBC := hid (HBI.out.trans (hb.mono HBI.out.size))
              have HVC := hid (own_grow HIN.out.2.2.2.1 hb)
              have KWC := hid (keep_laid KWI.out hb)
              have KTC := hid (keep_laid KTI.out hb)
              have KIC := hid (keep_laid KII.out hb)
              have HOC := hid ((HO7.out.grow HRI.out).grow hb)
              clear hrow hlv hlnn hb HA KWI KTI KSI KII HRI HBI
              have HQ := hid (fun (t : Nd) (W : World) (hb : Below wC.heap.size wC W) => keyq_any t o i k wa0 la0 ja0 ka0 wc0 lc0 jc0 kc0 o.J.length o.K.length Wb Ib W (keep_laid KWC.out hb) (keep_laid KIC.out hb) ((HOC.out.grow hb).walL HOK.out).k rfl HKI.out)
              have x3 := cell_laid (i := 3) KTC.out rfl
              rcases split_at (fun x => decide (x.2.2.2 = k.1) && decide (x.2.1 = k.2)) L with hno | ⟨l1, t, l2, hl, h1, ht⟩
              · have HX := hid (IdxN_any L _ lva ln lvc Wb Ib wC HL.out HLN.out hln HQ.out hno)
                have HNO := hid hno
                obtain ⟨B, hB⟩ : ∃ b, decide (((g.done : Nat) : Int) < ((j : Nat) : Int)) = b := ⟨_, rfl⟩
                have hB' : decide (((j : Nat) : Int) > ((g.done : Nat) : Int)) = B := hB
                have hBn : decide (g.done < j) = B := by rw [← hB]; exact decide_eq_decide.2 (by omega)
                have HBT : Hid (B = true → g.done < j) := hid (fun h => by rw [← hB, decide_eq_true_iff] at h; omega)
                clear hno HQ x3
                go_wp2_with fail
                refine HX.out.mono ?_
                rintro e wD ⟨rfl, hb⟩
                have HBD := hid (HBC.out.trans (hb.mono HBC.out.size))
                have HVD := hid (own_grow HVC.out hb)
                have x3 := cell_laid (i := 3) (keep_laid KTC.out hb) rfl
                clear hb HX HBC HVC
                have HFN : Hid (FInv (wFault o).1 o.J k g.done (j + 1) (A && B) N vs) := hid (HIN.out.1.none HBT.out (by rw [HLL.out]; exact HNO.out))
                cases A with
                | true =>
                  go_wp2
                  go_roundg (gk - 1)
                  case measure => have := HJJ.out; omega
                  case rel => exact ⟨j + 1, B, N, vs, n, va, vc, by have := HJJ.out; omega, by go_num, by first | rfl | rw [hBn], rfl, rfl, hid ⟨HFN.out, HIN.out.2.1, by omega, HVD.out, HBD.out⟩⟩
                | false =>
                  go_wp2
                  go_roundg (gk - 1)
                  case measure => have := HJJ.out; omega
                  case rel => exact ⟨j + 1, false, N, vs, n, va, vc, by have := HJJ.out; omega, by go_num, rfl, rfl, rfl, hid ⟨HFN.out, HIN.out.2.1, by omega, HVD.out, HBD.out⟩⟩
              · have HX := hid (IdxK_any L l1 l2 t _ lva ln lvc Wb Ib wC HL.out HLN.out hln HQ.out hl h1 ht)
                have HFN : Hid (FInv (wFault o).1 o.J k g.done (j + 1) A false (vs ++ [t.2.2.1])) := hid (HIN.out.1.some (wFault_small HE.out).1 (by rw [HLL.out]; exact hl) ht)
                obtain ⟨p, hp⟩ : ∃ x, l1.length = x := ⟨_, rfl⟩
                have hpl : p < ln := by have h2 := congrArg List.length hl; rw [HLN.out, List.length_append, List.length_cons] at h2; omega
                have hpt : L[p]? = some t := by rw [hl, ← hp, List.getElem?_append_right (Nat.le_refl _), Nat.sub_self]; rfl
                rw [hp] at HX
                obtain ⟨t0, t1, t2, t3⟩ := t
                obtain ⟨lb, lo, rfl, -, hcc⟩ := HL.out.nd hpl hpt
                have HCL := hid hcc
                have tp : decide (((p : Nat) : Int) < 0) = false := decide_eq_false (by omega)
                clear hl h1 ht hp hpt hcc HQ x3
                go_wp2_with fail
                refine HX.out.mono ?_
                rintro e wD ⟨rfl, hb⟩
                obtain ⟨wE, hwE, hbE, hsE, hlE⟩ := laid wD #[.int .u64 ((t2 : Nat) : Int)] 26
                obtain ⟨Z, hZ⟩ : ∃ X, wD.heap.size = X := ⟨_, rfl⟩
                rw [hZ] at hlE
                have HLZ := hid hlE
                obtain ⟨f0, f1, f2, f3⟩ := HCL.out _ hb
                have HBE := hid ((HBC.out.trans (hb.mono HBC.out.size)).trans (hbE.mono (HBC.out.trans (hb.mono HBC.out.size)).size))
                have HVE := hid (own_grow (own_grow HVC.out hb) hbE)
                clear hb hbE hsE hlE HX HBC HVC HCL
                go_wp2_with ((with_reducible show wpList _ _ _ _ _ _); refine wp_append1 elemWords rfl (.tmp 83) (.tmp 89) rfl wB.heap.size (.slice va n vc) n (wcells vs) rfl HVE.out Z [.int .u64 ((t2 : Nat) : Int)] rfl rfl ?c1 ?c2 ?c3 ?c4 ?c5)
                case c1 => intro j u hj; exact cell_laid HLZ.out (by simpa using hj)
                case c2 => first | (intro u hu; simp at hu; subst hu; rfl) | omega
                try (case c3 => omega)
                try (case c4 => exact HBE.out.size)
                case c5 =>
                  intro v' wF ho hg hsz
                  have HBF := hid (HBE.out.trans (hg.mono (Nat.le_refl _)))
                  obtain ⟨xa, xc, e9, -⟩ := Leads.of_own ho
                  subst e9
                  have HVF : Hid (wF.ownsRow wB.heap.size 26 1 (.slice xa (n + 1) xc) (n + 1) (wcells (vs ++ [t2]))) := hid (by unfold wcells; rw [List.map_append]; exact ho)
                  clear ho hg hsz HVE HBE HLZ f0 f1 f2 f3
                  go_wp2
                  go_roundg (gk - 1)
                  case measure => have := HJJ.out; omega
                  case rel => exact ⟨j + 1, A, false, vs ++ [t2], n + 1, xa, xc, by have := HJJ.out; omega, by go_num, rfl, rfl, rfl, hid ⟨HFN.out, by rw [List.length_append, HIN.out.2.1]; rfl, by omega, HVF.out, HBF.out⟩⟩
            · have tj : decide (((j : Nat) : Int) < (((lm + 1 : Nat)) : Int)) = false := decide_eq_false (by omega)
              have tj' : decide (((j : Nat) : Int) < ((lm : Nat) : Int) + 1) = false := decide_eq_false (by omega)
              have hgl : ∀ x, x ≤ g.done → x < j := fun x hx => by have := HJJ.out; omega
              have HNF : Hid (r.found = true → N = false) := hid (fun hf => by
                cases hN : N with
                | false => rfl
                | true =>
                  obtain ⟨m', x, hm', hx, e1, e2, -⟩ := H4B.out hf
                  exact absurd ⟨x, hx, e1, e2⟩ (HIN.out.1.n hN m' (hgl m' hm')))
              have HAF : Hid (r.found = false → A = false) := hid (fun hf => by
                cases hA : A with
                | false => rfl
                | true =>
                  have := H4C.out (fun m' hm' => HIN.out.1.a hA m' (hgl m' hm') hm')
                  rw [hf] at this; cases this)
              have HVF : Hid (r.found = true → decide (r.val ∈ vs) = true) := hid (fun hf => by
                obtain ⟨m', x, hm', hx, e1, e2, e3⟩ := H4B.out hf
                have := HIN.out.1.v m' (hgl m' hm') x hx e1 e2
                rw [e3] at this
                exact decide_eq_true this)
              have HCU := hid (ContainsU_any vs va n vc r.val wr (Leads.of_own1 HIN.out.2.2.2.1) HIN.out.2.1)
              have s5 := cell_laid (i := 5) KSI.out rfl
              have s6 := cell_laid (i := 6) KSI.out rfl
              obtain ⟨fd, hfd⟩ : ∃ b, r.found = b := ⟨_, rfl⟩
              rw [hfd] at HNF HAF HVF s6
              clear hfd hgl
              cases fd with
              | true =>
                obtain rfl : N = false := HNF.out rfl
                rw [HVF.out rfl] at HCU
                cases A <;>
                · go_wp2_with fail
                  refine HCU.out.mono ?_
                  rintro e wG ⟨rfl, hwG⟩
                  rw [hwG]
                  clear hwG
                  go_wp2
                  go_roundg G
                  case measure => have := HI.out; have := HGK.out; omega
                  case rel => exact ⟨i + 1, by have := HI.out; have := HGK.out; omega, by go_num, HRI⟩
              | false =>
                obtain rfl : A = false := HAF.out rfl
                clear HCU
                cases N <;>
                · go_wp2
                  go_roundg G
                  case measure => have := HI.out; have := HGK.out; omega
                  case rel => exact ⟨i + 1, by have := HI.out; have := HGK.out; omega, by go_num, HRI⟩
        · have q4 : (r.ph != 4) = true := by simp [hp4]
          go_wp2
          go_roundg (gk - 1)
          case measure => have := HI.out; omega
          case rel => exact ⟨i + 1, by have := HI.out; omega, by go_num, HRB⟩
      · have tl : decide (((i : Nat) : Int) < ((rn : Nat) : Int)) = false := decide_eq_false (by omega)
        have HBE := hid (HB7.out.trans (HBR.out.mono HB7.out.size))
        go_wp2
        go_ret
        exact ⟨rfl, HBE.out⟩
  · have tE : (((E : Nat) : Int) != 0) = true := by simp; omega
    have tq : (((E : Nat) : Int) == ((E : Nat) : Int)) = true := by simp
    have HC := hid (WCheck_any o wa0 la0 ja0 ka0 wc0 lc0 jc0 kc0 _ _ w7 (HO7.out.walL HOK.out))
    unfold walV at HC
    rw [HE.out] at HC
    go_wp2_with (refine wp_loadW rfl 30 (.tmp 5) rfl Wb _ rfl _ KW7.out _ Try.underlying30 rfl (by kernel_rfl) ?_; intro v hv; subst hv)
    refine HC.out.mono ?_
    rintro e w8 ⟨rfl, hb⟩
    have HBE := hid (HB7.out.trans (hb.mono HB7.out.size))
    clear hb
    go_wp2
    go_ret
    exact ⟨rfl, HBE.out⟩
end Go.Proofs.Ytipohagcppfgiaa
