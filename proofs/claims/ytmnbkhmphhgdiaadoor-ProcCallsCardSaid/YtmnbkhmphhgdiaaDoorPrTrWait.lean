/- Processes: who changes them, and what comes of it (printed by gen_pr5.py). -/
import Derived.Test.YtmnbkhmphhgdiaaDoorPr5
namespace Go.Proofs.YtmnbkhmphhgdiaaDoor
open Go.RowKit Go.Shelf
open Go.Proofs
set_option linter.unusedVariables false
attribute [local go_sem] Oper.semAt_some
attribute [local go_sem] as_err
set_option maxRecDepth 100000 in
set_option maxHeartbeats 16000000 in
theorem TriesWait (n c X0 X1 X2 : Nat) (a : Option Addr) (G : Nat → Int) (L : List Pr) (V : World) (B : Option Nat) (res : Res) (hg : Glob V) (hl : Leads V a n c (prcells L)) (hn : L.length = n) (hn5 : n ≤ 1000) (hG : GOk G) (hL : PrsOk L) (hbx : BoxIs B 0 V) (hB : ∀ b, B = some b → b < V.heap.size)
    (hdoes : okP G L = true → ∀ (T : Nat) (va : Option Addr) (vc : Nat) (W : World), Below V.heap.size V W → V.heap.size ≤ T → W.heap[T]? = some (.cells #[.int .i64 (G 0), .int .i64 (G 1), .int .i64 (G 2), .int .i64 (G 3), .int .i64 (G 4), .int .i64 (G 5), .int .i64 (G 6), .int .i64 (G 7), .int .i64 (G 8), .int .i64 (G 9), .int .i64 (G 10), .int .i64 (G 11), .int .i64 (G 12), .int .i64 (G 13), .int .i64 (G 14), .int .i64 (G 15), .slice va n vc] 65 (0, 0)) → W.ownsRow V.heap.size 45 4 (.slice va n vc) n (prcells L) → Calls Tryd.prog 42 #[.pointer (some ⟨T, 0, none⟩), .pointer (some ⟨X0, 0, none⟩), .pointer (some ⟨X1, 0, none⟩), .pointer (some ⟨X2, 0, none⟩)] W (DoesOk W V.heap.size T (Value.slice va n vc).ownBlock B res)) :
    Calls Tryd.prog 29 #[.agg #[.int .i64 (G 0), .int .i64 (G 1), .int .i64 (G 2), .int .i64 (G 3), .int .i64 (G 4), .int .i64 (G 5), .int .i64 (G 6), .int .i64 (G 7), .int .i64 (G 8), .int .i64 (G 9), .int .i64 (G 10), .int .i64 (G 11), .int .i64 (G 12), .int .i64 (G 13), .int .i64 (G 14), .int .i64 (G 15), .slice a n c], .func (.func 42) #[] #[.pointer (some ⟨X0, 0, none⟩), .pointer (some ⟨X1, 0, none⟩), .pointer (some ⟨X2, 0, none⟩)]] V (GivesT V B (if okP G L = true then res else .error 320)) := by
  obtain ⟨V1, hV1, hbV1, hsV1, hlV1⟩ := laid V #[.int .i64 (G 0), .int .i64 (G 1), .int .i64 (G 2), .int .i64 (G 3), .int .i64 (G 4), .int .i64 (G 5), .int .i64 (G 6), .int .i64 (G 7), .int .i64 (G 8), .int .i64 (G 9), .int .i64 (G 10), .int .i64 (G 11), .int .i64 (G 12), .int .i64 (G 13), .int .i64 (G 14), .int .i64 (G 15), .slice a n c] 25
  obtain ⟨V2, hV2, hbV2, hsV2, hlV2⟩ := laid V1 #[.int .i64 0, .int .i64 0, .int .i64 0, .int .i64 0, .int .i64 0, .int .i64 0, .int .i64 0, .int .i64 0, .int .i64 0, .int .i64 0, .int .i64 0, .int .i64 0, .int .i64 0, .int .i64 0, .int .i64 0, .int .i64 0, .slice none 0 0] 25
  obtain ⟨V3, hV3, hbV3, hsV3, hlV3⟩ := laid V2 #[.int .i64 0] 32
  obtain ⟨X, hX⟩ : ∃ X, V.heap.size = X := ⟨_, rfl⟩
  rw [hX] at hlV1
  obtain ⟨Z4, hZ4⟩ : ∃ X, V1.heap.size = X := ⟨_, rfl⟩
  rw [hZ4] at hlV2
  obtain ⟨Z5, hZ5⟩ : ∃ X, V2.heap.size = X := ⟨_, rfl⟩
  rw [hZ5] at hlV3
  have KX := hid (keep_laid (keep_laid hlV1 hbV2) hbV3)
  have KZ4 := hid (keep_laid hlV2 hbV3)
  have KZ5 := hid hlV3
  have HB := hid (step (step hbV1 hbV2) hbV3)
  have hVX : V.heap.size ≤ X := by omega
  have hVZ4 : V.heap.size ≤ Z4 := by omega
  have nXZ4 : X < Z4 := by omega
  have hVZ5 : V.heap.size ≤ Z5 := by omega
  have nXZ5 : X < Z5 := by omega
  have nZ4Z5 : Z4 < Z5 := by omega
  clear hbV1 hsV1 hlV1 hbV2 hsV2 hlV2 hbV3 hsV3 hlV3
  have HL := hid hl
  have HN := hid hn
  have HBX := hid hbx
  have HBB := hid hB
  have HDO := hid hdoes
  have HCK := hid (Check_any n c a G L V3 (hg.grow HB.out) (hl.grow HB.out) hn hn5 hG hL)
  have hlen := hl.len
  have hmf : ∀ (fn : Fn) (first cap : Array Value) (w : World), (Instr.makeFunc fn first cap).run Tryd.prog w = .ok (.func fn first cap) w := fun _ _ _ _ => rfl
  obtain ⟨RES, hRES⟩ : ∃ r : Res, (if okP G L = true then res else .error 320) = r := ⟨_, rfl⟩
  rw [hRES]
  have HRES := hid hRES
  obtain ⟨OK, hOK⟩ : ∃ b, okP G L = b := ⟨_, rfl⟩
  have HOK := hid hOK
  rw [hOK] at HCK
  clear hg hl hn hG hL hbx hB hdoes hRES hOK
  refine calls_of_wp_marks Tryd.func29 rfl ?_
  simp only [Tryd.ntmps29, List.size_toArray, List.length_cons, List.length_nil, Nat.reduceAdd, Nat.reduceSub, Array.replicate_succ, Array.replicate_zero, List.push_toArray, List.append_toArray, List.nil_append, List.cons_append]
  cases OK with
  | false =>
    rw [if_neg (by decide)] at HCK
    go_upto_region 2 with (fail)
    clear hV1 hV2 hV3 hX hZ4 hZ5
    go_wp2_with (refine wp_loadW rfl 25 (.tmp 2) rfl X _ rfl _ KX.out _ Tryd.underlying25 rfl (by kernel_rfl) ?_; intro v hv; subst hv)
    refine HCK.out.mono ?_
    rintro e w5 ⟨rfl, hbn⟩
    have KX_1 := hid (keep_laid KX.out hbn)
    have KZ4_2 := hid (keep_laid KZ4.out hbn)
    have KZ5_3 := hid (keep_laid KZ5.out hbn)
    have HB_4 := hid (HB.out.trans (hbn.mono HB.out.size))
    clear KX KZ4 KZ5 HB hbn HCK
    go_wp2_with fail
    refine (need_f 320 w5).mono ?_
    rintro e w1_56 ⟨rfl, hbn⟩
    have KX_5 := hid (keep_laid KX_1.out hbn)
    have KZ4_6 := hid (keep_laid KZ4_2.out hbn)
    have KZ5_7 := hid (keep_laid KZ5_3.out hbn)
    have HB_8 := hid (HB_4.out.trans (hbn.mono HB_4.out.size))
    clear KX_1 KZ4_2 KZ5_3 HB_4 hbn
    go_wp2
    refine leaves_caughtT KZ4_6.out KZ5_7.out rfl rfl ?_
    intro W1 W' g1 g2 hk e he
    subst he
    rw [← HRES.out, if_neg (by rw [HOK.out]; decide)]
    exact ⟨grownBy_far (grownBy_far (grownBy_none HB_8.out B) g1 (by omega)) g2 (by omega), rfl, fun b hb => hk b _ (by have := HBB.out b hb; omega) (by have := HBB.out b hb; omega) (keep_laid (HBX.out b hb) HB_8.out)⟩
  | true =>
    rw [if_pos rfl] at HCK
    have HRR : Hid (RES = res) := hid (by rw [← HRES.out, if_pos HOK.out])
    have HDK := hid (HDO.out HOK.out)
    clear HDO HRES
    go_upto_region 2 with (fail)
    clear hV1 hV2 hV3 hX hZ4 hZ5
    go_wp2_with (refine wp_loadW rfl 25 (.tmp 2) rfl X _ rfl _ KX.out _ Tryd.underlying25 rfl (by kernel_rfl) ?_; intro v hv; subst hv)
    refine HCK.out.mono ?_
    rintro e w5 ⟨rfl, hbn⟩
    have KX_1 := hid (keep_laid KX.out hbn)
    have KZ4_2 := hid (keep_laid KZ4.out hbn)
    have KZ5_3 := hid (keep_laid KZ5.out hbn)
    have HB_4 := hid (HB.out.trans (hbn.mono HB.out.size))
    clear KX KZ4 KZ5 HB hbn HCK
    go_wp2_with fail
    refine (need_t 320 w5).mono ?_
    rintro e w1_86 ⟨rfl, hbn⟩
    have KX_5 := hid (keep_laid KX_1.out hbn)
    have KZ4_6 := hid (keep_laid KZ4_2.out hbn)
    have KZ5_7 := hid (keep_laid KZ5_3.out hbn)
    have HB_8 := hid (HB_4.out.trans (hbn.mono HB_4.out.size))
    clear KX_1 KZ4_2 KZ5_3 HB_4 hbn
    have KXK := KX_5
    obtain ⟨w2_95, hw2_95, hbn, hsn, hln⟩ := laid w1_86 #[.int .i64 (G 0), .int .i64 (G 1), .int .i64 (G 2), .int .i64 (G 3), .int .i64 (G 4), .int .i64 (G 5), .int .i64 (G 6), .int .i64 (G 7), .int .i64 (G 8), .int .i64 (G 9), .int .i64 (G 10), .int .i64 (G 11), .int .i64 (G 12), .int .i64 (G 13), .int .i64 (G 14), .int .i64 (G 15), .slice a n c] 65
    obtain ⟨T, hNMT⟩ : ∃ X, w1_86.heap.size = X := ⟨_, rfl⟩
    rw [hNMT] at hln
    have nXT : X < T := by have := lt_laid KX_5.out; omega
    have nZ4T : Z4 < T := by have := lt_laid KZ4_6.out; omega
    have nZ5T : Z5 < T := by have := lt_laid KZ5_7.out; omega
    have hVT : V.heap.size ≤ T := by have := HB_8.out.size; omega
    have KX_9 := hid (keep_laid KX_5.out hbn)
    have KZ4_10 := hid (keep_laid KZ4_6.out hbn)
    have KZ5_11 := hid (keep_laid KZ5_7.out hbn)
    have HB_12 := hid (HB_8.out.trans (hbn.mono HB_8.out.size))
    clear KX_5 KZ4_6 KZ5_7 HB_8 hbn hsn
    have KT_13 := hid (hln)
    clear hln
    have HCL := hid (ClonePr_any a n c (prcells L) w2_95 (HL.out.grow HB_12.out) (by rw [prcells_len, HN.out, Nat.mul_comm]) (by omega) (prcells_one L))
    have q16 := cell_laid (i := 16) KX_9.out rfl
    go_upto_region 4 with (refine wp_loadW rfl 25 (.tmp 2) rfl X _ rfl _ KXK.out _ Tryd.underlying25 rfl (by kernel_rfl) ?_; intro v hv; subst hv)
    clear KXK
    go_wp2_with fail
    refine HCL.out.mono ?_
    rintro e w6 ⟨v, rfl, hcl, hbn⟩
    clear HCL q16
    have hVw := HB_12.out.size
    have KX_14 := hid (keep_laid KX_9.out hbn)
    have KZ4_15 := hid (keep_laid KZ4_10.out hbn)
    have KZ5_16 := hid (keep_laid KZ5_11.out hbn)
    have HB_17 := hid (HB_12.out.trans (hbn.mono HB_12.out.size))
    have KT_18 := hid (keep_laid KT_13.out hbn)
    clear KX_9 KZ4_10 KZ5_11 HB_12 KT_13 hbn
    have HROW := hid (own_base hcl hVw)
    obtain ⟨va, vc, rfl, hlv⟩ := Leads.of_own hcl
    have hvl := hlv.len
    clear hcl hlv hVw
    obtain ⟨u9, hu9, a1, a2, a3, a4⟩ := put17_16 KT_18.out (.slice va n vc)
    have E9 := hid hu9
    have y16 := cell_laid (i := 16) KT_18.out rfl
    have yf16 := free_laid (i := 16) KT_18.out
    have hKTo := KT_18
    have KX_19 := hid (a2 X _ (by omega) KX_14.out)
    have KZ4_20 := hid (a2 Z4 _ (by omega) KZ4_15.out)
    have KZ5_21 := hid (a2 Z5 _ (by omega) KZ5_16.out)
    have HB_22 := hid (a3 _ _ (by omega) HB_17.out)
    have KT_23 := hid (a1)
    have HROW_24 := hid (own_keep HROW.out fun k o hk ho => a2 k o (fun e => own_neP HROW.out hKTo.out (by decide) (by rw [← e]; exact hk)) ho)
    clear KX_14 KZ4_15 KZ5_16 HB_17 KT_18 HROW hu9 a1 a2 a3 a4 hKTo
    go_upto_region 5 with (fail)
    rw [← E9.out]
    generalize Value.agg #[.int .i64 (G 0), .int .i64 (G 1), .int .i64 (G 2), .int .i64 (G 3), .int .i64 (G 4), .int .i64 (G 5), .int .i64 (G 6), .int .i64 (G 7), .int .i64 (G 8), .int .i64 (G 9), .int .i64 (G 10), .int .i64 (G 11), .int .i64 (G 12), .int .i64 (G 13), .int .i64 (G 14), .int .i64 (G 15), .slice a n c] = PV0
    clear y16 yf16 hNMT hw2_95
    have HD9 := hid (HDK.out T va vc u9 HB_22.out (by omega) KT_23.out HROW_24.out)
    clear HDK
    have HNP : Hid (¬ Wr T (Value.slice va n vc).ownBlock B Z4 ∧ ¬ Wr T (Value.slice va n vc).ownBlock B Z5 ∧ (∀ k, (Value.slice va n vc).ownBlock = some k → V.heap.size ≤ k)) := hid ⟨by
      rintro (e | e | e)
      · omega
      · exact own_neP HROW_24.out KZ4_20.out (by decide) e
      · have := HBB.out _ e; omega, by
      rintro (e | e | e)
      · omega
      · exact own_neP HROW_24.out KZ5_21.out (by decide) e
      · have := HBB.out _ e; omega, fun k e => (HROW_24.out.lt k e).1⟩
    cases res with
    | error code =>
      go_wp2_with fail
      refine HD9.out.mono ?_
      rintro e w10 ⟨ht, rfl, hb10⟩
      have HK4 := hid (ht.keep KZ4_20.out HNP.out.1)
      have HK5 := hid (ht.keep KZ5_21.out HNP.out.2.1)
      have HGR := hid (ht.grown HB_22.out (by omega) HNP.out.2.2)
      have HBX2 := hid hb10
      clear ht hb10
      go_wp2
      refine leaves_caughtT HK4.out HK5.out rfl rfl ?_
      intro W1 W' g1 g2 hk e he
      subst he
      rw [HRR.out]
      exact ⟨grownBy_far (grownBy_far HGR.out g1 (by omega)) g2 (by omega), rfl, fun b hb => hk b _ (by have := HBB.out b hb; omega) (by have := HBB.out b hb; omega) (HBX2.out b hb)⟩
    | ok r =>
      obtain ⟨G', L', m⟩ := r
      go_wp2_with fail
      refine HD9.out.mono ?_
      rintro e w10 ⟨ht, rfl, hb10, a', c', hT', hrow'⟩
      have HK4 := hid (ht.keep KZ4_20.out HNP.out.1)
      have HK5 := hid (ht.keep KZ5_21.out HNP.out.2.1)
      have HGR := hid (ht.grown HB_22.out (by omega) HNP.out.2.2)
      have HBX2 := hid hb10
      have HKT := hid hT'
      have HRW := hid hrow'
      obtain ⟨q, hq⟩ : ∃ q, L'.length = q := ⟨_, rfl⟩
      have hln' := (Leads.of_own1 hrow').len
      have HQ := hid hq
      rw [hq] at HKT hln'
      clear ht hb10 hT' hrow' hq HD9
      have HRN : Hid (Value.ownBlock (.slice a' q c') ≠ some Z4 ∧ Value.ownBlock (.slice a' q c') ≠ some Z5) := hid (by
        have h1 := HRW.out
        rw [HQ.out] at h1
        exact ⟨own_neP h1 HK4.out (by decide), own_neP h1 HK5.out (by decide)⟩)
      have n45 : Z4 ≠ Z5 := by omega
      have n54 : Z5 ≠ Z4 := by omega
      go_upto_region 6 with (fail)
      go_wp2_with (first | (refine wp_loadW rfl 25 (.tmp 27) rfl T _ rfl _ HKT.out _ Tryd.underlying25 rfl (by kernel_rfl) ?_; intro v hv; subst hv) | (refine wp_storeW rfl 25 (.tmp 4) (.tmp 28) rfl Z4 _ _ rfl rfl _ HK4.out (by kernel_rfl) (by rfl) (by simp [Value.oneCell']) ?_; intro u1 a1 a2 a3 a4; have hk5 := a2 Z5 _ n54 HK5.out; have y0 := cell_laid (i := 0) hk5 rfl; have yf0 := free_laid (i := 0) hk5; have H4 := hid (other_laid (i := 0) (b' := Z5) a1 n45 (.int .i64 0)); have H5 := hid (set_laid (i := 0) hk5 (.int .i64 0)); have HG1 := hid a4; have HX := hid (show ∀ (k : Nat) (o : Obj), k ≠ Z4 → k ≠ Z5 → w10.heap[k]? = some o → (u1.setCell ⟨Z5, 0, none⟩ (.int .i64 0)).heap[k]? = some o from fun k o h1 h2 ho => other_laid (a2 k o h1 ho) h2 _); clear hk5 a1 a2 a3 a4))
      refine leaves_idleT H4.out H5.out rfl rfl ?_
      intro e he
      subst he
      rw [HRR.out]
      refine ⟨grownBy_far (grownBy_far HGR.out HG1.out (by omega)) (grownBy_setCell _ _ _ _) (by omega), a', c', ?_, fun b hb => HX.out b _ (by have := HBB.out b hb; omega) (by have := HBB.out b hb; omega) (HBX2.out b hb), own_keep HRW.out fun k o hk ho => HX.out k o (fun e => HRN.out.1 (by rw [← HQ.out, hk, e])) (fun e => HRN.out.2 (by rw [← HQ.out, hk, e])) ho⟩
      rw [HQ.out]
end Go.Proofs.YtmnbkhmphhgdiaaDoor
