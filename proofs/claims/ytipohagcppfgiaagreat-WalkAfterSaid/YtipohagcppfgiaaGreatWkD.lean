/- Layer 17, several texts in one. -/
import Derived.Test.YtipohagcppfgiaaGreatWkC
import Derived.Test.YtipohagcppfgiaaGreatRegion4
namespace Go.Proofs.YtipohagcppfgiaaGreat
open Go.RowKit
open Go.Proofs
set_option linter.unusedVariables false
abbrev z16 : Array Value := #[.int .u64 0, .int .u64 0, .int .u64 0, .int .u64 0, .int .u64 0, .int .u64 0, .int .u64 0, .int .u64 0, .int .u64 0, .int .u64 0, .int .u64 0, .int .u64 0, .int .u64 0, .int .u64 0, .int .u64 0, .int .u64 0]
attribute [local go_sem] Oper.semAt_some
def kw0 : List Nat := [4, 0, 0, 0, 7, 70, 0, 2, 0, 0, 0, 0, 0, 0, 0, 0]
def wSmall : Wal := ⟨⟨kw0, List.replicate 16 true, false⟩, 0, [(true, (0, 7, 0, 2))], [(2, 7)]⟩
theorem wSmall_len : wSmall.M.W.length = 16 ∧ wSmall.M.L.length = 16 := ⟨rfl, by simp [wSmall]⟩
theorem wSmall_jok : ∀ x ∈ wSmall.J, x.2.Ok := by
 intro x hx
 simp only [wSmall, List.mem_singleton] at hx
 subst hx
 exact ⟨by decide, by decide, by decide, by decide⟩
structure RMm (X : Nat) (cs : Array Value) where
 w : World
 bx : w.heap[X]? = some (.cells cs 25 (0, 0))
theorem own_lit {W : World} {g base n size : Nat} {e : TypeId} {cur : Array Value} {xs : List Value} (h : W.heap[g]? = some (.cells cur e (0, 0))) (hb : base ≤ g) (hn : n ≤ maxLen) (hs : cur.size = n * size) (hx : cur.toList = xs) : W.ownsRow base e size (.slice (some ⟨g, 0, none⟩) n n) n xs := by
 subst hx
 exact ⟨by simpa using hs, .inr ⟨g, n, cur, rfl, hb, h, Nat.le_refl _, hn, hs, List.take_of_length_le (by simp [hs])⟩⟩
theorem small_result {W : World} {b0 : Nat} {v0_0 v0_1 v0_2 v0_3 v0_4 v0_5 : Value} {tmps : Array Value} (h0 : W.heap[b0]? = some (.cells #[v0_0, v0_1, v0_2, v0_3, v0_4, v0_5] 30 (0, 0))) (q0 : tmps[0]?.getD undef = .pointer (some ⟨b0, 0, none⟩)) :
  (results Tryz.f20 tmps).run Tryz.prog W = .ok (.agg #[v0_0, v0_1, v0_2, v0_3, v0_4, v0_5]) W := by
 have e0_0 := clD (i := 0) (v := v0_0) h0 rfl
 have e0_1 := clD (i := 1) (v := v0_1) h0 rfl
 have e0_2 := clD (i := 2) (v := v0_2) h0 rfl
 have e0_3 := clD (i := 3) (v := v0_3) h0 rfl
 have e0_4 := clD (i := 4) (v := v0_4) h0 rfl
 have e0_5 := clD (i := 5) (v := v0_5) h0 rfl
 simp [results, Tryz.results20, go_sem, e0_0, e0_1, e0_2, e0_3, e0_4, e0_5, q0]
set_option maxRecDepth 100000 in
set_option maxHeartbeats 16000000 in
theorem small_any (V : World) : Calls Tryz.prog 20 #[] V (fun e W => ∃ wa wc la lc ja jc ka kc, e = .returned (.agg #[.slice wa 16 wc, .slice la 16 lc, .bool false, .int .u64 0, .slice ja 1 jc, .slice ka 1 kc]) ∧ WalL W wa wc la lc ja 1 jc ka 1 kc wSmall ∧ Below V.heap.size V W) := by
 obtain ⟨V1, hV1, hbV1, hsV1, hlV1⟩ := laid V #[.slice none 0 0, .slice none 0 0, .bool false, .int .u64 0, .slice none 0 0, .slice none 0 0] 30
 obtain ⟨T0, hT0⟩ := nm (V.heap.size)
 rw [hT0] at hlV1
 have KT0 := hid hlV1
 have HB := hid hbV1
 have hVT0 : V.heap.size ≤ T0 := by omega
 clear hbV1 hsV1 hlV1
 go_enter Tryz.func20, Tryz.ntmps20
 go_upto_region 1 with (fail)
 clear hV1
 have hTV : V.heap.size ≤ T0 := by omega
 clear hT0
 go_cut [1] (fun t1 wr => ∃ (X GW GL : Nat), t1 = .pointer (some ⟨X, 0, none⟩) ∧ V.heap.size ≤ X ∧ V.heap.size ≤ GW ∧ V.heap.size ≤ GL ∧ X < wr.heap.size ∧ Hid (wr.heap[X]? = some (.cells #[.slice (some ⟨GW, 0, none⟩) 16 16, .slice (some ⟨GL, 0, none⟩) 16 16, .bool false] 25 (0, 0))) ∧ Hid (wr.heap[GW]? = some (.cells z16 26 (0, 0))) ∧ Hid (wr.ownsRow V.heap.size 4 1 (.slice (some ⟨GL, 0, none⟩) 16 16) 16 (bcells (List.replicate 16 true))) ∧ Hid (wr.heap[T0]? = some (.cells #[.slice none 0 0, .slice none 0 0, .bool false, .int .u64 0, .slice none 0 0, .slice none 0 0] 30 (0, 0))) ∧ Hid (Below V.heap.size V wr))
 case first =>
  obtain ⟨D1_19, hD⟩ := nm (V1.drew)
  have hbD : Below V1.heap.size V1 D1_19 := by rw [← hD]; exact (Below.refl _ _).drew
  have HD := hid hD
  clear hD
  have KT0_1 := hid (klD KT0.out hbD)
  have HB_2 := hid (HB.out.trans (hbD.mono HB.out.size))
  clear KT0 HB hbD
  refine rgm3 (fun W => ∃ z : AnyW, W = z.w) 6 (.h3 0 (.h2 1 (.h2 2 (.q 3 (.h 4 (.h 5 (.done)))) 4 (.h 2 (.q 3 (.h 5 (.done))))) 4 (.h 1 (.h 2 (.q 3 (.h 5 (.done)))))) 1 (.h3 0 (.h2 2 (.q 3 (.h 4 (.h 5 (.done)))) 4 (.h 2 (.q 3 (.h 5 (.done))))) 2 (.h2 0 (.q 3 (.h 4 (.h 5 (.done)))) 4 (.h 0 (.q 3 (.h 5 (.done))))) 4 (.h2 0 (.h 2 (.q 3 (.h 5 (.done)))) 2 (.h 0 (.q 3 (.h 5 (.done)))))) 4 (.h2 0 (.h 1 (.h 2 (.q 3 (.h 5 (.done))))) 1 (.h2 0 (.h 2 (.q 3 (.h 5 (.done)))) 2 (.h 0 (.q 3 (.h 5 (.done))))))) (by kernel_rfl) (by kernel_rfl) (by rw [HD.out]; exact ⟨⟨D1_19⟩, rfl⟩) ?_
  rw [HD.out]
  refine wpMix3_h3 ?_ ?_ ?_
  ·skip
   refine m3h rfl fun R' hR' hO => ?_
   have hmk : (Instr.makeSlice 22 (.int .i64 16) (.int .i64 16)).run Tryz.prog D1_19 = .ok (.slice (some ⟨D1_19.heap.size, 0, none⟩) 16 16) (D1_19.alloc (.cells z16 26)) := make_words D1_19 16 (by decide)
   obtain ⟨w2_31, hw2_31, hbn, hsn, hln⟩ := laid D1_19 z16 26
   obtain ⟨GW, hGW⟩ := nm (D1_19.heap.size)
   rw [hGW] at hln hmk
   rw [hw2_31] at hmk
   have hVGW : V.heap.size ≤ GW := by have := HB_2.out.size; omega
   have KT0_3 := hid (klD KT0_1.out hbn)
   have HB_4 := hid (HB_2.out.trans (hbn.mono HB_2.out.size))
   clear KT0_1 HB_2 hbn hsn
   have KGW_5 := hid (hln)
   clear hln
   go_wp2
   clear hmk hw2_31 hGW
   refine hR' _ _ ⟨⟨w2_31⟩, rfl⟩ ?_
   clear hR' hO R'
   refine wpMix3_h2 ?_ ?_
   ·skip
    refine m3h rfl fun R' hR' hO => ?_
    obtain ⟨w3_49, hw3_49, hbn, hsn, hln⟩ := laid w2_31 #[.bool true] 4
    obtain ⟨LB, hNMLB⟩ := nm (w2_31.heap.size)
    rw [hNMLB] at hln
    have nT0LB : T0 < LB := by have := llD KT0_3.out; omega
    have nGWLB : GW < LB := by have := llD KGW_5.out; omega
    have hVLB : V.heap.size ≤ LB := by have := HB_4.out.size; omega
    have KT0_6 := hid (klD KT0_3.out hbn)
    have HB_7 := hid (HB_4.out.trans (hbn.mono HB_4.out.size))
    have KGW_8 := hid (klD KGW_5.out hbn)
    clear KT0_3 HB_4 KGW_5 hbn hsn
    have KLB_9 := hid (hln)
    clear hln
    go_wp2
    skip
    refine hR' _ _ ⟨⟨w3_49⟩, rfl⟩ ?_
    clear hR' hO R'
    refine wpMix3_h2 ?_ ?_
    ·skip
     refine m3h rfl fun R' hR' hO => ?_
     go_wp2_with fail
     refine (RepeatB_any true 16 LB w3_49 (clD (i := 0) KLB_9.out rfl) (llD KLB_9.out) (by decide) Mul_16).mono ?_
     rintro e w4_68 ⟨GL, rfl, hol, hbn⟩
     have hVGL : V.heap.size ≤ GL := Nat.le_trans HB_7.out.size (own_base_le hol)
     have HGL0 := hid (own_base hol HB_7.out.size)
     have KT0_10 := hid (klD KT0_6.out hbn)
     have HB_11 := hid (HB_7.out.trans (hbn.mono HB_7.out.size))
     have KGW_12 := hid (klD KGW_8.out hbn)
     have KLB_13 := hid (klD KLB_9.out hbn)
     clear KT0_6 HB_7 KGW_8 KLB_9 hbn hol
     have HGL_0 := HGL0
     clear HGL0
     go_wp2
     skip
     refine hR' _ _ ⟨⟨w4_68⟩, rfl⟩ ?_
     clear hR' hO R'
     repeat (refine m3q rfl rfl ?_; go_big_quiet_step (fail); refine wpQuiet_nil ?_)
     refine m3h rfl fun R' hR' hO => ?_
     obtain ⟨w5_86, hw5_86, hbn, hsn, hln⟩ := laid w4_68 #[.slice none 0 0, .slice none 0 0, .bool false] 25
     obtain ⟨X, hNMX⟩ := nm (w4_68.heap.size)
     rw [hNMX] at hln
     have nT0X : T0 < X := by have := llD KT0_10.out; omega
     have nGWX : GW < X := by have := llD KGW_12.out; omega
     have nLBX : LB < X := by have := llD KLB_13.out; omega
     have hVX : V.heap.size ≤ X := by have := HB_11.out.size; omega
     have KT0_14 := hid (klD KT0_10.out hbn)
     have HB_15 := hid (HB_11.out.trans (hbn.mono HB_11.out.size))
     have KGW_16 := hid (klD KGW_12.out hbn)
     have KLB_17 := hid (klD KLB_13.out hbn)
     have HGL_18 := hid (ogr HGL_0.out hbn)
     clear KT0_10 HB_11 KGW_12 KLB_13 HGL_0 hbn hsn
     have KX_19 := hid (hln)
     clear hln
     go_wp2
     skip
     refine hR' _ _ ⟨⟨w5_86⟩, rfl⟩ ?_
     clear hR' hO R'
     refine m3h rfl fun R' hR' hO => ?_
     go_wp2_with (refine wsP rfl 25 (.tmp 1) (.tmp 5) rfl X 0 _ #[.slice (some ⟨GW, 0, none⟩) 16 16, .slice (some ⟨GL, 0, none⟩) 16 16, .bool false] _ rfl rfl _ KX_19.out (by kernel_rfl) (Nat.le_of_ble_eq_true rfl) (by kernel_rfl) rfl ?_; intro u6_106 a1 a2 a3 a4; have HX9 := hid a1; have HGW9 := hid (a2 GW _ (fun e => absurd e (tyN KGW_16.out KX_19.out (by decide))) KGW_16.out); have HGL9 := hid (okp HGL_18.out fun k o hk ho => a2 k o (own_neT HGL_18.out KX_19.out (by decide) k hk) ho); have HT9 := hid (a2 T0 _ (tyN KT0_14.out KX_19.out (by decide)) KT0_14.out); have HB9 := hid (a3 V.heap.size V (by omega) HB_15.out); clear a1 a2 a3 a4; (try simp only [Act.put]))
     go_wp2
     skip
     refine hR' _ _ ⟨⟨u6_106⟩, rfl⟩ ?_
     clear hR' hO R'
     refine m3d ?_
     simp only [List.drop_succ_cons, List.drop_nil]
     go_wp2
     go_meet
     exact ⟨X, GW, GL, rfl, by omega, by omega, by omega, llD HX9.out, HX9, HGW9, HGL9, HT9, HB9⟩
    ·skip
     refine m3h rfl fun R' hR' hO => ?_
     obtain ⟨w4_118, hw4_118, hbn, hsn, hln⟩ := laid w3_49 #[.slice none 0 0, .slice none 0 0, .bool false] 25
     obtain ⟨X, hNMX⟩ := nm (w3_49.heap.size)
     rw [hNMX] at hln
     have nT0X : T0 < X := by have := llD KT0_6.out; omega
     have nGWX : GW < X := by have := llD KGW_8.out; omega
     have nLBX : LB < X := by have := llD KLB_9.out; omega
     have hVX : V.heap.size ≤ X := by have := HB_7.out.size; omega
     have KT0_10 := hid (klD KT0_6.out hbn)
     have HB_11 := hid (HB_7.out.trans (hbn.mono HB_7.out.size))
     have KGW_12 := hid (klD KGW_8.out hbn)
     have KLB_13 := hid (klD KLB_9.out hbn)
     clear KT0_6 HB_7 KGW_8 KLB_9 hbn hsn
     have KX_14 := hid (hln)
     clear hln
     go_wp2
     skip
     refine hR' _ _ ⟨⟨w4_118⟩, rfl⟩ ?_
     clear hR' hO R'
     refine m3h rfl fun R' hR' hO => ?_
     go_wp2_with fail
     refine (RepeatB_any true 16 LB w4_118 (clD (i := 0) KLB_13.out rfl) (llD KLB_13.out) (by decide) Mul_16).mono ?_
     rintro e w5_137 ⟨GL, rfl, hol, hbn⟩
     have hVGL : V.heap.size ≤ GL := Nat.le_trans HB_11.out.size (own_base_le hol)
     have HGL0 := hid (own_base hol HB_11.out.size)
     have KT0_15 := hid (klD KT0_10.out hbn)
     have HB_16 := hid (HB_11.out.trans (hbn.mono HB_11.out.size))
     have KGW_17 := hid (klD KGW_12.out hbn)
     have KLB_18 := hid (klD KLB_13.out hbn)
     have KX_19 := hid (klD KX_14.out hbn)
     clear KT0_10 HB_11 KGW_12 KLB_13 KX_14 hbn hol
     have HGL_0 := HGL0
     clear HGL0
     go_wp2
     skip
     refine hR' _ _ ⟨⟨w5_137⟩, rfl⟩ ?_
     clear hR' hO R'
     repeat (refine m3q rfl rfl ?_; go_big_quiet_step (fail); refine wpQuiet_nil ?_)
     refine m3h rfl fun R' hR' hO => ?_
     go_wp2_with (refine wsP rfl 25 (.tmp 1) (.tmp 5) rfl X 0 _ #[.slice (some ⟨GW, 0, none⟩) 16 16, .slice (some ⟨GL, 0, none⟩) 16 16, .bool false] _ rfl rfl _ KX_19.out (by kernel_rfl) (Nat.le_of_ble_eq_true rfl) (by kernel_rfl) rfl ?_; intro u6_156 a1 a2 a3 a4; have HX9 := hid a1; have HGW9 := hid (a2 GW _ (fun e => absurd e (tyN KGW_17.out KX_19.out (by decide))) KGW_17.out); have HGL9 := hid (okp HGL_0.out fun k o hk ho => a2 k o (own_neT HGL_0.out KX_19.out (by decide) k hk) ho); have HT9 := hid (a2 T0 _ (tyN KT0_15.out KX_19.out (by decide)) KT0_15.out); have HB9 := hid (a3 V.heap.size V (by omega) HB_16.out); clear a1 a2 a3 a4; (try simp only [Act.put]))
     go_wp2
     skip
     refine hR' _ _ ⟨⟨u6_156⟩, rfl⟩ ?_
     clear hR' hO R'
     refine m3d ?_
     simp only [List.drop_succ_cons, List.drop_nil]
     go_wp2
     go_meet
     exact ⟨X, GW, GL, rfl, by omega, by omega, by omega, llD HX9.out, HX9, HGW9, HGL9, HT9, HB9⟩
   ·skip
    refine m3h rfl fun R' hR' hO => ?_
    obtain ⟨w3_168, hw3_168, hbn, hsn, hln⟩ := laid w2_31 #[.slice none 0 0, .slice none 0 0, .bool false] 25
    obtain ⟨X, hNMX⟩ := nm (w2_31.heap.size)
    rw [hNMX] at hln
    have nT0X : T0 < X := by have := llD KT0_3.out; omega
    have nGWX : GW < X := by have := llD KGW_5.out; omega
    have hVX : V.heap.size ≤ X := by have := HB_4.out.size; omega
    have KT0_6 := hid (klD KT0_3.out hbn)
    have HB_7 := hid (HB_4.out.trans (hbn.mono HB_4.out.size))
    have KGW_8 := hid (klD KGW_5.out hbn)
    clear KT0_3 HB_4 KGW_5 hbn hsn
    have KX_9 := hid (hln)
    clear hln
    go_wp2
    skip
    refine hR' _ _ ⟨⟨w3_168⟩, rfl⟩ ?_
    clear hR' hO R'
    refine m3h rfl fun R' hR' hO => ?_
    obtain ⟨w4_185, hw4_185, hbn, hsn, hln⟩ := laid w3_168 #[.bool true] 4
    obtain ⟨LB, hNMLB⟩ := nm (w3_168.heap.size)
    rw [hNMLB] at hln
    have nT0LB : T0 < LB := by have := llD KT0_6.out; omega
    have nGWLB : GW < LB := by have := llD KGW_8.out; omega
    have nXLB : X < LB := by have := llD KX_9.out; omega
    have hVLB : V.heap.size ≤ LB := by have := HB_7.out.size; omega
    have KT0_10 := hid (klD KT0_6.out hbn)
    have HB_11 := hid (HB_7.out.trans (hbn.mono HB_7.out.size))
    have KGW_12 := hid (klD KGW_8.out hbn)
    have KX_13 := hid (klD KX_9.out hbn)
    clear KT0_6 HB_7 KGW_8 KX_9 hbn hsn
    have KLB_14 := hid (hln)
    clear hln
    go_wp2
    skip
    refine hR' _ _ ⟨⟨w4_185⟩, rfl⟩ ?_
    clear hR' hO R'
    refine m3h rfl fun R' hR' hO => ?_
    go_wp2_with fail
    refine (RepeatB_any true 16 LB w4_185 (clD (i := 0) KLB_14.out rfl) (llD KLB_14.out) (by decide) Mul_16).mono ?_
    rintro e w5_204 ⟨GL, rfl, hol, hbn⟩
    have hVGL : V.heap.size ≤ GL := Nat.le_trans HB_11.out.size (own_base_le hol)
    have HGL0 := hid (own_base hol HB_11.out.size)
    have KT0_15 := hid (klD KT0_10.out hbn)
    have HB_16 := hid (HB_11.out.trans (hbn.mono HB_11.out.size))
    have KGW_17 := hid (klD KGW_12.out hbn)
    have KX_18 := hid (klD KX_13.out hbn)
    have KLB_19 := hid (klD KLB_14.out hbn)
    clear KT0_10 HB_11 KGW_12 KX_13 KLB_14 hbn hol
    have HGL_0 := HGL0
    clear HGL0
    go_wp2
    skip
    refine hR' _ _ ⟨⟨w5_204⟩, rfl⟩ ?_
    clear hR' hO R'
    repeat (refine m3q rfl rfl ?_; go_big_quiet_step (fail); refine wpQuiet_nil ?_)
    refine m3h rfl fun R' hR' hO => ?_
    go_wp2_with (refine wsP rfl 25 (.tmp 1) (.tmp 5) rfl X 0 _ #[.slice (some ⟨GW, 0, none⟩) 16 16, .slice (some ⟨GL, 0, none⟩) 16 16, .bool false] _ rfl rfl _ KX_18.out (by kernel_rfl) (Nat.le_of_ble_eq_true rfl) (by kernel_rfl) rfl ?_; intro u6_223 a1 a2 a3 a4; have HX9 := hid a1; have HGW9 := hid (a2 GW _ (fun e => absurd e (tyN KGW_17.out KX_18.out (by decide))) KGW_17.out); have HGL9 := hid (okp HGL_0.out fun k o hk ho => a2 k o (own_neT HGL_0.out KX_18.out (by decide) k hk) ho); have HT9 := hid (a2 T0 _ (tyN KT0_15.out KX_18.out (by decide)) KT0_15.out); have HB9 := hid (a3 V.heap.size V (by omega) HB_16.out); clear a1 a2 a3 a4; (try simp only [Act.put]))
    go_wp2
    skip
    refine hR' _ _ ⟨⟨u6_223⟩, rfl⟩ ?_
    clear hR' hO R'
    refine m3d ?_
    simp only [List.drop_succ_cons, List.drop_nil]
    go_wp2
    go_meet
    exact ⟨X, GW, GL, rfl, by omega, by omega, by omega, llD HX9.out, HX9, HGW9, HGL9, HT9, HB9⟩
  ·skip
   refine m3h rfl fun R' hR' hO => ?_
   obtain ⟨w2_235, hw2_235, hbn, hsn, hln⟩ := laid D1_19 #[.bool true] 4
   obtain ⟨LB, hNMLB⟩ := nm (D1_19.heap.size)
   rw [hNMLB] at hln
   have nT0LB : T0 < LB := by have := llD KT0_1.out; omega
   have hVLB : V.heap.size ≤ LB := by have := HB_2.out.size; omega
   have KT0_3 := hid (klD KT0_1.out hbn)
   have HB_4 := hid (HB_2.out.trans (hbn.mono HB_2.out.size))
   clear KT0_1 HB_2 hbn hsn
   have KLB_5 := hid (hln)
   clear hln
   go_wp2
   skip
   refine hR' _ _ ⟨⟨w2_235⟩, rfl⟩ ?_
   clear hR' hO R'
   refine wpMix3_h3 ?_ ?_ ?_
   ·skip
    refine m3h rfl fun R' hR' hO => ?_
    have hmk : (Instr.makeSlice 22 (.int .i64 16) (.int .i64 16)).run Tryz.prog w2_235 = .ok (.slice (some ⟨w2_235.heap.size, 0, none⟩) 16 16) (w2_235.alloc (.cells z16 26)) := make_words w2_235 16 (by decide)
    obtain ⟨w3_252, hw3_252, hbn, hsn, hln⟩ := laid w2_235 z16 26
    obtain ⟨GW, hGW⟩ := nm (w2_235.heap.size)
    rw [hGW] at hln hmk
    rw [hw3_252] at hmk
    have hVGW : V.heap.size ≤ GW := by have := HB_4.out.size; omega
    have KT0_6 := hid (klD KT0_3.out hbn)
    have HB_7 := hid (HB_4.out.trans (hbn.mono HB_4.out.size))
    have KLB_8 := hid (klD KLB_5.out hbn)
    clear KT0_3 HB_4 KLB_5 hbn hsn
    have KGW_9 := hid (hln)
    clear hln
    go_wp2
    clear hmk hw3_252 hGW
    refine hR' _ _ ⟨⟨w3_252⟩, rfl⟩ ?_
    clear hR' hO R'
    refine wpMix3_h2 ?_ ?_
    ·skip
     refine m3h rfl fun R' hR' hO => ?_
     go_wp2_with fail
     refine (RepeatB_any true 16 LB w3_252 (clD (i := 0) KLB_8.out rfl) (llD KLB_8.out) (by decide) Mul_16).mono ?_
     rintro e w4_271 ⟨GL, rfl, hol, hbn⟩
     have hVGL : V.heap.size ≤ GL := Nat.le_trans HB_7.out.size (own_base_le hol)
     have HGL0 := hid (own_base hol HB_7.out.size)
     have KT0_10 := hid (klD KT0_6.out hbn)
     have HB_11 := hid (HB_7.out.trans (hbn.mono HB_7.out.size))
     have KLB_12 := hid (klD KLB_8.out hbn)
     have KGW_13 := hid (klD KGW_9.out hbn)
     clear KT0_6 HB_7 KLB_8 KGW_9 hbn hol
     have HGL_0 := HGL0
     clear HGL0
     go_wp2
     skip
     refine hR' _ _ ⟨⟨w4_271⟩, rfl⟩ ?_
     clear hR' hO R'
     repeat (refine m3q rfl rfl ?_; go_big_quiet_step (fail); refine wpQuiet_nil ?_)
     refine m3h rfl fun R' hR' hO => ?_
     obtain ⟨w5_289, hw5_289, hbn, hsn, hln⟩ := laid w4_271 #[.slice none 0 0, .slice none 0 0, .bool false] 25
     obtain ⟨X, hNMX⟩ := nm (w4_271.heap.size)
     rw [hNMX] at hln
     have nT0X : T0 < X := by have := llD KT0_10.out; omega
     have nLBX : LB < X := by have := llD KLB_12.out; omega
     have nGWX : GW < X := by have := llD KGW_13.out; omega
     have hVX : V.heap.size ≤ X := by have := HB_11.out.size; omega
     have KT0_14 := hid (klD KT0_10.out hbn)
     have HB_15 := hid (HB_11.out.trans (hbn.mono HB_11.out.size))
     have KLB_16 := hid (klD KLB_12.out hbn)
     have KGW_17 := hid (klD KGW_13.out hbn)
     have HGL_18 := hid (ogr HGL_0.out hbn)
     clear KT0_10 HB_11 KLB_12 KGW_13 HGL_0 hbn hsn
     have KX_19 := hid (hln)
     clear hln
     go_wp2
     skip
     refine hR' _ _ ⟨⟨w5_289⟩, rfl⟩ ?_
     clear hR' hO R'
     refine m3h rfl fun R' hR' hO => ?_
     go_wp2_with (refine wsP rfl 25 (.tmp 1) (.tmp 5) rfl X 0 _ #[.slice (some ⟨GW, 0, none⟩) 16 16, .slice (some ⟨GL, 0, none⟩) 16 16, .bool false] _ rfl rfl _ KX_19.out (by kernel_rfl) (Nat.le_of_ble_eq_true rfl) (by kernel_rfl) rfl ?_; intro u6_309 a1 a2 a3 a4; have HX9 := hid a1; have HGW9 := hid (a2 GW _ (fun e => absurd e (tyN KGW_17.out KX_19.out (by decide))) KGW_17.out); have HGL9 := hid (okp HGL_18.out fun k o hk ho => a2 k o (own_neT HGL_18.out KX_19.out (by decide) k hk) ho); have HT9 := hid (a2 T0 _ (tyN KT0_14.out KX_19.out (by decide)) KT0_14.out); have HB9 := hid (a3 V.heap.size V (by omega) HB_15.out); clear a1 a2 a3 a4; (try simp only [Act.put]))
     go_wp2
     skip
     refine hR' _ _ ⟨⟨u6_309⟩, rfl⟩ ?_
     clear hR' hO R'
     refine m3d ?_
     simp only [List.drop_succ_cons, List.drop_nil]
     go_wp2
     go_meet
     exact ⟨X, GW, GL, rfl, by omega, by omega, by omega, llD HX9.out, HX9, HGW9, HGL9, HT9, HB9⟩
    ·skip
     refine m3h rfl fun R' hR' hO => ?_
     obtain ⟨w4_321, hw4_321, hbn, hsn, hln⟩ := laid w3_252 #[.slice none 0 0, .slice none 0 0, .bool false] 25
     obtain ⟨X, hNMX⟩ := nm (w3_252.heap.size)
     rw [hNMX] at hln
     have nT0X : T0 < X := by have := llD KT0_6.out; omega
     have nLBX : LB < X := by have := llD KLB_8.out; omega
     have nGWX : GW < X := by have := llD KGW_9.out; omega
     have hVX : V.heap.size ≤ X := by have := HB_7.out.size; omega
     have KT0_10 := hid (klD KT0_6.out hbn)
     have HB_11 := hid (HB_7.out.trans (hbn.mono HB_7.out.size))
     have KLB_12 := hid (klD KLB_8.out hbn)
     have KGW_13 := hid (klD KGW_9.out hbn)
     clear KT0_6 HB_7 KLB_8 KGW_9 hbn hsn
     have KX_14 := hid (hln)
     clear hln
     go_wp2
     skip
     refine hR' _ _ ⟨⟨w4_321⟩, rfl⟩ ?_
     clear hR' hO R'
     refine m3h rfl fun R' hR' hO => ?_
     go_wp2_with fail
     refine (RepeatB_any true 16 LB w4_321 (clD (i := 0) KLB_12.out rfl) (llD KLB_12.out) (by decide) Mul_16).mono ?_
     rintro e w5_340 ⟨GL, rfl, hol, hbn⟩
     have hVGL : V.heap.size ≤ GL := Nat.le_trans HB_11.out.size (own_base_le hol)
     have HGL0 := hid (own_base hol HB_11.out.size)
     have KT0_15 := hid (klD KT0_10.out hbn)
     have HB_16 := hid (HB_11.out.trans (hbn.mono HB_11.out.size))
     have KLB_17 := hid (klD KLB_12.out hbn)
     have KGW_18 := hid (klD KGW_13.out hbn)
     have KX_19 := hid (klD KX_14.out hbn)
     clear KT0_10 HB_11 KLB_12 KGW_13 KX_14 hbn hol
     have HGL_0 := HGL0
     clear HGL0
     go_wp2
     skip
     refine hR' _ _ ⟨⟨w5_340⟩, rfl⟩ ?_
     clear hR' hO R'
     repeat (refine m3q rfl rfl ?_; go_big_quiet_step (fail); refine wpQuiet_nil ?_)
     refine m3h rfl fun R' hR' hO => ?_
     go_wp2_with (refine wsP rfl 25 (.tmp 1) (.tmp 5) rfl X 0 _ #[.slice (some ⟨GW, 0, none⟩) 16 16, .slice (some ⟨GL, 0, none⟩) 16 16, .bool false] _ rfl rfl _ KX_19.out (by kernel_rfl) (Nat.le_of_ble_eq_true rfl) (by kernel_rfl) rfl ?_; intro u6_359 a1 a2 a3 a4; have HX9 := hid a1; have HGW9 := hid (a2 GW _ (fun e => absurd e (tyN KGW_18.out KX_19.out (by decide))) KGW_18.out); have HGL9 := hid (okp HGL_0.out fun k o hk ho => a2 k o (own_neT HGL_0.out KX_19.out (by decide) k hk) ho); have HT9 := hid (a2 T0 _ (tyN KT0_15.out KX_19.out (by decide)) KT0_15.out); have HB9 := hid (a3 V.heap.size V (by omega) HB_16.out); clear a1 a2 a3 a4; (try simp only [Act.put]))
     go_wp2
     skip
     refine hR' _ _ ⟨⟨u6_359⟩, rfl⟩ ?_
     clear hR' hO R'
     refine m3d ?_
     simp only [List.drop_succ_cons, List.drop_nil]
     go_wp2
     go_meet
     exact ⟨X, GW, GL, rfl, by omega, by omega, by omega, llD HX9.out, HX9, HGW9, HGL9, HT9, HB9⟩
   ·skip
    refine m3h rfl fun R' hR' hO => ?_
    go_wp2_with fail
    refine (RepeatB_any true 16 LB w2_235 (clD (i := 0) KLB_5.out rfl) (llD KLB_5.out) (by decide) Mul_16).mono ?_
    rintro e w3_371 ⟨GL, rfl, hol, hbn⟩
    have hVGL : V.heap.size ≤ GL := Nat.le_trans HB_4.out.size (own_base_le hol)
    have HGL0 := hid (own_base hol HB_4.out.size)
    have KT0_6 := hid (klD KT0_3.out hbn)
    have HB_7 := hid (HB_4.out.trans (hbn.mono HB_4.out.size))
    have KLB_8 := hid (klD KLB_5.out hbn)
    clear KT0_3 HB_4 KLB_5 hbn hol
    have HGL_0 := HGL0
    clear HGL0
    go_wp2
    skip
    refine hR' _ _ ⟨⟨w3_371⟩, rfl⟩ ?_
    clear hR' hO R'
    refine wpMix3_h2 ?_ ?_
    ·skip
     refine m3h rfl fun R' hR' hO => ?_
     have hmk : (Instr.makeSlice 22 (.int .i64 16) (.int .i64 16)).run Tryz.prog w3_371 = .ok (.slice (some ⟨w3_371.heap.size, 0, none⟩) 16 16) (w3_371.alloc (.cells z16 26)) := make_words w3_371 16 (by decide)
     obtain ⟨w4_389, hw4_389, hbn, hsn, hln⟩ := laid w3_371 z16 26
     obtain ⟨GW, hGW⟩ := nm (w3_371.heap.size)
     rw [hGW] at hln hmk
     rw [hw4_389] at hmk
     have hVGW : V.heap.size ≤ GW := by have := HB_7.out.size; omega
     have KT0_9 := hid (klD KT0_6.out hbn)
     have HB_10 := hid (HB_7.out.trans (hbn.mono HB_7.out.size))
     have KLB_11 := hid (klD KLB_8.out hbn)
     have HGL_12 := hid (ogr HGL_0.out hbn)
     clear KT0_6 HB_7 KLB_8 HGL_0 hbn hsn
     have KGW_13 := hid (hln)
     clear hln
     go_wp2
     clear hmk hw4_389 hGW
     refine hR' _ _ ⟨⟨w4_389⟩, rfl⟩ ?_
     clear hR' hO R'
     repeat (refine m3q rfl rfl ?_; go_big_quiet_step (fail); refine wpQuiet_nil ?_)
     refine m3h rfl fun R' hR' hO => ?_
     obtain ⟨w5_408, hw5_408, hbn, hsn, hln⟩ := laid w4_389 #[.slice none 0 0, .slice none 0 0, .bool false] 25
     obtain ⟨X, hNMX⟩ := nm (w4_389.heap.size)
     rw [hNMX] at hln
     have nT0X : T0 < X := by have := llD KT0_9.out; omega
     have nLBX : LB < X := by have := llD KLB_11.out; omega
     have nGWX : GW < X := by have := llD KGW_13.out; omega
     have hVX : V.heap.size ≤ X := by have := HB_10.out.size; omega
     have KT0_14 := hid (klD KT0_9.out hbn)
     have HB_15 := hid (HB_10.out.trans (hbn.mono HB_10.out.size))
     have KLB_16 := hid (klD KLB_11.out hbn)
     have HGL_17 := hid (ogr HGL_12.out hbn)
     have KGW_18 := hid (klD KGW_13.out hbn)
     clear KT0_9 HB_10 KLB_11 HGL_12 KGW_13 hbn hsn
     have KX_19 := hid (hln)
     clear hln
     go_wp2
     skip
     refine hR' _ _ ⟨⟨w5_408⟩, rfl⟩ ?_
     clear hR' hO R'
     refine m3h rfl fun R' hR' hO => ?_
     go_wp2_with (refine wsP rfl 25 (.tmp 1) (.tmp 5) rfl X 0 _ #[.slice (some ⟨GW, 0, none⟩) 16 16, .slice (some ⟨GL, 0, none⟩) 16 16, .bool false] _ rfl rfl _ KX_19.out (by kernel_rfl) (Nat.le_of_ble_eq_true rfl) (by kernel_rfl) rfl ?_; intro u6_428 a1 a2 a3 a4; have HX9 := hid a1; have HGW9 := hid (a2 GW _ (fun e => absurd e (tyN KGW_18.out KX_19.out (by decide))) KGW_18.out); have HGL9 := hid (okp HGL_17.out fun k o hk ho => a2 k o (own_neT HGL_17.out KX_19.out (by decide) k hk) ho); have HT9 := hid (a2 T0 _ (tyN KT0_14.out KX_19.out (by decide)) KT0_14.out); have HB9 := hid (a3 V.heap.size V (by omega) HB_15.out); clear a1 a2 a3 a4; (try simp only [Act.put]))
     go_wp2
     skip
     refine hR' _ _ ⟨⟨u6_428⟩, rfl⟩ ?_
     clear hR' hO R'
     refine m3d ?_
     simp only [List.drop_succ_cons, List.drop_nil]
     go_wp2
     go_meet
     exact ⟨X, GW, GL, rfl, by omega, by omega, by omega, llD HX9.out, HX9, HGW9, HGL9, HT9, HB9⟩
    ·skip
     refine m3h rfl fun R' hR' hO => ?_
     obtain ⟨w4_440, hw4_440, hbn, hsn, hln⟩ := laid w3_371 #[.slice none 0 0, .slice none 0 0, .bool false] 25
     obtain ⟨X, hNMX⟩ := nm (w3_371.heap.size)
     rw [hNMX] at hln
     have nT0X : T0 < X := by have := llD KT0_6.out; omega
     have nLBX : LB < X := by have := llD KLB_8.out; omega
     have hVX : V.heap.size ≤ X := by have := HB_7.out.size; omega
     have KT0_9 := hid (klD KT0_6.out hbn)
     have HB_10 := hid (HB_7.out.trans (hbn.mono HB_7.out.size))
     have KLB_11 := hid (klD KLB_8.out hbn)
     have HGL_12 := hid (ogr HGL_0.out hbn)
     clear KT0_6 HB_7 KLB_8 HGL_0 hbn hsn
     have KX_13 := hid (hln)
     clear hln
     go_wp2
     skip
     refine hR' _ _ ⟨⟨w4_440⟩, rfl⟩ ?_
     clear hR' hO R'
     refine m3h rfl fun R' hR' hO => ?_
     have hmk : (Instr.makeSlice 22 (.int .i64 16) (.int .i64 16)).run Tryz.prog w4_440 = .ok (.slice (some ⟨w4_440.heap.size, 0, none⟩) 16 16) (w4_440.alloc (.cells z16 26)) := make_words w4_440 16 (by decide)
     obtain ⟨w5_458, hw5_458, hbn, hsn, hln⟩ := laid w4_440 z16 26
     obtain ⟨GW, hGW⟩ := nm (w4_440.heap.size)
     rw [hGW] at hln hmk
     rw [hw5_458] at hmk
     have hVGW : V.heap.size ≤ GW := by have := HB_10.out.size; omega
     have KT0_14 := hid (klD KT0_9.out hbn)
     have HB_15 := hid (HB_10.out.trans (hbn.mono HB_10.out.size))
     have KLB_16 := hid (klD KLB_11.out hbn)
     have HGL_17 := hid (ogr HGL_12.out hbn)
     have KX_18 := hid (klD KX_13.out hbn)
     clear KT0_9 HB_10 KLB_11 HGL_12 KX_13 hbn hsn
     have KGW_19 := hid (hln)
     clear hln
     go_wp2
     clear hmk hw5_458 hGW
     refine hR' _ _ ⟨⟨w5_458⟩, rfl⟩ ?_
     clear hR' hO R'
     repeat (refine m3q rfl rfl ?_; go_big_quiet_step (fail); refine wpQuiet_nil ?_)
     refine m3h rfl fun R' hR' hO => ?_
     go_wp2_with (refine wsP rfl 25 (.tmp 1) (.tmp 5) rfl X 0 _ #[.slice (some ⟨GW, 0, none⟩) 16 16, .slice (some ⟨GL, 0, none⟩) 16 16, .bool false] _ rfl rfl _ KX_18.out (by kernel_rfl) (Nat.le_of_ble_eq_true rfl) (by kernel_rfl) rfl ?_; intro u6_478 a1 a2 a3 a4; have HX9 := hid a1; have HGW9 := hid (a2 GW _ (fun e => absurd e (tyN KGW_19.out KX_18.out (by decide))) KGW_19.out); have HGL9 := hid (okp HGL_17.out fun k o hk ho => a2 k o (own_neT HGL_17.out KX_18.out (by decide) k hk) ho); have HT9 := hid (a2 T0 _ (tyN KT0_14.out KX_18.out (by decide)) KT0_14.out); have HB9 := hid (a3 V.heap.size V (by omega) HB_15.out); clear a1 a2 a3 a4; (try simp only [Act.put]))
     go_wp2
     skip
     refine hR' _ _ ⟨⟨u6_478⟩, rfl⟩ ?_
     clear hR' hO R'
     refine m3d ?_
     simp only [List.drop_succ_cons, List.drop_nil]
     go_wp2
     go_meet
     exact ⟨X, GW, GL, rfl, by omega, by omega, by omega, llD HX9.out, HX9, HGW9, HGL9, HT9, HB9⟩
   ·skip
    refine m3h rfl fun R' hR' hO => ?_
    obtain ⟨w3_490, hw3_490, hbn, hsn, hln⟩ := laid w2_235 #[.slice none 0 0, .slice none 0 0, .bool false] 25
    obtain ⟨X, hNMX⟩ := nm (w2_235.heap.size)
    rw [hNMX] at hln
    have nT0X : T0 < X := by have := llD KT0_3.out; omega
    have nLBX : LB < X := by have := llD KLB_5.out; omega
    have hVX : V.heap.size ≤ X := by have := HB_4.out.size; omega
    have KT0_6 := hid (klD KT0_3.out hbn)
    have HB_7 := hid (HB_4.out.trans (hbn.mono HB_4.out.size))
    have KLB_8 := hid (klD KLB_5.out hbn)
    clear KT0_3 HB_4 KLB_5 hbn hsn
    have KX_9 := hid (hln)
    clear hln
    go_wp2
    skip
    refine hR' _ _ ⟨⟨w3_490⟩, rfl⟩ ?_
    clear hR' hO R'
    refine wpMix3_h2 ?_ ?_
    ·skip
     refine m3h rfl fun R' hR' hO => ?_
     have hmk : (Instr.makeSlice 22 (.int .i64 16) (.int .i64 16)).run Tryz.prog w3_490 = .ok (.slice (some ⟨w3_490.heap.size, 0, none⟩) 16 16) (w3_490.alloc (.cells z16 26)) := make_words w3_490 16 (by decide)
     obtain ⟨w4_509, hw4_509, hbn, hsn, hln⟩ := laid w3_490 z16 26
     obtain ⟨GW, hGW⟩ := nm (w3_490.heap.size)
     rw [hGW] at hln hmk
     rw [hw4_509] at hmk
     have hVGW : V.heap.size ≤ GW := by have := HB_7.out.size; omega
     have KT0_10 := hid (klD KT0_6.out hbn)
     have HB_11 := hid (HB_7.out.trans (hbn.mono HB_7.out.size))
     have KLB_12 := hid (klD KLB_8.out hbn)
     have KX_13 := hid (klD KX_9.out hbn)
     clear KT0_6 HB_7 KLB_8 KX_9 hbn hsn
     have KGW_14 := hid (hln)
     clear hln
     go_wp2
     clear hmk hw4_509 hGW
     refine hR' _ _ ⟨⟨w4_509⟩, rfl⟩ ?_
     clear hR' hO R'
     refine m3h rfl fun R' hR' hO => ?_
     go_wp2_with fail
     refine (RepeatB_any true 16 LB w4_509 (clD (i := 0) KLB_12.out rfl) (llD KLB_12.out) (by decide) Mul_16).mono ?_
     rintro e w5_527 ⟨GL, rfl, hol, hbn⟩
     have hVGL : V.heap.size ≤ GL := Nat.le_trans HB_11.out.size (own_base_le hol)
     have HGL0 := hid (own_base hol HB_11.out.size)
     have KT0_15 := hid (klD KT0_10.out hbn)
     have HB_16 := hid (HB_11.out.trans (hbn.mono HB_11.out.size))
     have KLB_17 := hid (klD KLB_12.out hbn)
     have KX_18 := hid (klD KX_13.out hbn)
     have KGW_19 := hid (klD KGW_14.out hbn)
     clear KT0_10 HB_11 KLB_12 KX_13 KGW_14 hbn hol
     have HGL_0 := HGL0
     clear HGL0
     go_wp2
     skip
     refine hR' _ _ ⟨⟨w5_527⟩, rfl⟩ ?_
     clear hR' hO R'
     repeat (refine m3q rfl rfl ?_; go_big_quiet_step (fail); refine wpQuiet_nil ?_)
     refine m3h rfl fun R' hR' hO => ?_
     go_wp2_with (refine wsP rfl 25 (.tmp 1) (.tmp 5) rfl X 0 _ #[.slice (some ⟨GW, 0, none⟩) 16 16, .slice (some ⟨GL, 0, none⟩) 16 16, .bool false] _ rfl rfl _ KX_18.out (by kernel_rfl) (Nat.le_of_ble_eq_true rfl) (by kernel_rfl) rfl ?_; intro u6_546 a1 a2 a3 a4; have HX9 := hid a1; have HGW9 := hid (a2 GW _ (fun e => absurd e (tyN KGW_19.out KX_18.out (by decide))) KGW_19.out); have HGL9 := hid (okp HGL_0.out fun k o hk ho => a2 k o (own_neT HGL_0.out KX_18.out (by decide) k hk) ho); have HT9 := hid (a2 T0 _ (tyN KT0_15.out KX_18.out (by decide)) KT0_15.out); have HB9 := hid (a3 V.heap.size V (by omega) HB_16.out); clear a1 a2 a3 a4; (try simp only [Act.put]))
     go_wp2
     skip
     refine hR' _ _ ⟨⟨u6_546⟩, rfl⟩ ?_
     clear hR' hO R'
     refine m3d ?_
     simp only [List.drop_succ_cons, List.drop_nil]
     go_wp2
     go_meet
     exact ⟨X, GW, GL, rfl, by omega, by omega, by omega, llD HX9.out, HX9, HGW9, HGL9, HT9, HB9⟩
    ·skip
     refine m3h rfl fun R' hR' hO => ?_
     go_wp2_with fail
     refine (RepeatB_any true 16 LB w3_490 (clD (i := 0) KLB_8.out rfl) (llD KLB_8.out) (by decide) Mul_16).mono ?_
     rintro e w4_558 ⟨GL, rfl, hol, hbn⟩
     have hVGL : V.heap.size ≤ GL := Nat.le_trans HB_7.out.size (own_base_le hol)
     have HGL0 := hid (own_base hol HB_7.out.size)
     have KT0_10 := hid (klD KT0_6.out hbn)
     have HB_11 := hid (HB_7.out.trans (hbn.mono HB_7.out.size))
     have KLB_12 := hid (klD KLB_8.out hbn)
     have KX_13 := hid (klD KX_9.out hbn)
     clear KT0_6 HB_7 KLB_8 KX_9 hbn hol
     have HGL_0 := HGL0
     clear HGL0
     go_wp2
     skip
     refine hR' _ _ ⟨⟨w4_558⟩, rfl⟩ ?_
     clear hR' hO R'
     refine m3h rfl fun R' hR' hO => ?_
     have hmk : (Instr.makeSlice 22 (.int .i64 16) (.int .i64 16)).run Tryz.prog w4_558 = .ok (.slice (some ⟨w4_558.heap.size, 0, none⟩) 16 16) (w4_558.alloc (.cells z16 26)) := make_words w4_558 16 (by decide)
     obtain ⟨w5_575, hw5_575, hbn, hsn, hln⟩ := laid w4_558 z16 26
     obtain ⟨GW, hGW⟩ := nm (w4_558.heap.size)
     rw [hGW] at hln hmk
     rw [hw5_575] at hmk
     have hVGW : V.heap.size ≤ GW := by have := HB_11.out.size; omega
     have KT0_14 := hid (klD KT0_10.out hbn)
     have HB_15 := hid (HB_11.out.trans (hbn.mono HB_11.out.size))
     have KLB_16 := hid (klD KLB_12.out hbn)
     have KX_17 := hid (klD KX_13.out hbn)
     have HGL_18 := hid (ogr HGL_0.out hbn)
     clear KT0_10 HB_11 KLB_12 KX_13 HGL_0 hbn hsn
     have KGW_19 := hid (hln)
     clear hln
     go_wp2
     clear hmk hw5_575 hGW
     refine hR' _ _ ⟨⟨w5_575⟩, rfl⟩ ?_
     clear hR' hO R'
     repeat (refine m3q rfl rfl ?_; go_big_quiet_step (fail); refine wpQuiet_nil ?_)
     refine m3h rfl fun R' hR' hO => ?_
     go_wp2_with (refine wsP rfl 25 (.tmp 1) (.tmp 5) rfl X 0 _ #[.slice (some ⟨GW, 0, none⟩) 16 16, .slice (some ⟨GL, 0, none⟩) 16 16, .bool false] _ rfl rfl _ KX_17.out (by kernel_rfl) (Nat.le_of_ble_eq_true rfl) (by kernel_rfl) rfl ?_; intro u6_595 a1 a2 a3 a4; have HX9 := hid a1; have HGW9 := hid (a2 GW _ (fun e => absurd e (tyN KGW_19.out KX_17.out (by decide))) KGW_19.out); have HGL9 := hid (okp HGL_18.out fun k o hk ho => a2 k o (own_neT HGL_18.out KX_17.out (by decide) k hk) ho); have HT9 := hid (a2 T0 _ (tyN KT0_14.out KX_17.out (by decide)) KT0_14.out); have HB9 := hid (a3 V.heap.size V (by omega) HB_15.out); clear a1 a2 a3 a4; (try simp only [Act.put]))
     go_wp2
     skip
     refine hR' _ _ ⟨⟨u6_595⟩, rfl⟩ ?_
     clear hR' hO R'
     refine m3d ?_
     simp only [List.drop_succ_cons, List.drop_nil]
     go_wp2
     go_meet
     exact ⟨X, GW, GL, rfl, by omega, by omega, by omega, llD HX9.out, HX9, HGW9, HGL9, HT9, HB9⟩
  ·skip
   refine m3h rfl fun R' hR' hO => ?_
   obtain ⟨w2_607, hw2_607, hbn, hsn, hln⟩ := laid D1_19 #[.slice none 0 0, .slice none 0 0, .bool false] 25
   obtain ⟨X, hNMX⟩ := nm (D1_19.heap.size)
   rw [hNMX] at hln
   have nT0X : T0 < X := by have := llD KT0_1.out; omega
   have hVX : V.heap.size ≤ X := by have := HB_2.out.size; omega
   have KT0_3 := hid (klD KT0_1.out hbn)
   have HB_4 := hid (HB_2.out.trans (hbn.mono HB_2.out.size))
   clear KT0_1 HB_2 hbn hsn
   have KX_5 := hid (hln)
   clear hln
   go_wp2
   skip
   refine hR' _ _ ⟨⟨w2_607⟩, rfl⟩ ?_
   clear hR' hO R'
   refine wpMix3_h2 ?_ ?_
   ·skip
    refine m3h rfl fun R' hR' hO => ?_
    have hmk : (Instr.makeSlice 22 (.int .i64 16) (.int .i64 16)).run Tryz.prog w2_607 = .ok (.slice (some ⟨w2_607.heap.size, 0, none⟩) 16 16) (w2_607.alloc (.cells z16 26)) := make_words w2_607 16 (by decide)
    obtain ⟨w3_624, hw3_624, hbn, hsn, hln⟩ := laid w2_607 z16 26
    obtain ⟨GW, hGW⟩ := nm (w2_607.heap.size)
    rw [hGW] at hln hmk
    rw [hw3_624] at hmk
    have hVGW : V.heap.size ≤ GW := by have := HB_4.out.size; omega
    have KT0_6 := hid (klD KT0_3.out hbn)
    have HB_7 := hid (HB_4.out.trans (hbn.mono HB_4.out.size))
    have KX_8 := hid (klD KX_5.out hbn)
    clear KT0_3 HB_4 KX_5 hbn hsn
    have KGW_9 := hid (hln)
    clear hln
    go_wp2
    clear hmk hw3_624 hGW
    refine hR' _ _ ⟨⟨w3_624⟩, rfl⟩ ?_
    clear hR' hO R'
    refine m3h rfl fun R' hR' hO => ?_
    obtain ⟨w4_641, hw4_641, hbn, hsn, hln⟩ := laid w3_624 #[.bool true] 4
    obtain ⟨LB, hNMLB⟩ := nm (w3_624.heap.size)
    rw [hNMLB] at hln
    have nT0LB : T0 < LB := by have := llD KT0_6.out; omega
    have nXLB : X < LB := by have := llD KX_8.out; omega
    have nGWLB : GW < LB := by have := llD KGW_9.out; omega
    have hVLB : V.heap.size ≤ LB := by have := HB_7.out.size; omega
    have KT0_10 := hid (klD KT0_6.out hbn)
    have HB_11 := hid (HB_7.out.trans (hbn.mono HB_7.out.size))
    have KX_12 := hid (klD KX_8.out hbn)
    have KGW_13 := hid (klD KGW_9.out hbn)
    clear KT0_6 HB_7 KX_8 KGW_9 hbn hsn
    have KLB_14 := hid (hln)
    clear hln
    go_wp2
    skip
    refine hR' _ _ ⟨⟨w4_641⟩, rfl⟩ ?_
    clear hR' hO R'
    refine m3h rfl fun R' hR' hO => ?_
    go_wp2_with fail
    refine (RepeatB_any true 16 LB w4_641 (clD (i := 0) KLB_14.out rfl) (llD KLB_14.out) (by decide) Mul_16).mono ?_
    rintro e w5_660 ⟨GL, rfl, hol, hbn⟩
    have hVGL : V.heap.size ≤ GL := Nat.le_trans HB_11.out.size (own_base_le hol)
    have HGL0 := hid (own_base hol HB_11.out.size)
    have KT0_15 := hid (klD KT0_10.out hbn)
    have HB_16 := hid (HB_11.out.trans (hbn.mono HB_11.out.size))
    have KX_17 := hid (klD KX_12.out hbn)
    have KGW_18 := hid (klD KGW_13.out hbn)
    have KLB_19 := hid (klD KLB_14.out hbn)
    clear KT0_10 HB_11 KX_12 KGW_13 KLB_14 hbn hol
    have HGL_0 := HGL0
    clear HGL0
    go_wp2
    skip
    refine hR' _ _ ⟨⟨w5_660⟩, rfl⟩ ?_
    clear hR' hO R'
    repeat (refine m3q rfl rfl ?_; go_big_quiet_step (fail); refine wpQuiet_nil ?_)
    refine m3h rfl fun R' hR' hO => ?_
    go_wp2_with (refine wsP rfl 25 (.tmp 1) (.tmp 5) rfl X 0 _ #[.slice (some ⟨GW, 0, none⟩) 16 16, .slice (some ⟨GL, 0, none⟩) 16 16, .bool false] _ rfl rfl _ KX_17.out (by kernel_rfl) (Nat.le_of_ble_eq_true rfl) (by kernel_rfl) rfl ?_; intro u6_679 a1 a2 a3 a4; have HX9 := hid a1; have HGW9 := hid (a2 GW _ (fun e => absurd e (tyN KGW_18.out KX_17.out (by decide))) KGW_18.out); have HGL9 := hid (okp HGL_0.out fun k o hk ho => a2 k o (own_neT HGL_0.out KX_17.out (by decide) k hk) ho); have HT9 := hid (a2 T0 _ (tyN KT0_15.out KX_17.out (by decide)) KT0_15.out); have HB9 := hid (a3 V.heap.size V (by omega) HB_16.out); clear a1 a2 a3 a4; (try simp only [Act.put]))
    go_wp2
    skip
    refine hR' _ _ ⟨⟨u6_679⟩, rfl⟩ ?_
    clear hR' hO R'
    refine m3d ?_
    simp only [List.drop_succ_cons, List.drop_nil]
    go_wp2
    go_meet
    exact ⟨X, GW, GL, rfl, by omega, by omega, by omega, llD HX9.out, HX9, HGW9, HGL9, HT9, HB9⟩
   ·skip
    refine m3h rfl fun R' hR' hO => ?_
    obtain ⟨w3_691, hw3_691, hbn, hsn, hln⟩ := laid w2_607 #[.bool true] 4
    obtain ⟨LB, hNMLB⟩ := nm (w2_607.heap.size)
    rw [hNMLB] at hln
    have nT0LB : T0 < LB := by have := llD KT0_3.out; omega
    have nXLB : X < LB := by have := llD KX_5.out; omega
    have hVLB : V.heap.size ≤ LB := by have := HB_4.out.size; omega
    have KT0_6 := hid (klD KT0_3.out hbn)
    have HB_7 := hid (HB_4.out.trans (hbn.mono HB_4.out.size))
    have KX_8 := hid (klD KX_5.out hbn)
    clear KT0_3 HB_4 KX_5 hbn hsn
    have KLB_9 := hid (hln)
    clear hln
    go_wp2
    skip
    refine hR' _ _ ⟨⟨w3_691⟩, rfl⟩ ?_
    clear hR' hO R'
    refine wpMix3_h2 ?_ ?_
    ·skip
     refine m3h rfl fun R' hR' hO => ?_
     have hmk : (Instr.makeSlice 22 (.int .i64 16) (.int .i64 16)).run Tryz.prog w3_691 = .ok (.slice (some ⟨w3_691.heap.size, 0, none⟩) 16 16) (w3_691.alloc (.cells z16 26)) := make_words w3_691 16 (by decide)
     obtain ⟨w4_710, hw4_710, hbn, hsn, hln⟩ := laid w3_691 z16 26
     obtain ⟨GW, hGW⟩ := nm (w3_691.heap.size)
     rw [hGW] at hln hmk
     rw [hw4_710] at hmk
     have hVGW : V.heap.size ≤ GW := by have := HB_7.out.size; omega
     have KT0_10 := hid (klD KT0_6.out hbn)
     have HB_11 := hid (HB_7.out.trans (hbn.mono HB_7.out.size))
     have KX_12 := hid (klD KX_8.out hbn)
     have KLB_13 := hid (klD KLB_9.out hbn)
     clear KT0_6 HB_7 KX_8 KLB_9 hbn hsn
     have KGW_14 := hid (hln)
     clear hln
     go_wp2
     clear hmk hw4_710 hGW
     refine hR' _ _ ⟨⟨w4_710⟩, rfl⟩ ?_
     clear hR' hO R'
     refine m3h rfl fun R' hR' hO => ?_
     go_wp2_with fail
     refine (RepeatB_any true 16 LB w4_710 (clD (i := 0) KLB_13.out rfl) (llD KLB_13.out) (by decide) Mul_16).mono ?_
     rintro e w5_728 ⟨GL, rfl, hol, hbn⟩
     have hVGL : V.heap.size ≤ GL := Nat.le_trans HB_11.out.size (own_base_le hol)
     have HGL0 := hid (own_base hol HB_11.out.size)
     have KT0_15 := hid (klD KT0_10.out hbn)
     have HB_16 := hid (HB_11.out.trans (hbn.mono HB_11.out.size))
     have KX_17 := hid (klD KX_12.out hbn)
     have KLB_18 := hid (klD KLB_13.out hbn)
     have KGW_19 := hid (klD KGW_14.out hbn)
     clear KT0_10 HB_11 KX_12 KLB_13 KGW_14 hbn hol
     have HGL_0 := HGL0
     clear HGL0
     go_wp2
     skip
     refine hR' _ _ ⟨⟨w5_728⟩, rfl⟩ ?_
     clear hR' hO R'
     repeat (refine m3q rfl rfl ?_; go_big_quiet_step (fail); refine wpQuiet_nil ?_)
     refine m3h rfl fun R' hR' hO => ?_
     go_wp2_with (refine wsP rfl 25 (.tmp 1) (.tmp 5) rfl X 0 _ #[.slice (some ⟨GW, 0, none⟩) 16 16, .slice (some ⟨GL, 0, none⟩) 16 16, .bool false] _ rfl rfl _ KX_17.out (by kernel_rfl) (Nat.le_of_ble_eq_true rfl) (by kernel_rfl) rfl ?_; intro u6_747 a1 a2 a3 a4; have HX9 := hid a1; have HGW9 := hid (a2 GW _ (fun e => absurd e (tyN KGW_19.out KX_17.out (by decide))) KGW_19.out); have HGL9 := hid (okp HGL_0.out fun k o hk ho => a2 k o (own_neT HGL_0.out KX_17.out (by decide) k hk) ho); have HT9 := hid (a2 T0 _ (tyN KT0_15.out KX_17.out (by decide)) KT0_15.out); have HB9 := hid (a3 V.heap.size V (by omega) HB_16.out); clear a1 a2 a3 a4; (try simp only [Act.put]))
     go_wp2
     skip
     refine hR' _ _ ⟨⟨u6_747⟩, rfl⟩ ?_
     clear hR' hO R'
     refine m3d ?_
     simp only [List.drop_succ_cons, List.drop_nil]
     go_wp2
     go_meet
     exact ⟨X, GW, GL, rfl, by omega, by omega, by omega, llD HX9.out, HX9, HGW9, HGL9, HT9, HB9⟩
    ·skip
     refine m3h rfl fun R' hR' hO => ?_
     go_wp2_with fail
     refine (RepeatB_any true 16 LB w3_691 (clD (i := 0) KLB_9.out rfl) (llD KLB_9.out) (by decide) Mul_16).mono ?_
     rintro e w4_759 ⟨GL, rfl, hol, hbn⟩
     have hVGL : V.heap.size ≤ GL := Nat.le_trans HB_7.out.size (own_base_le hol)
     have HGL0 := hid (own_base hol HB_7.out.size)
     have KT0_10 := hid (klD KT0_6.out hbn)
     have HB_11 := hid (HB_7.out.trans (hbn.mono HB_7.out.size))
     have KX_12 := hid (klD KX_8.out hbn)
     have KLB_13 := hid (klD KLB_9.out hbn)
     clear KT0_6 HB_7 KX_8 KLB_9 hbn hol
     have HGL_0 := HGL0
     clear HGL0
     go_wp2
     skip
     refine hR' _ _ ⟨⟨w4_759⟩, rfl⟩ ?_
     clear hR' hO R'
     refine m3h rfl fun R' hR' hO => ?_
     have hmk : (Instr.makeSlice 22 (.int .i64 16) (.int .i64 16)).run Tryz.prog w4_759 = .ok (.slice (some ⟨w4_759.heap.size, 0, none⟩) 16 16) (w4_759.alloc (.cells z16 26)) := make_words w4_759 16 (by decide)
     obtain ⟨w5_776, hw5_776, hbn, hsn, hln⟩ := laid w4_759 z16 26
     obtain ⟨GW, hGW⟩ := nm (w4_759.heap.size)
     rw [hGW] at hln hmk
     rw [hw5_776] at hmk
     have hVGW : V.heap.size ≤ GW := by have := HB_11.out.size; omega
     have KT0_14 := hid (klD KT0_10.out hbn)
     have HB_15 := hid (HB_11.out.trans (hbn.mono HB_11.out.size))
     have KX_16 := hid (klD KX_12.out hbn)
     have KLB_17 := hid (klD KLB_13.out hbn)
     have HGL_18 := hid (ogr HGL_0.out hbn)
     clear KT0_10 HB_11 KX_12 KLB_13 HGL_0 hbn hsn
     have KGW_19 := hid (hln)
     clear hln
     go_wp2
     clear hmk hw5_776 hGW
     refine hR' _ _ ⟨⟨w5_776⟩, rfl⟩ ?_
     clear hR' hO R'
     repeat (refine m3q rfl rfl ?_; go_big_quiet_step (fail); refine wpQuiet_nil ?_)
     refine m3h rfl fun R' hR' hO => ?_
     go_wp2_with (refine wsP rfl 25 (.tmp 1) (.tmp 5) rfl X 0 _ #[.slice (some ⟨GW, 0, none⟩) 16 16, .slice (some ⟨GL, 0, none⟩) 16 16, .bool false] _ rfl rfl _ KX_16.out (by kernel_rfl) (Nat.le_of_ble_eq_true rfl) (by kernel_rfl) rfl ?_; intro u6_796 a1 a2 a3 a4; have HX9 := hid a1; have HGW9 := hid (a2 GW _ (fun e => absurd e (tyN KGW_19.out KX_16.out (by decide))) KGW_19.out); have HGL9 := hid (okp HGL_18.out fun k o hk ho => a2 k o (own_neT HGL_18.out KX_16.out (by decide) k hk) ho); have HT9 := hid (a2 T0 _ (tyN KT0_14.out KX_16.out (by decide)) KT0_14.out); have HB9 := hid (a3 V.heap.size V (by omega) HB_15.out); clear a1 a2 a3 a4; (try simp only [Act.put]))
     go_wp2
     skip
     refine hR' _ _ ⟨⟨u6_796⟩, rfl⟩ ?_
     clear hR' hO R'
     refine m3d ?_
     simp only [List.drop_succ_cons, List.drop_nil]
     go_wp2
     go_meet
     exact ⟨X, GW, GL, rfl, by omega, by omega, by omega, llD HX9.out, HX9, HGW9, HGL9, HT9, HB9⟩
 case rest =>
  clear KT0 HB
  obtain ⟨X, GW, GL, rfl, hVX, hVGW, hVGL, hXw, HX, HGW, HGL, HT, HB⟩ := hcut
  obtain ⟨w1, hw1⟩ : ∃ W, W = wc := ⟨_, rfl⟩
  subst hw1
  go_wp2
  haveI : Nonempty (RMm X #[.slice (some ⟨GW, 0, none⟩) 16 16, .slice (some ⟨GL, 0, none⟩) 16 16, .bool false]) := ⟨⟨w1, HX.out⟩⟩
  have q0 : ∀ z : RMm X #[.slice (some ⟨GW, 0, none⟩) 16 16, .slice (some ⟨GL, 0, none⟩) 16 16, .bool false], z.w.cell? ⟨X, 0, none⟩ = some (.slice (some ⟨GW, 0, none⟩) 16 16) := fun z => clD (i := 0) z.bx rfl
  have hVT1 := hTV
  obtain ⟨D1_815, hD⟩ := nm (w1.drew)
  have hbD : Below w1.heap.size w1 D1_815 := by rw [← hD]; exact (Below.refl _ _).drew
  have HD := hid hD
  clear hD
  have HX_1 := hid (klD HX.out hbD)
  have HGW_2 := hid (klD HGW.out hbD)
  have HGL_3 := hid (ogr HGL.out hbD)
  have HT_4 := hid (klD HT.out hbD)
  have HB_5 := hid (HB.out.trans (hbD.mono HB.out.size))
  clear HX HGW HGL HT HB hbD
  refine rgm2 (fun W => ∃ z : RMm X #[.slice (some ⟨GW, 0, none⟩) 16 16, .slice (some ⟨GL, 0, none⟩) 16 16, .bool false], W = z.w) 16 (.q 0 (.q 1 (.q 2 (.q 3 (.q 4 (.q 5 (.q 6 (.q 7 (.q 8 (.h 9 (.q 10 (.h 11 (.q 12 (.h 13 (.q 14 (.h 15 (.done))))))))))))))))) (by kernel_rfl) (by kernel_rfl) (by rw [HD.out]; exact ⟨⟨D1_815, HX_1.out⟩, rfl⟩) ?_
  rw [HD.out]
  repeat (refine m2q rfl rfl ?_; go_big_quiet_step (fail); refine wpQuiet_nil ?_)
  refine m2h rfl fun R' hR' hO => ?_
  go_wp2_with (refine wsP rfl 26 (.tmp 14) (.const (.int .u64 4)) rfl GW 0 _ #[.int .u64 4, .int .u64 0, .int .u64 0, .int .u64 0, .int .u64 0, .int .u64 0, .int .u64 0, .int .u64 0, .int .u64 0, .int .u64 0, .int .u64 0, .int .u64 0, .int .u64 0, .int .u64 0, .int .u64 0, .int .u64 0] _ rfl rfl _ HGW_2.out (by kernel_rfl) (Nat.le_of_ble_eq_true rfl) (by kernel_rfl) rfl ?_; intro u2_829 a1 a2 a3 a4; have HGWx1 := hid a1; have HXx1 := hid (a2 X _ (tyN HX_1.out HGW_2.out (by decide)) HX_1.out); have HGLx1 := hid (okp HGL_3.out fun k o hk ho => a2 k o (own_neT HGL_3.out HGW_2.out (by decide) k hk) ho); have HTx1 := hid (a2 T0 _ (tyN HT_4.out HGW_2.out (by decide)) HT_4.out); have HBx1 := hid (a3 V.heap.size V hVGW HB_5.out); clear a1 a2 a3 a4 HX_1 HGW_2 HGL_3 HT_4 HB_5; (try simp only [Act.put]))
  have HX := HXx1
  have HGW := HGWx1
  have HGL := HGLx1
  have HT := HTx1
  have HB := HBx1
  clear HXx1 HGWx1 HGLx1 HTx1 HBx1
  go_wp2
  skip
  refine hR' _ _ ⟨⟨u2_829, HX.out⟩, rfl⟩ ?_
  clear hR' hO R'
  repeat (refine m2q rfl rfl ?_; go_big_quiet_step (fail); refine wpQuiet_nil ?_)
  refine m2h rfl fun R' hR' hO => ?_
  go_wp2_with (refine wsP rfl 26 (.tmp 15) (.const (.int .u64 7)) rfl GW 4 _ #[.int .u64 4, .int .u64 0, .int .u64 0, .int .u64 0, .int .u64 7, .int .u64 0, .int .u64 0, .int .u64 0, .int .u64 0, .int .u64 0, .int .u64 0, .int .u64 0, .int .u64 0, .int .u64 0, .int .u64 0, .int .u64 0] _ rfl rfl _ HGW.out (by kernel_rfl) (Nat.le_of_ble_eq_true rfl) (by kernel_rfl) rfl ?_; intro u3_842 a1 a2 a3 a4; have HGWx2 := hid a1; have HXx2 := hid (a2 X _ (tyN HX.out HGW.out (by decide)) HX.out); have HGLx2 := hid (okp HGL.out fun k o hk ho => a2 k o (own_neT HGL.out HGW.out (by decide) k hk) ho); have HTx2 := hid (a2 T0 _ (tyN HT.out HGW.out (by decide)) HT.out); have HBx2 := hid (a3 V.heap.size V hVGW HB.out); clear a1 a2 a3 a4 HX HGW HGL HT HB; (try simp only [Act.put]))
  have HX := HXx2
  have HGW := HGWx2
  have HGL := HGLx2
  have HT := HTx2
  have HB := HBx2
  clear HXx2 HGWx2 HGLx2 HTx2 HBx2
  go_wp2
  skip
  refine hR' _ _ ⟨⟨u3_842, HX.out⟩, rfl⟩ ?_
  clear hR' hO R'
  repeat (refine m2q rfl rfl ?_; go_big_quiet_step (fail); refine wpQuiet_nil ?_)
  refine m2h rfl fun R' hR' hO => ?_
  go_wp2_with (refine wsP rfl 26 (.tmp 16) (.const (.int .u64 70)) rfl GW 5 _ #[.int .u64 4, .int .u64 0, .int .u64 0, .int .u64 0, .int .u64 7, .int .u64 70, .int .u64 0, .int .u64 0, .int .u64 0, .int .u64 0, .int .u64 0, .int .u64 0, .int .u64 0, .int .u64 0, .int .u64 0, .int .u64 0] _ rfl rfl _ HGW.out (by kernel_rfl) (Nat.le_of_ble_eq_true rfl) (by kernel_rfl) rfl ?_; intro u4_855 a1 a2 a3 a4; have HGWx3 := hid a1; have HXx3 := hid (a2 X _ (tyN HX.out HGW.out (by decide)) HX.out); have HGLx3 := hid (okp HGL.out fun k o hk ho => a2 k o (own_neT HGL.out HGW.out (by decide) k hk) ho); have HTx3 := hid (a2 T0 _ (tyN HT.out HGW.out (by decide)) HT.out); have HBx3 := hid (a3 V.heap.size V hVGW HB.out); clear a1 a2 a3 a4 HX HGW HGL HT HB; (try simp only [Act.put]))
  have HX := HXx3
  have HGW := HGWx3
  have HGL := HGLx3
  have HT := HTx3
  have HB := HBx3
  clear HXx3 HGWx3 HGLx3 HTx3 HBx3
  go_wp2
  skip
  refine hR' _ _ ⟨⟨u4_855, HX.out⟩, rfl⟩ ?_
  clear hR' hO R'
  repeat (refine m2q rfl rfl ?_; go_big_quiet_step (fail); refine wpQuiet_nil ?_)
  refine m2h rfl fun R' hR' hO => ?_
  go_wp2_with (refine wsP rfl 26 (.tmp 17) (.const (.int .u64 2)) rfl GW 7 _ #[.int .u64 4, .int .u64 0, .int .u64 0, .int .u64 0, .int .u64 7, .int .u64 70, .int .u64 0, .int .u64 2, .int .u64 0, .int .u64 0, .int .u64 0, .int .u64 0, .int .u64 0, .int .u64 0, .int .u64 0, .int .u64 0] _ rfl rfl _ HGW.out (by kernel_rfl) (Nat.le_of_ble_eq_true rfl) (by kernel_rfl) rfl ?_; intro u5_868 a1 a2 a3 a4; have HGWx4 := hid a1; have HXx4 := hid (a2 X _ (tyN HX.out HGW.out (by decide)) HX.out); have HGLx4 := hid (okp HGL.out fun k o hk ho => a2 k o (own_neT HGL.out HGW.out (by decide) k hk) ho); have HTx4 := hid (a2 T0 _ (tyN HT.out HGW.out (by decide)) HT.out); have HBx4 := hid (a3 V.heap.size V hVGW HB.out); clear a1 a2 a3 a4 HX HGW HGL HT HB; (try simp only [Act.put]))
  have HX := HXx4
  have HGW := HGWx4
  have HGL := HGLx4
  have HT := HTx4
  have HB := HBx4
  clear HXx4 HGWx4 HGLx4 HTx4 HBx4
  go_wp2
  skip
  refine hR' _ _ ⟨⟨u5_868, HX.out⟩, rfl⟩ ?_
  clear hR' hO R'
  refine m2d ?_
  simp only [List.drop_succ_cons, List.drop_nil]
  clear q0
  have x0 := clD (i := 0) HX.out rfl
  have x1 := clD (i := 1) HX.out rfl
  have x2 := clD (i := 2) HX.out rfl
  obtain ⟨w6_885, hw6_885, hbn, hsn, hln⟩ := laid u5_868 #[.bool true, .int .u64 0, .int .u64 7, .int .u64 0, .int .u64 2] 66
  obtain ⟨JB, hNMJB⟩ := nm (u5_868.heap.size)
  rw [hNMJB] at hln
  have nXJB : X < JB := by have := llD HX.out; omega
  have nGWJB : GW < JB := by have := llD HGW.out; omega
  have nT0JB : T0 < JB := by have := llD HT.out; omega
  have hVJB : V.heap.size ≤ JB := by have := HB.out.size; omega
  have HX_6 := hid (klD HX.out hbn)
  have HGW_7 := hid (klD HGW.out hbn)
  have HGL_8 := hid (ogr HGL.out hbn)
  have HT_9 := hid (klD HT.out hbn)
  have HB_10 := hid (HB.out.trans (hbn.mono HB.out.size))
  clear HX HGW HGL HT HB hbn hsn
  have KJB_11 := hid (hln)
  clear hln
  obtain ⟨w7_900, hw7_900, hbn, hsn, hln⟩ := laid w6_885 #[.int .u64 2, .int .u64 7] 68
  obtain ⟨KB, hNMKB⟩ := nm (w6_885.heap.size)
  rw [hNMKB] at hln
  have nXKB : X < KB := by have := llD HX_6.out; omega
  have nGWKB : GW < KB := by have := llD HGW_7.out; omega
  have nT0KB : T0 < KB := by have := llD HT_9.out; omega
  have nJBKB : JB < KB := by have := llD KJB_11.out; omega
  have hVKB : V.heap.size ≤ KB := by have := HB_10.out.size; omega
  have HX_12 := hid (klD HX_6.out hbn)
  have HGW_13 := hid (klD HGW_7.out hbn)
  have HGL_14 := hid (ogr HGL_8.out hbn)
  have HT_15 := hid (klD HT_9.out hbn)
  have HB_16 := hid (HB_10.out.trans (hbn.mono HB_10.out.size))
  have KJB_17 := hid (klD KJB_11.out hbn)
  clear HX_6 HGW_7 HGL_8 HT_9 HB_10 KJB_11 hbn hsn
  have KKB_18 := hid (hln)
  clear hln
  go_wp2_with (refine wsP rfl 30 (.tmp 0) (.tmp 24) rfl T0 0 _ #[.slice (some ⟨GW, 0, none⟩) 16 16, .slice (some ⟨GL, 0, none⟩) 16 16, .bool false, .int .u64 0, .slice (some ⟨JB, 0, none⟩) 1 1, .slice (some ⟨KB, 0, none⟩) 1 1] _ rfl rfl _ HT_15.out (by kernel_rfl) (Nat.le_of_ble_eq_true rfl) (by kernel_rfl) rfl ?_; intro u9 a1 a2 a3 a4; have HT9 := hid a1; have HGW9 := hid (a2 GW _ (tyN HGW_13.out HT_15.out (by decide)) HGW_13.out); have HGL9 := hid (okp HGL_14.out fun k o hk ho => a2 k o (own_neT HGL_14.out HT_15.out (by decide) k hk) ho); have HJ9 := hid (a2 JB _ (tyN KJB_17.out HT_15.out (by decide)) KJB_17.out); have HK9 := hid (a2 KB _ (tyN KKB_18.out HT_15.out (by decide)) KKB_18.out); have HB9 := hid (a3 V.heap.size V hVT1 HB_16.out); clear a1 a2 a3 a4; (try simp only [Act.put]))
  refine bodyPost_ret (small_result HT9.out rfl) rfl ?_
  have hJ1 := own_lit (base := 0) (n := 1) (size := 5) (xs := jbcells wSmall.J) HJ9.out (Nat.zero_le _) (by decide) rfl rfl
  have hK1 := own_lit (base := 0) (n := 1) (size := 2) (xs := kycells wSmall.K) HK9.out (Nat.zero_le _) (by decide) rfl rfl
  have hW1 := own_lit (base := 0) (n := 16) (size := 1) (xs := wcells wSmall.M.W) HGW9.out (Nat.zero_le _) (by decide) rfl rfl
  exact ⟨_, _, _, _, _, _, _, _, rfl, ⟨⟨by rw [wSmall_len.1]; exact Leads.of_own1 hW1, by rw [wSmall_len.2]; exact Leads.of_own1 HGL9.out⟩, by decide, by decide, Leads.of_own1 hJ1, rfl, wSmall_jok, Leads.of_own1 hK1, rfl, by decide⟩, HB9.out⟩
end Go.Proofs.YtipohagcppfgiaaGreat
namespace Go.Proofs.YtipohagcppfgiaaGreat
open Go.RowKit
open Go.Proofs
set_option linter.unusedVariables false
attribute [local go_sem] Oper.semAt_some
def kM1 : Mem := ⟨[0, 0, 0, 0, 7, 70, 0, 2, 0, 0, 0, 0, 0, 0, 0, 0], List.replicate 16 true, false⟩
def kG1 : Gst := ⟨kM1, 1, false, zeroEd, zeroSk, [⟨2, 2, 7, 0, 4, 0, false⟩]⟩
def kG2 : Gst := ⟨kM1, 1, false, zeroEd, zeroSk, [⟨4, 2, 7, 0, 4, 70, true⟩]⟩
def kG3 : Gst := ⟨kM1, 1, false, zeroEd, zeroSk, [⟨0, 2, 7, 0, 0, 0, false⟩]⟩
theorem kplay1 : playP wSmall [1, 1, 0, 0, 0, 0, 0, 0] = (kG1, 0) := by kernel_rfl
theorem kplay2 : playP wSmall [1, 1, 0, 0, 0, 0, 0, 0, 1, 1] = (kG2, 0) := by kernel_rfl
theorem kwhole : wholeP wSmall 6 = (kG3, 6, 0) := by kernel_rfl
theorem kafter : afterP wSmall 1 = ([], 0) := by kernel_rfl
theorem ksteps : AllSteps wSmall 6 := ⟨by decide +kernel, by kernel_rfl, by decide +kernel, by decide⟩
abbrev kw (wa : Option Addr) (wc : Nat) (la : Option Addr) (lc : Nat) (ja : Option Addr) (jc : Nat) (ka : Option Addr) (kc : Nat) : Value := .agg #[.slice wa 16 wc, .slice la 16 lc, .bool false, .int .u64 0, .slice ja 1 jc, .slice ka 1 kc]
abbrev kd (wa : Option Addr) (wc : Nat) (la : Option Addr) (lc : Nat) (ra : Option Addr) (rc : Nat) : Array Value := #[.slice wa 16 wc, .slice la 16 lc, .bool false, .int .i64 1, .bool false, .int .i64 0, .bool false, .int .u64 0, .int .u64 0, .int .u64 0, .int .u64 0, .int .u64 0, .int .u64 0, .int .i64 0, .int .u64 0, .int .u64 0, .int .u64 0, .int .u64 0, .int .u64 0, .bool false, .slice ra 1 rc]
def GivesK (R : List Sk) (vs : List Value) (V : World) (e : Ending) (W : World) : Prop := ∃ b wc la lc r rc, e = .returned (.tuple (#[.agg (kd (some ⟨b, 0, none⟩) wc la lc (some ⟨r, 0, none⟩) rc)] ++ vs.toArray)) ∧ W.cell? ⟨b, 0, none⟩ = some (.int .u64 0) ∧ b < W.heap.size ∧ r < W.heap.size ∧ (∀ i v, (skcells R)[i]? = some v → W.cell? ⟨r, i, none⟩ = some v) ∧ Below V.heap.size V W
theorem own_some {W : World} {base n size cap : Nat} {e : TypeId} {a : Option Addr} {xs : List Value} (h : W.ownsRow base e size (.slice a n cap) n xs) (hn : 0 < n) : ∃ g, a = some ⟨g, 0, none⟩ ∧ g < W.heap.size ∧ ∀ i v, xs[i]? = some v → W.cell? ⟨g, i, none⟩ = some v := by
 obtain ⟨h1, h2, h | ⟨b, off, h3, h4, h5⟩⟩ := Leads.of_own1 h
 ·omega
 ·rcases h.2 with ⟨q, -⟩ | ⟨g, cap', cur, q, -⟩
  ·cases q; omega
  ·cases q
   cases h3
   exact ⟨_, rfl, h4, fun i v hv => by have := h5 i v hv; rwa [Nat.zero_add] at this⟩
theorem kgives {R : List Sk} {M : Mem} {vs : List Value} {V : World} {e : Ending} {W : World} {v : Value} (hM : M = kM1) (hR : R.length = 1) (h : GivesW ⟨M, 1, false, zeroEd, zeroSk, R⟩ V v W) (he : e = .returned (.tuple (#[v] ++ vs.toArray))) : GivesK R vs V e W := by
 subst hM
 obtain ⟨wa, wc, la, lc, ra, rc, rfl, hm, hr, hb⟩ := h
 dsimp only at hm hr he
 rw [hR] at hr he
 obtain ⟨b, rfl, hb1, hc⟩ := own_some hm.w (by decide)
 obtain ⟨r, rfl, hr1, hc2⟩ := own_some hr (by decide)
 exact ⟨b, wc, la, lc, r, rc, he, hc 0 _ rfl, hb1, hr1, hc2, hb⟩
set_option maxRecDepth 100000 in
set_option maxHeartbeats 16000000 in
theorem wakes_any (V : World) : Calls Tryz.prog 5 #[] V (Ret (.bool true) V) := by
 have H1 : Hid (∀ (W : World) (wa : Option Addr) (wc : Nat) (la : Option Addr) (lc : Nat) (ja : Option Addr) (jc : Nat) (ka : Option Addr) (kc : Nat), WalL W wa wc la lc ja 1 jc ka 1 kc wSmall → ∀ IB : Nat, W.heap[IB]? = some (.cells #[.int .i64 1, .int .i64 1, .int .i64 0, .int .i64 0, .int .i64 0, .int .i64 0, .int .i64 0, .int .i64 0] 3 (0, 0)) → Calls Tryz.prog 18 #[kw wa wc la lc ja jc ka kc, .slice (some ⟨IB, 0, none⟩) 8 8] W (GivesK kG1.R [.int .i64 0] W)) := hid (fun W wa wc la lc ja jc ka kc h IB hi => by
  have := Play_any wSmall [1, 1, 0, 0, 0, 0, 0, 0] (some ⟨IB, 0, none⟩) wa la ja ka 8 8 wc lc jc kc 1 1 W h (Leads.of_own1 (own_lit (base := 0) (size := 1) hi (Nat.zero_le _) (by decide) rfl rfl)) rfl (by decide) (by decide)
  rw [kplay1] at this
  exact this.mono fun e W' ⟨v, h1, h2⟩ => kgives rfl rfl h2 h1)
 have H2 : Hid (∀ (W : World) (wa : Option Addr) (wc : Nat) (la : Option Addr) (lc : Nat) (ja : Option Addr) (jc : Nat) (ka : Option Addr) (kc : Nat), WalL W wa wc la lc ja 1 jc ka 1 kc wSmall → ∀ IB : Nat, W.heap[IB]? = some (.cells #[.int .i64 1, .int .i64 1, .int .i64 0, .int .i64 0, .int .i64 0, .int .i64 0, .int .i64 0, .int .i64 0, .int .i64 1, .int .i64 1] 3 (0, 0)) → Calls Tryz.prog 18 #[kw wa wc la lc ja jc ka kc, .slice (some ⟨IB, 0, none⟩) 10 10] W (GivesK kG2.R [.int .i64 0] W)) := hid (fun W wa wc la lc ja jc ka kc h IB hi => by
  have := Play_any wSmall [1, 1, 0, 0, 0, 0, 0, 0, 1, 1] (some ⟨IB, 0, none⟩) wa la ja ka 10 10 wc lc jc kc 1 1 W h (Leads.of_own1 (own_lit (base := 0) (size := 1) hi (Nat.zero_le _) (by decide) rfl rfl)) rfl (by decide) (by decide)
  rw [kplay2] at this
  exact this.mono fun e W' ⟨v, h1, h2⟩ => kgives rfl rfl h2 h1)
 have H3 : Hid (∀ (W : World) (wa : Option Addr) (wc : Nat) (la : Option Addr) (lc : Nat) (ja : Option Addr) (jc : Nat) (ka : Option Addr) (kc : Nat), WalL W wa wc la lc ja 1 jc ka 1 kc wSmall → Calls Tryz.prog 11 #[kw wa wc la lc ja jc ka kc] W (GivesK kG3.R [.int .i64 6, .int .i64 0] W)) := hid (fun W wa wc la lc ja jc ka kc h => by
  have := Whole_any wSmall 6 wa la ja ka wc lc jc kc 1 1 W h (fun _ => ksteps)
  rw [kwhole] at this
  exact this.mono fun e W' ⟨v, h1, h2⟩ => kgives rfl rfl h2 h1)
 have H4 : Hid (∀ (W : World) (wa : Option Addr) (wc : Nat) (la : Option Addr) (lc : Nat) (ja : Option Addr) (jc : Nat) (ka : Option Addr) (kc : Nat), WalL W wa wc la lc ja 1 jc ka 1 kc wSmall → Calls Tryz.prog 8 #[kw wa wc la lc ja jc ka kc, .int .i64 1] W (GivesNd ([], 0) W)) := hid (fun W wa wc la lc ja jc ka kc h => by
  have := After_any wSmall 1 wa la ja ka wc lc jc kc 1 1 W h (by decide)
  rw [kafter] at this
  exact this)
 have HB := hid (Below.refl V.heap.size V)
 go_enter Tryz.func5, Tryz.ntmps5
 go_wp2_with fail
 refine (small_any V).mono ?_
 rintro e w1_22 ⟨wa1, wc1, la1, lc1, ja1, jc1, ka1, kc1, rfl, hw, hbn⟩
 have HB_1 := hid (HB.out.trans (hbn.mono HB.out.size))
 clear HB hbn
 have HW1 := hid hw
 clear hw
 obtain ⟨w2_29, hw2_29, hbn, hsn, hln⟩ := laid w1_22 #[.int .i64 1, .int .i64 1, .int .i64 0, .int .i64 0, .int .i64 0, .int .i64 0, .int .i64 0, .int .i64 0] 3
 obtain ⟨I1, hNMI1⟩ := nm (w1_22.heap.size)
 rw [hNMI1] at hln
 have hVI1 : V.heap.size ≤ I1 := by have := HB_1.out.size; omega
 have HB_2 := hid (HB_1.out.trans (hbn.mono HB_1.out.size))
 clear HB_1 hbn hsn
 have KI1_3 := hid (hln)
 clear hln
 have HWb1 := hid (HW1.out.grow (by rw [← hw2_29]; exact (Below.refl _ _).alloc (Nat.le_refl _) _ : Below w1_22.heap.size w1_22 w2_29))
 clear HW1
 go_wp2_with fail
 refine (H1.out w2_29 wa1 wc1 la1 lc1 ja1 jc1 ka1 kc1 HWb1.out I1 KI1_3.out).mono ?_
 rintro e w3_39 ⟨b1, xwc1, xla1, xlc1, r1, xrc1, rfl, hcw, hbw, hrw, hcr, hbn⟩
 have HB_4 := hid (HB_2.out.trans (hbn.mono HB_2.out.size))
 have KI1_5 := hid (klD KI1_3.out hbn)
 clear HB_2 KI1_3 hbn
 have hb1s := hbw
 have HCW1 := hid hcw
 have HCR1 := hid hcr
 clear hcw hcr hbw
 have HP1 : Hid (∀ W', Below w3_39.heap.size w3_39 W' → W'.cell? ⟨b1, 0, none⟩ = some (.int .u64 0) ∧ ∀ i v, (skcells kG1.R)[i]? = some v → W'.cell? ⟨r1, i, none⟩ = some v) := hid (fun W' hb => ⟨(hb.cell (p := ⟨b1, 0, none⟩) hb1s).trans HCW1.out, fun i v hv => (hb.cell (p := ⟨r1, i, none⟩) hrw).trans (HCR1.out i v hv)⟩)
 have HX1 := hid (Below.refl w3_39.heap.size w3_39)
 clear HCW1 HCR1 hb1s hrw
 have hzHB := HB_4.out.size
 have hzHX1 := HX1.out.size
 obtain ⟨w4_54, hw4_54, hbn, hsn, hln⟩ := laid w3_39 #[.slice none 0 0, .slice none 0 0, .bool false, .int .i64 0, .bool false, .int .i64 0, .bool false, .int .u64 0, .int .u64 0, .int .u64 0, .int .u64 0, .int .u64 0, .int .u64 0, .int .i64 0, .int .u64 0, .int .u64 0, .int .u64 0, .int .u64 0, .int .u64 0, .bool false, .slice none 0 0] 49
 obtain ⟨T1, hNMT1⟩ := nm (w3_39.heap.size)
 rw [hNMT1] at hln
 have nI1T1 : I1 < T1 := by have := llD KI1_5.out; omega
 have hVT1 : V.heap.size ≤ T1 := by have := HB_4.out.size; omega
 have HB_6 := hid (HB_4.out.trans (hbn.mono HB_4.out.size))
 have KI1_7 := hid (klD KI1_5.out hbn)
 have HX1_8 := hid (HX1.out.trans (hbn.mono HX1.out.size))
 clear HB_4 KI1_5 HX1 hbn hsn
 have KT1_9 := hid (hln)
 clear hln
 have hTb1 : w3_39.heap.size ≤ T1 := by omega
 go_upto_region 2 with (refine wsP rfl 49 (.tmp 1) (.tmp 14) rfl T1 0 _ (kd (some ⟨b1, 0, none⟩) xwc1 xla1 xlc1 (some ⟨r1, 0, none⟩) xrc1) _ rfl rfl _ KT1_9.out (by kernel_rfl) (Nat.le_of_ble_eq_true rfl) (by kernel_rfl) rfl ?_; intro u5_65 a1 a2 a3 a4; have HB_10 := hid (a3 _ _ (by omega) HB_6.out); have KI1_11 := hid (a2 I1 _ (by omega) KI1_7.out); have HX1_12 := hid (a3 _ _ (by omega) HX1_8.out); have KT1_13 := hid (a1); clear a1 a2 a3 a4 HB_6 KI1_7 HX1_8 KT1_9; (try simp only [Act.put]))
 clear hNMT1 hTb1 hzHB hzHX1
 clear hNMI1 HWb1 H1
 go_wp2_with fail
 refine (small_any u5_65).mono ?_
 rintro e w6_69 ⟨wa2, wc2, la2, lc2, ja2, jc2, ka2, kc2, rfl, hw, hbn⟩
 have HB_14 := hid (HB_10.out.trans (hbn.mono HB_10.out.size))
 have HX1_15 := hid (HX1_12.out.trans (hbn.mono HX1_12.out.size))
 have KT1_16 := hid (klD KT1_13.out hbn)
 clear HB_10 HX1_12 KT1_13 hbn
 have HW2 := hid hw
 clear hw
 obtain ⟨w7_78, hw7_78, hbn, hsn, hln⟩ := laid w6_69 #[.int .i64 1, .int .i64 1, .int .i64 0, .int .i64 0, .int .i64 0, .int .i64 0, .int .i64 0, .int .i64 0, .int .i64 1, .int .i64 1] 3
 obtain ⟨I2, hNMI2⟩ := nm (w6_69.heap.size)
 rw [hNMI2] at hln
 have nT1I2 : T1 < I2 := by have := llD KT1_16.out; omega
 have hVI2 : V.heap.size ≤ I2 := by have := HB_14.out.size; omega
 have HB_17 := hid (HB_14.out.trans (hbn.mono HB_14.out.size))
 have HX1_18 := hid (HX1_15.out.trans (hbn.mono HX1_15.out.size))
 have KT1_19 := hid (klD KT1_16.out hbn)
 clear HB_14 HX1_15 KT1_16 hbn hsn
 have KI2_20 := hid (hln)
 clear hln
 have HWb2 := hid (HW2.out.grow (by rw [← hw7_78]; exact (Below.refl _ _).alloc (Nat.le_refl _) _ : Below w6_69.heap.size w6_69 w7_78))
 clear HW2
 go_wp2_with fail
 refine (H2.out w7_78 wa2 wc2 la2 lc2 ja2 jc2 ka2 kc2 HWb2.out I2 KI2_20.out).mono ?_
 rintro e w8_91 ⟨b2, xwc2, xla2, xlc2, r2, xrc2, rfl, hcw, hbw, hrw, hcr, hbn⟩
 have HB_21 := hid (HB_17.out.trans (hbn.mono HB_17.out.size))
 have HX1_22 := hid (HX1_18.out.trans (hbn.mono HX1_18.out.size))
 have KT1_23 := hid (klD KT1_19.out hbn)
 have KI2_24 := hid (klD KI2_20.out hbn)
 clear HB_17 HX1_18 KT1_19 KI2_20 hbn
 have hb2s := hbw
 have HCW2 := hid hcw
 have HCR2 := hid hcr
 clear hcw hcr hbw
 have HP2 : Hid (∀ W', Below w8_91.heap.size w8_91 W' → W'.cell? ⟨b2, 0, none⟩ = some (.int .u64 0) ∧ ∀ i v, (skcells kG2.R)[i]? = some v → W'.cell? ⟨r2, i, none⟩ = some v) := hid (fun W' hb => ⟨(hb.cell (p := ⟨b2, 0, none⟩) hb2s).trans HCW2.out, fun i v hv => (hb.cell (p := ⟨r2, i, none⟩) hrw).trans (HCR2.out i v hv)⟩)
 have HX2 := hid (Below.refl w8_91.heap.size w8_91)
 clear HCW2 HCR2 hb2s hrw
 have hzHB := HB_21.out.size
 have hzHX1 := HX1_22.out.size
 have hzHX2 := HX2.out.size
 obtain ⟨w9_109, hw9_109, hbn, hsn, hln⟩ := laid w8_91 #[.slice none 0 0, .slice none 0 0, .bool false, .int .i64 0, .bool false, .int .i64 0, .bool false, .int .u64 0, .int .u64 0, .int .u64 0, .int .u64 0, .int .u64 0, .int .u64 0, .int .i64 0, .int .u64 0, .int .u64 0, .int .u64 0, .int .u64 0, .int .u64 0, .bool false, .slice none 0 0] 49
 obtain ⟨T2, hNMT2⟩ := nm (w8_91.heap.size)
 rw [hNMT2] at hln
 have nT1T2 : T1 < T2 := by have := llD KT1_23.out; omega
 have nI2T2 : I2 < T2 := by have := llD KI2_24.out; omega
 have hVT2 : V.heap.size ≤ T2 := by have := HB_21.out.size; omega
 have HB_25 := hid (HB_21.out.trans (hbn.mono HB_21.out.size))
 have HX1_26 := hid (HX1_22.out.trans (hbn.mono HX1_22.out.size))
 have KT1_27 := hid (klD KT1_23.out hbn)
 have KI2_28 := hid (klD KI2_24.out hbn)
 have HX2_29 := hid (HX2.out.trans (hbn.mono HX2.out.size))
 clear HB_21 HX1_22 KT1_23 KI2_24 HX2 hbn hsn
 have KT2_30 := hid (hln)
 clear hln
 have hTb2 : w8_91.heap.size ≤ T2 := by omega
 go_upto_region 3 with (refine wsP rfl 49 (.tmp 3) (.tmp 20) rfl T2 0 _ (kd (some ⟨b2, 0, none⟩) xwc2 xla2 xlc2 (some ⟨r2, 0, none⟩) xrc2) _ rfl rfl _ KT2_30.out (by kernel_rfl) (Nat.le_of_ble_eq_true rfl) (by kernel_rfl) rfl ?_; intro u10_123 a1 a2 a3 a4; have HB_31 := hid (a3 _ _ (by omega) HB_25.out); have HX1_32 := hid (a3 _ _ (by omega) HX1_26.out); have KT1_33 := hid (a2 T1 _ (by omega) KT1_27.out); have KI2_34 := hid (a2 I2 _ (by omega) KI2_28.out); have HX2_35 := hid (a3 _ _ (by omega) HX2_29.out); have KT2_36 := hid (a1); clear a1 a2 a3 a4 HB_25 HX1_26 KT1_27 KI2_28 HX2_29 KT2_30; (try simp only [Act.put]))
 clear hNMT2 hTb2 hzHB hzHX1 hzHX2
 clear hNMI2 HWb2 H2
 go_wp2_with fail
 refine (small_any u10_123).mono ?_
 rintro e w11_127 ⟨wa3, wc3, la3, lc3, ja3, jc3, ka3, kc3, rfl, hw, hbn⟩
 have HB_37 := hid (HB_31.out.trans (hbn.mono HB_31.out.size))
 have HX1_38 := hid (HX1_32.out.trans (hbn.mono HX1_32.out.size))
 have KT1_39 := hid (klD KT1_33.out hbn)
 have HX2_40 := hid (HX2_35.out.trans (hbn.mono HX2_35.out.size))
 have KT2_41 := hid (klD KT2_36.out hbn)
 clear HB_31 HX1_32 KT1_33 HX2_35 KT2_36 hbn
 have HW3 := hid hw
 clear hw
 go_wp2_with fail
 refine (H3.out w11_127 wa3 wc3 la3 lc3 ja3 jc3 ka3 kc3 HW3.out).mono ?_
 rintro e w12_138 ⟨b3, xwc3, xla3, xlc3, r3, xrc3, rfl, hcw, hbw, hrw, hcr, hbn⟩
 have HB_42 := hid (HB_37.out.trans (hbn.mono HB_37.out.size))
 have HX1_43 := hid (HX1_38.out.trans (hbn.mono HX1_38.out.size))
 have KT1_44 := hid (klD KT1_39.out hbn)
 have HX2_45 := hid (HX2_40.out.trans (hbn.mono HX2_40.out.size))
 have KT2_46 := hid (klD KT2_41.out hbn)
 clear HB_37 HX1_38 KT1_39 HX2_40 KT2_41 hbn
 have hb3s := hbw
 have HCW3 := hid hcw
 have HCR3 := hid hcr
 clear hcw hcr hbw
 have HP3 : Hid (∀ W', Below w12_138.heap.size w12_138 W' → W'.cell? ⟨b3, 0, none⟩ = some (.int .u64 0) ∧ ∀ i v, (skcells kG3.R)[i]? = some v → W'.cell? ⟨r3, i, none⟩ = some v) := hid (fun W' hb => ⟨(hb.cell (p := ⟨b3, 0, none⟩) hb3s).trans HCW3.out, fun i v hv => (hb.cell (p := ⟨r3, i, none⟩) hrw).trans (HCR3.out i v hv)⟩)
 have HX3 := hid (Below.refl w12_138.heap.size w12_138)
 clear HCW3 HCR3 hb3s hrw
 have hzHB := HB_42.out.size
 have hzHX1 := HX1_43.out.size
 have hzHX2 := HX2_45.out.size
 have hzHX3 := HX3.out.size
 obtain ⟨w13_158, hw13_158, hbn, hsn, hln⟩ := laid w12_138 #[.slice none 0 0, .slice none 0 0, .bool false, .int .i64 0, .bool false, .int .i64 0, .bool false, .int .u64 0, .int .u64 0, .int .u64 0, .int .u64 0, .int .u64 0, .int .u64 0, .int .i64 0, .int .u64 0, .int .u64 0, .int .u64 0, .int .u64 0, .int .u64 0, .bool false, .slice none 0 0] 49
 obtain ⟨T3, hNMT3⟩ := nm (w12_138.heap.size)
 rw [hNMT3] at hln
 have nT1T3 : T1 < T3 := by have := llD KT1_44.out; omega
 have nT2T3 : T2 < T3 := by have := llD KT2_46.out; omega
 have hVT3 : V.heap.size ≤ T3 := by have := HB_42.out.size; omega
 have HB_47 := hid (HB_42.out.trans (hbn.mono HB_42.out.size))
 have HX1_48 := hid (HX1_43.out.trans (hbn.mono HX1_43.out.size))
 have KT1_49 := hid (klD KT1_44.out hbn)
 have HX2_50 := hid (HX2_45.out.trans (hbn.mono HX2_45.out.size))
 have KT2_51 := hid (klD KT2_46.out hbn)
 have HX3_52 := hid (HX3.out.trans (hbn.mono HX3.out.size))
 clear HB_42 HX1_43 KT1_44 HX2_45 KT2_46 HX3 hbn hsn
 have KT3_53 := hid (hln)
 clear hln
 have hTb3 : w12_138.heap.size ≤ T3 := by omega
 go_upto_region 4 with (refine wsP rfl 49 (.tmp 5) (.tmp 25) rfl T3 0 _ (kd (some ⟨b3, 0, none⟩) xwc3 xla3 xlc3 (some ⟨r3, 0, none⟩) xrc3) _ rfl rfl _ KT3_53.out (by kernel_rfl) (Nat.le_of_ble_eq_true rfl) (by kernel_rfl) rfl ?_; intro u14_173 a1 a2 a3 a4; have HB_54 := hid (a3 _ _ (by omega) HB_47.out); have HX1_55 := hid (a3 _ _ (by omega) HX1_48.out); have KT1_56 := hid (a2 T1 _ (by omega) KT1_49.out); have HX2_57 := hid (a3 _ _ (by omega) HX2_50.out); have KT2_58 := hid (a2 T2 _ (by omega) KT2_51.out); have HX3_59 := hid (a3 _ _ (by omega) HX3_52.out); have KT3_60 := hid (a1); clear a1 a2 a3 a4 HB_47 HX1_48 KT1_49 HX2_50 KT2_51 HX3_52 KT3_53; (try simp only [Act.put]))
 clear hNMT3 hTb3 hzHB hzHX1 hzHX2 hzHX3
 go_wp2_with fail
 refine (small_any u14_173).mono ?_
 rintro e w15_176 ⟨wa4, wc4, la4, lc4, ja4, jc4, ka4, kc4, rfl, hw, hbn⟩
 have HB_61 := hid (HB_54.out.trans (hbn.mono HB_54.out.size))
 have HX1_62 := hid (HX1_55.out.trans (hbn.mono HX1_55.out.size))
 have KT1_63 := hid (klD KT1_56.out hbn)
 have HX2_64 := hid (HX2_57.out.trans (hbn.mono HX2_57.out.size))
 have KT2_65 := hid (klD KT2_58.out hbn)
 have HX3_66 := hid (HX3_59.out.trans (hbn.mono HX3_59.out.size))
 have KT3_67 := hid (klD KT3_60.out hbn)
 clear HB_54 HX1_55 KT1_56 HX2_57 KT2_58 HX3_59 KT3_60 hbn
 have HW4 := hid hw
 clear hw
 go_wp2_with fail
 refine (H4.out w15_176 wa4 wc4 la4 lc4 ja4 jc4 ka4 kc4 HW4.out).mono ?_
 rintro e w16_189 ⟨v, rfl, hrow, hbn⟩
 have HB_68 := hid (HB_61.out.trans (hbn.mono HB_61.out.size))
 have HX1_69 := hid (HX1_62.out.trans (hbn.mono HX1_62.out.size))
 have KT1_70 := hid (klD KT1_63.out hbn)
 have HX2_71 := hid (HX2_64.out.trans (hbn.mono HX2_64.out.size))
 have KT2_72 := hid (klD KT2_65.out hbn)
 have HX3_73 := hid (HX3_66.out.trans (hbn.mono HX3_66.out.size))
 have KT3_74 := hid (klD KT3_67.out hbn)
 clear HB_61 HX1_62 KT1_63 HX2_64 KT2_65 HX3_66 KT3_67 hbn
 obtain ⟨va, vc, rfl, -⟩ := Leads.of_own hrow
 clear hrow
 obtain ⟨m1, m1r⟩ := HP1.out _ HX1_69.out
 obtain ⟨m2, m2r⟩ := HP2.out _ HX2_71.out
 have x0 := clD (i := 0) KT1_70.out rfl
 have x3 := clD (i := 3) KT1_70.out rfl
 have x20 := clD (i := 20) KT1_70.out rfl
 have y20 := clD (i := 20) KT2_72.out rfl
 have z3 := clD (i := 3) KT3_74.out rfl
 have r5 := m2r 5 (.int .u64 70) rfl
 have r6 := m2r 6 (.bool true) rfl
 clear m1r m2r
 go_wp2
 go_ret
 exact ⟨rfl, HB_68.out⟩
end Go.Proofs.YtipohagcppfgiaaGreat
namespace Go.Proofs.YtipohagcppfgiaaGreat
open Go.RowKit
open Go.Proofs
set_option linter.unusedVariables false
attribute [local go_sem] Oper.semAt_some
/-- A walk that can be gone through. -/
def ownW (w : Wal) : Wal := ⟨⟨w.M.W.take 64, w.M.L.take 64, w.M.F⟩, w.head, w.J.take 18, w.K.take 10⟩
/-- A walk in memory of its own. -/
structure WalO (V0 : World) (wa : Option Addr) (wc : Nat) (la : Option Addr) (lc : Nat) (ja : Option Addr) (nj jc : Nat) (ka : Option Addr) (nk kc : Nat) (w : Wal) (W : World) : Prop where
 mem : MemO V0.heap.size wa wc la lc w.M W
 j : W.ownsRow V0.heap.size 66 5 (.slice ja nj jc) nj (jbcells w.J)
 k : W.ownsRow V0.heap.size 68 2 (.slice ka nk kc) nk (kycells w.K)
 nj : w.J.length = nj
 nk : w.K.length = nk
 below : Below V0.heap.size V0 W
theorem WalO.grow {V0 : World} {wa : Option Addr} {wc : Nat} {la : Option Addr} {lc : Nat} {ja : Option Addr} {nj jc : Nat} {ka : Option Addr} {nk kc : Nat} {w : Wal} {W W' : World} (h : WalO V0 wa wc la lc ja nj jc ka nk kc w W) (hb : Below W.heap.size W W') : WalO V0 wa wc la lc ja nj jc ka nk kc w W' :=
 ⟨h.mem.grow hb, ogr h.j hb, ogr h.k hb, h.nj, h.nk, step h.below hb⟩
/-- What a walk's numbers are. -/
structure WOk (w : Wal) : Prop where
 hh : w.head < 18446744073709551616
 wok : ∀ x ∈ w.M.W, x < 18446744073709551616
 jok : ∀ x ∈ w.J, x.2.Ok
 kok : ∀ x ∈ w.K, x.1 < 18446744073709551616 ∧ x.2 < 18446744073709551616
theorem WOk.own {w : Wal} (h : WOk w) : WOk (ownW w) := ⟨h.hh, fun x hx => h.wok x (List.mem_of_mem_take hx), fun x hx => h.jok x (List.mem_of_mem_take hx), fun x hx => h.kok x (List.mem_of_mem_take hx)⟩
theorem WalO.walL {V0 : World} {wa : Option Addr} {wc : Nat} {la : Option Addr} {lc : Nat} {ja : Option Addr} {nj jc : Nat} {ka : Option Addr} {nk kc : Nat} {w : Wal} {W : World} (h : WalO V0 wa wc la lc ja nj jc ka nk kc w W) (ho : WOk w) : WalL W wa wc la lc ja nj jc ka nk kc w :=
 ⟨h.mem.memL, ho.hh, ho.wok, Leads.of_own1 h.j, h.nj, ho.jok, Leads.of_own1 h.k, h.nk, ho.kok⟩
theorem WalL.ok {V : World} {wa : Option Addr} {wc : Nat} {la : Option Addr} {lc : Nat} {ja : Option Addr} {nj jc : Nat} {ka : Option Addr} {nk kc : Nat} {w : Wal} (h : WalL V wa wc la lc ja nj jc ka nk kc w) : WOk w := ⟨h.hh, h.wok, h.jok, h.kok⟩
def GivesWl (w : Wal) (V : World) (e : Ending) (W : World) : Prop := ∃ wa wc la lc ja jc ka kc, e = .returned (walV wa wc la lc ja w.J.length jc ka w.K.length kc w) ∧ WalO V wa wc la lc ja w.J.length jc ka w.K.length kc w W
structure RM2 (X T3 : Nat) (cs ms : Array Value) where
 w : World
 bx : w.heap[X]? = some (.cells cs 30 (0, 0))
 bm : w.heap[T3]? = some (.cells ms 25 (0, 0))
theorem wown_result {W : World} {b2 : Nat} {v2_0 v2_1 v2_2 v2_3 v2_4 v2_5 : Value} {tmps : Array Value} (h2 : W.heap[b2]? = some (.cells #[v2_0, v2_1, v2_2, v2_3, v2_4, v2_5] 30 (0, 0))) (q2 : tmps[2]?.getD undef = .pointer (some ⟨b2, 0, none⟩)) :
  (results Tryz.f6 tmps).run Tryz.prog W = .ok (.agg #[v2_0, v2_1, v2_2, v2_3, v2_4, v2_5]) W := by
 have e2_0 := clD (i := 0) (v := v2_0) h2 rfl
 have e2_1 := clD (i := 1) (v := v2_1) h2 rfl
 have e2_2 := clD (i := 2) (v := v2_2) h2 rfl
 have e2_3 := clD (i := 3) (v := v2_3) h2 rfl
 have e2_4 := clD (i := 4) (v := v2_4) h2 rfl
 have e2_5 := clD (i := 5) (v := v2_5) h2 rfl
 simp [results, Tryz.results6, go_sem, e2_0, e2_1, e2_2, e2_3, e2_4, e2_5, q2]
set_option maxRecDepth 100000 in
set_option maxHeartbeats 16000000 in
theorem wown_any (w : Wal) (wa la ja ka : Option Addr) (wc lc jc kc nj nk : Nat) (V : World) (h : WalL V wa wc la lc ja nj jc ka nk kc w) :
  Calls Tryz.prog 6 #[walV wa wc la lc ja nj jc ka nk kc w] V (GivesWl (ownW w) V) := by
 obtain ⟨hd, hhd⟩ := nm (w.head)
 obtain ⟨wl, hwl'⟩ := nm (w.M.W.length)
 obtain ⟨ll, hll'⟩ := nm (w.M.L.length)
 obtain ⟨F, hf⟩ := nm (w.M.F)
 have hmw := h.mem.w
 have hml := h.mem.l
 rw [hwl'] at hmw
 rw [hll'] at hml
 unfold walV
 rw [hhd, hwl', hll', hf]
 obtain ⟨V1, hV1, hbV1, hsV1, hlV1⟩ := laid V #[.slice wa wl wc, .slice la ll lc, .bool F, .int .u64 hd, .slice ja nj jc, .slice ka nk kc] 30
 obtain ⟨V2, hV2, hbV2, hsV2, hlV2⟩ := laid V1 #[.slice none 0 0, .slice none 0 0, .bool false, .int .u64 0, .slice none 0 0, .slice none 0 0] 30
 obtain ⟨X, hX⟩ := nm (V.heap.size)
 rw [hX] at hlV1
 obtain ⟨T2, hT2⟩ := nm (V1.heap.size)
 rw [hT2] at hlV2
 have KX := hid (klD hlV1 hbV2)
 have KT2 := hid hlV2
 have HB := hid (step hbV1 hbV2)
 have hVX : V.heap.size ≤ X := by omega
 have hVT2 : V.heap.size ≤ T2 := by omega
 have nXT2 : X < T2 := by omega
 clear hbV1 hsV1 hlV1 hbV2 hsV2 hlV2
 have HMW := hid hmw
 have HML := hid hml
 have HJ := hid h.j
 have HK := hid h.k
 have HNJ := hid h.nj
 have HNK := hid h.nk
 have HWL := hid hwl'
 have HLL := hid hll'
 have HF := hid hf
 have HHD := hid hhd
 have hwlen := hmw.len
 have hllen := hml.len
 have hjlen := h.j.len
 have hklen := h.k.len
 obtain ⟨a, ha⟩ := nm (min wl 64)
 have hai : min ((wl : Nat) : Int) 64 = ((a : Nat) : Int) := by omega
 have han : a ≤ wl := by omega
 have ham : a ≤ 64 := by omega
 have HAM := hid ha
 obtain ⟨b, hb⟩ := nm (min ll 64)
 have hbi : min ((ll : Nat) : Int) 64 = ((b : Nat) : Int) := by omega
 have hbn : b ≤ ll := by omega
 have hbm : b ≤ 64 := by omega
 have HBM := hid hb
 obtain ⟨p, hp⟩ := nm (min nj 18)
 have hpi : min ((nj : Nat) : Int) 18 = ((p : Nat) : Int) := by omega
 have hpn : p ≤ nj := by omega
 have hpm : p ≤ 18 := by omega
 have HPM := hid hp
 obtain ⟨q, hq⟩ := nm (min nk 10)
 have hqi : min ((nk : Nat) : Int) 10 = ((q : Nat) : Int) := by omega
 have hqn : q ≤ nk := by omega
 have hqm : q ≤ 10 := by omega
 have HQM := hid hq
 have hac : a ≤ wc := by have := hmw.1; omega
 have hbc : b ≤ lc := by have := hml.1; omega
 have hpc : p ≤ jc := by have := h.j.1; omega
 have hqc : q ≤ kc := by have := h.k.1; omega
 clear h hhd hwl' hll' hf hmw hml ha hb hp hq
 go_enter Tryz.func6, Tryz.ntmps6
 have y0 := clD (i := 0) KX.out rfl
 have y1 := clD (i := 1) KX.out rfl
 have y2 := clD (i := 2) KX.out rfl
 obtain ⟨w1_72, hw1_72, hbn, hsn, hln⟩ := laid V2 #[.slice none 0 0, .slice none 0 0, .bool false] 25
 obtain ⟨T3, hNMT3⟩ := nm (V2.heap.size)
 rw [hNMT3] at hln
 have nXT3 : X < T3 := by have := llD KX.out; omega
 have nT2T3 : T2 < T3 := by have := llD KT2.out; omega
 have hVT3 : V.heap.size ≤ T3 := by have := HB.out.size; omega
 have KX_1 := hid (klD KX.out hbn)
 have KT2_2 := hid (klD KT2.out hbn)
 have HB_3 := hid (HB.out.trans (hbn.mono HB.out.size))
 clear KX KT2 HB hbn hsn
 have KT3_4 := hid (hln)
 clear hln
 go_upto_region 2 with ((refine wsP rfl 25 (.tmp 3) (.tmp 6) rfl T3 0 _ #[.slice wa wl wc, .slice la ll lc, .bool F] _ rfl rfl _ KT3_4.out (by kernel_rfl) (Nat.le_of_ble_eq_true rfl) (by kernel_rfl) rfl ?_; intro u3 a1 a2 a3 a4; have HT3b := hid a1; have HXb := hid (a2 X _ (by omega) KX_1.out); have HT2b := hid (a2 T2 _ (by omega) KT2_2.out); have HBb := hid (a3 V.heap.size V (by omega) HB_3.out); clear a1 a2 a3 a4 KX_1 KT2_2 KT3_4 HB_3; (try simp only [Act.put])))
 clear hNMT3 hV1 hV2 hX hT2 y0 y1 y2
 go_cut [4] (fun t4 wr => ∃ (Y : Nat) (wa' la' : Option Addr) (wc' lc' : Nat), t4 = .pointer (some ⟨Y, 0, none⟩) ∧ V.heap.size ≤ Y ∧ Hid (wr.heap[X]? = some (.cells #[.slice wa wl wc, .slice la ll lc, .bool F, .int .u64 hd, .slice ja nj jc, .slice ka nk kc] 30 (0, 0))) ∧ Hid (wr.heap[T2]? = some (.cells #[.slice none 0 0, .slice none 0 0, .bool false, .int .u64 0, .slice none 0 0, .slice none 0 0] 30 (0, 0))) ∧ Hid (wr.heap[Y]? = some (.cells #[.slice wa' a wc', .slice la' b lc', .bool F, .int .u64 hd, .slice none 0 0, .slice none 0 0] 30 (0, 0))) ∧ Hid (MemO V.heap.size wa' wc' la' lc' ⟨w.M.W.take 64, w.M.L.take 64, w.M.F⟩ wr) ∧ T2 ≠ Y ∧ X ≠ Y ∧ Hid (Below V.heap.size V wr))
 case first =>
  haveI : Nonempty (RM2 X T3 #[.slice wa wl wc, .slice la ll lc, .bool F, .int .u64 hd, .slice ja nj jc, .slice ka nk kc] #[.slice wa wl wc, .slice la ll lc, .bool F]) := ⟨⟨u3, HXb.out, HT3b.out⟩⟩
  have m0 : ∀ z : RM2 X T3 #[.slice wa wl wc, .slice la ll lc, .bool F, .int .u64 hd, .slice ja nj jc, .slice ka nk kc] #[.slice wa wl wc, .slice la ll lc, .bool F], z.w.cell? ⟨T3, 0, none⟩ = some (.slice wa wl wc) := fun z => clD (i := 0) z.bm rfl
  have m1 : ∀ z : RM2 X T3 #[.slice wa wl wc, .slice la ll lc, .bool F, .int .u64 hd, .slice ja nj jc, .slice ka nk kc] #[.slice wa wl wc, .slice la ll lc, .bool F], z.w.cell? ⟨T3, 1, none⟩ = some (.slice la ll lc) := fun z => clD (i := 1) z.bm rfl
  have m2 : ∀ z : RM2 X T3 #[.slice wa wl wc, .slice la ll lc, .bool F, .int .u64 hd, .slice ja nj jc, .slice ka nk kc] #[.slice wa wl wc, .slice la ll lc, .bool F], z.w.cell? ⟨T3, 2, none⟩ = some (.bool F) := fun z => clD (i := 2) z.bm rfl
  have x3 : ∀ z : RM2 X T3 #[.slice wa wl wc, .slice la ll lc, .bool F, .int .u64 hd, .slice ja nj jc, .slice ka nk kc] #[.slice wa wl wc, .slice la ll lc, .bool F], z.w.cell? ⟨X, 3, none⟩ = some (.int .u64 hd) := fun z => clD (i := 3) z.bx rfl
  obtain ⟨D2_93, hD⟩ := nm (u3.drew)
  have hbD : Below u3.heap.size u3 D2_93 := by rw [← hD]; exact (Below.refl _ _).drew
  have HD := hid hD
  clear hD
  have HT3b_5 := hid (klD HT3b.out hbD)
  have HXb_6 := hid (klD HXb.out hbD)
  have HT2b_7 := hid (klD HT2b.out hbD)
  have HBb_8 := hid (HBb.out.trans (hbD.mono HBb.out.size))
  clear HT3b HXb HT2b HBb hbD
  refine rgm2 (fun W => ∃ z : RM2 X T3 #[.slice wa wl wc, .slice la ll lc, .bool F, .int .u64 hd, .slice ja nj jc, .slice ka nk kc] #[.slice wa wl wc, .slice la ll lc, .bool F], W = z.w) 24 (.q 0 (.q 1 (.q 2 (.q 3 (.q 4 (.q 5 (.q 6 (.q 8 (.q 9 (.q 10 (.q 11 (.q 12 (.q 13 (.q 14 (.q 16 (.q 17 (.q 19 (.q 20 (.h2 7 (.h2 15 (.q 18 (.q 21 (.h 22 (.h 23 (.done))))) 22 (.h 15 (.q 18 (.q 21 (.h 23 (.done)))))) 22 (.h 7 (.h 15 (.q 18 (.q 21 (.h 23 (.done))))))))))))))))))))))))) (by kernel_rfl) (by kernel_rfl) (by rw [HD.out]; exact ⟨⟨D2_93, HXb_6.out, HT3b_5.out⟩, rfl⟩) ?_
  rw [HD.out]
  repeat (refine m2q rfl rfl ?_; go_big_quiet_step (fail); refine wpQuiet_nil ?_)
  refine wpMix2_h2 ?_ ?_
  ·skip
   refine m2h rfl fun R' hR' hO => ?_
   go_wp2_with fail
   refine (CloneW_any wa a wc (wcells (w.M.W.take 64)) D2_93 ((HMW.out.grow HBb_8.out).front han (fun i v hv => by obtain ⟨x, hx, rfl⟩ := wcell_ex hv; exact wcell_at (take_front _ _ i x hx)) (fun h0 => by have := HAM.out; rw [← HWL.out] at this; rw [show w.M.W.take 64 = [] from List.eq_nil_of_length_eq_zero (by rw [List.length_take]; omega)]; rfl)) (by rw [wcells_len, List.length_take, HWL.out]; have := HAM.out; omega) (by omega) (wcells_one _)).mono ?_
   rintro e w3_108 ⟨vv, rfl, hro, hbn⟩
   obtain ⟨wa', wc', rfl, -⟩ := Leads.of_own hro
   have HRW_r := hid (own_base hro HBb_8.out.size)
   clear hro
   have HT3b_9 := hid (klD HT3b_5.out hbn)
   have HXb_10 := hid (klD HXb_6.out hbn)
   have HT2b_11 := hid (klD HT2b_7.out hbn)
   have HBb_12 := hid (HBb_8.out.trans (hbn.mono HBb_8.out.size))
   clear HT3b_5 HXb_6 HT2b_7 HBb_8 hbn
   go_wp2
   skip
   refine hR' _ _ ⟨⟨w3_108, HXb_10.out, HT3b_9.out⟩, rfl⟩ ?_
   clear hR' hO R'
   refine wpMix2_h2 ?_ ?_
   ·skip
    refine m2h rfl fun R' hR' hO => ?_
    go_wp2_with fail
    refine (CloneB_any la b lc (bcells (w.M.L.take 64)) w3_108 ((HML.out.grow HBb_12.out).front hbn (fun i v hv => by obtain ⟨x, hx, rfl⟩ := bcell_ex hv; exact bcell_at (take_front _ _ i x hx)) (fun h0 => by have := HBM.out; rw [← HLL.out] at this; rw [show w.M.L.take 64 = [] from List.eq_nil_of_length_eq_zero (by rw [List.length_take]; omega)]; rfl)) (by rw [bcells_len, List.length_take, HLL.out]; have := HBM.out; omega) (by omega) (bcells_one _)).mono ?_
    rintro e w4_126 ⟨vv, rfl, hro, hbw⟩
    obtain ⟨la', lc', rfl, -⟩ := Leads.of_own hro
    have HRL_r := hid (own_base hro HBb_12.out.size)
    clear hro
    have HT3b_13 := hid (klD HT3b_9.out hbw)
    have HXb_14 := hid (klD HXb_10.out hbw)
    have HT2b_15 := hid (klD HT2b_11.out hbw)
    have HBb_16 := hid (HBb_12.out.trans (hbw.mono HBb_12.out.size))
    have HRW_17 := hid (ogr HRW_r.out hbw)
    clear HT3b_9 HXb_10 HT2b_11 HBb_12 HRW_r hbw
    go_wp2
    skip
    refine hR' _ _ ⟨⟨w4_126, HXb_14.out, HT3b_13.out⟩, rfl⟩ ?_
    clear hR' hO R'
    repeat (refine m2q rfl rfl ?_; go_big_quiet_step (fail); refine wpQuiet_nil ?_)
    refine m2h rfl fun R' hR' hO => ?_
    obtain ⟨w5_144, hw5_144, hbn, hsn, hln⟩ := laid w4_126 #[.slice none 0 0, .slice none 0 0, .bool false, .int .u64 0, .slice none 0 0, .slice none 0 0] 30
    obtain ⟨Y, hNMY⟩ := nm (w4_126.heap.size)
    rw [hNMY] at hln
    have nT3Y : T3 < Y := by have := llD HT3b_13.out; omega
    have nXY : X < Y := by have := llD HXb_14.out; omega
    have nT2Y : T2 < Y := by have := llD HT2b_15.out; omega
    have hVY : V.heap.size ≤ Y := by have := HBb_16.out.size; omega
    have HT3b_18 := hid (klD HT3b_13.out hbn)
    have HXb_19 := hid (klD HXb_14.out hbn)
    have HT2b_20 := hid (klD HT2b_15.out hbn)
    have HBb_21 := hid (HBb_16.out.trans (hbn.mono HBb_16.out.size))
    have HRW_22 := hid (ogr HRW_17.out hbn)
    have HRL_23 := hid (ogr HRL_r.out hbn)
    clear HT3b_13 HXb_14 HT2b_15 HBb_16 HRW_17 HRL_r hbn hsn
    have KY_24 := hid (hln)
    clear hln
    go_wp2
    skip
    refine hR' _ _ ⟨⟨w5_144, HXb_19.out, HT3b_18.out⟩, rfl⟩ ?_
    clear hR' hO R'
    refine m2h rfl fun R' hR' hO => ?_
    go_wp2_with (refine wsP rfl 30 (.tmp 4) (.tmp 28) rfl Y 0 _ #[.slice wa' a wc', .slice la' b lc', .bool F, .int .u64 hd, .slice none 0 0, .slice none 0 0] _ rfl rfl _ KY_24.out (by kernel_rfl) (Nat.le_of_ble_eq_true rfl) (by kernel_rfl) rfl ?_; intro u6_165 a1 a2 a3 a4; have HY9 := hid a1; have HX9 := hid (a2 X _ (by omega) HXb_19.out); have HT9 := hid (a2 T2 _ (by omega) HT2b_20.out); have HT39 := hid (a2 T3 _ (by omega) HT3b_18.out); have HW9 := hid (okp HRW_22.out fun k o hk ho => a2 k o (own_neT HRW_22.out KY_24.out (by decide) k hk) ho); have HL9 := hid (okp HRL_23.out fun k o hk ho => a2 k o (own_neT HRL_23.out KY_24.out (by decide) k hk) ho); have HB9 := hid (a3 V.heap.size V (by omega) HBb_21.out); clear a1 a2 a3 a4; (try simp only [Act.put]))
    go_wp2
    skip
    refine hR' _ _ ⟨⟨u6_165, HX9.out, HT39.out⟩, rfl⟩ ?_
    clear hR' hO R'
    refine m2d ?_
    simp only [List.drop_succ_cons, List.drop_nil]
    clear m0 m1 m2 x3
    go_wp2
    go_meet
    exact ⟨Y, wa', la', wc', lc', rfl, by omega, HX9, HT9, HY9, hid ⟨by rw [show (w.M.W.take 64).length = a by rw [List.length_take, HWL.out]; have := HAM.out; omega]; exact HW9.out, by rw [show (w.M.L.take 64).length = b by rw [List.length_take, HLL.out]; have := HBM.out; omega]; exact HL9.out⟩, by omega, by omega, HB9⟩
   ·skip
    refine m2h rfl fun R' hR' hO => ?_
    obtain ⟨w4_178, hw4_178, hbn, hsn, hln⟩ := laid w3_108 #[.slice none 0 0, .slice none 0 0, .bool false, .int .u64 0, .slice none 0 0, .slice none 0 0] 30
    obtain ⟨Y, hNMY⟩ := nm (w3_108.heap.size)
    rw [hNMY] at hln
    have nT3Y : T3 < Y := by have := llD HT3b_9.out; omega
    have nXY : X < Y := by have := llD HXb_10.out; omega
    have nT2Y : T2 < Y := by have := llD HT2b_11.out; omega
    have hVY : V.heap.size ≤ Y := by have := HBb_12.out.size; omega
    have HT3b_13 := hid (klD HT3b_9.out hbn)
    have HXb_14 := hid (klD HXb_10.out hbn)
    have HT2b_15 := hid (klD HT2b_11.out hbn)
    have HBb_16 := hid (HBb_12.out.trans (hbn.mono HBb_12.out.size))
    have HRW_17 := hid (ogr HRW_r.out hbn)
    clear HT3b_9 HXb_10 HT2b_11 HBb_12 HRW_r hbn hsn
    have KY_18 := hid (hln)
    clear hln
    go_wp2
    skip
    refine hR' _ _ ⟨⟨w4_178, HXb_14.out, HT3b_13.out⟩, rfl⟩ ?_
    clear hR' hO R'
    refine m2h rfl fun R' hR' hO => ?_
    go_wp2_with fail
    refine (CloneB_any la b lc (bcells (w.M.L.take 64)) w4_178 ((HML.out.grow HBb_16.out).front hbn (fun i v hv => by obtain ⟨x, hx, rfl⟩ := bcell_ex hv; exact bcell_at (take_front _ _ i x hx)) (fun h0 => by have := HBM.out; rw [← HLL.out] at this; rw [show w.M.L.take 64 = [] from List.eq_nil_of_length_eq_zero (by rw [List.length_take]; omega)]; rfl)) (by rw [bcells_len, List.length_take, HLL.out]; have := HBM.out; omega) (by omega) (bcells_one _)).mono ?_
    rintro e w5_198 ⟨vv, rfl, hro, hbw⟩
    obtain ⟨la', lc', rfl, -⟩ := Leads.of_own hro
    have HRL_r := hid (own_base hro HBb_16.out.size)
    clear hro
    have HT3b_19 := hid (klD HT3b_13.out hbw)
    have HXb_20 := hid (klD HXb_14.out hbw)
    have HT2b_21 := hid (klD HT2b_15.out hbw)
    have HBb_22 := hid (HBb_16.out.trans (hbw.mono HBb_16.out.size))
    have HRW_23 := hid (ogr HRW_17.out hbw)
    have KY_24 := hid (klD KY_18.out hbw)
    clear HT3b_13 HXb_14 HT2b_15 HBb_16 HRW_17 KY_18 hbw
    go_wp2
    skip
    refine hR' _ _ ⟨⟨w5_198, HXb_20.out, HT3b_19.out⟩, rfl⟩ ?_
    clear hR' hO R'
    repeat (refine m2q rfl rfl ?_; go_big_quiet_step (fail); refine wpQuiet_nil ?_)
    refine m2h rfl fun R' hR' hO => ?_
    go_wp2_with (refine wsP rfl 30 (.tmp 4) (.tmp 28) rfl Y 0 _ #[.slice wa' a wc', .slice la' b lc', .bool F, .int .u64 hd, .slice none 0 0, .slice none 0 0] _ rfl rfl _ KY_24.out (by kernel_rfl) (Nat.le_of_ble_eq_true rfl) (by kernel_rfl) rfl ?_; intro u6_217 a1 a2 a3 a4; have HY9 := hid a1; have HX9 := hid (a2 X _ (by omega) HXb_20.out); have HT9 := hid (a2 T2 _ (by omega) HT2b_21.out); have HT39 := hid (a2 T3 _ (by omega) HT3b_19.out); have HW9 := hid (okp HRW_23.out fun k o hk ho => a2 k o (own_neT HRW_23.out KY_24.out (by decide) k hk) ho); have HL9 := hid (okp HRL_r.out fun k o hk ho => a2 k o (own_neT HRL_r.out KY_24.out (by decide) k hk) ho); have HB9 := hid (a3 V.heap.size V (by omega) HBb_22.out); clear a1 a2 a3 a4; (try simp only [Act.put]))
    go_wp2
    skip
    refine hR' _ _ ⟨⟨u6_217, HX9.out, HT39.out⟩, rfl⟩ ?_
    clear hR' hO R'
    refine m2d ?_
    simp only [List.drop_succ_cons, List.drop_nil]
    clear m0 m1 m2 x3
    go_wp2
    go_meet
    exact ⟨Y, wa', la', wc', lc', rfl, by omega, HX9, HT9, HY9, hid ⟨by rw [show (w.M.W.take 64).length = a by rw [List.length_take, HWL.out]; have := HAM.out; omega]; exact HW9.out, by rw [show (w.M.L.take 64).length = b by rw [List.length_take, HLL.out]; have := HBM.out; omega]; exact HL9.out⟩, by omega, by omega, HB9⟩
  ·skip
   refine m2h rfl fun R' hR' hO => ?_
   obtain ⟨w3_230, hw3_230, hbn, hsn, hln⟩ := laid D2_93 #[.slice none 0 0, .slice none 0 0, .bool false, .int .u64 0, .slice none 0 0, .slice none 0 0] 30
   obtain ⟨Y, hNMY⟩ := nm (D2_93.heap.size)
   rw [hNMY] at hln
   have nT3Y : T3 < Y := by have := llD HT3b_5.out; omega
   have nXY : X < Y := by have := llD HXb_6.out; omega
   have nT2Y : T2 < Y := by have := llD HT2b_7.out; omega
   have hVY : V.heap.size ≤ Y := by have := HBb_8.out.size; omega
   have HT3b_9 := hid (klD HT3b_5.out hbn)
   have HXb_10 := hid (klD HXb_6.out hbn)
   have HT2b_11 := hid (klD HT2b_7.out hbn)
   have HBb_12 := hid (HBb_8.out.trans (hbn.mono HBb_8.out.size))
   clear HT3b_5 HXb_6 HT2b_7 HBb_8 hbn hsn
   have KY_13 := hid (hln)
   clear hln
   go_wp2
   skip
   refine hR' _ _ ⟨⟨w3_230, HXb_10.out, HT3b_9.out⟩, rfl⟩ ?_
   clear hR' hO R'
   refine m2h rfl fun R' hR' hO => ?_
   go_wp2_with fail
   refine (CloneW_any wa a wc (wcells (w.M.W.take 64)) w3_230 ((HMW.out.grow HBb_12.out).front han (fun i v hv => by obtain ⟨x, hx, rfl⟩ := wcell_ex hv; exact wcell_at (take_front _ _ i x hx)) (fun h0 => by have := HAM.out; rw [← HWL.out] at this; rw [show w.M.W.take 64 = [] from List.eq_nil_of_length_eq_zero (by rw [List.length_take]; omega)]; rfl)) (by rw [wcells_len, List.length_take, HWL.out]; have := HAM.out; omega) (by omega) (wcells_one _)).mono ?_
   rintro e w4_249 ⟨vv, rfl, hro, hbn⟩
   obtain ⟨wa', wc', rfl, -⟩ := Leads.of_own hro
   have HRW_r := hid (own_base hro HBb_12.out.size)
   clear hro
   have HT3b_14 := hid (klD HT3b_9.out hbn)
   have HXb_15 := hid (klD HXb_10.out hbn)
   have HT2b_16 := hid (klD HT2b_11.out hbn)
   have HBb_17 := hid (HBb_12.out.trans (hbn.mono HBb_12.out.size))
   have KY_18 := hid (klD KY_13.out hbn)
   clear HT3b_9 HXb_10 HT2b_11 HBb_12 KY_13 hbn
   go_wp2
   skip
   refine hR' _ _ ⟨⟨w4_249, HXb_15.out, HT3b_14.out⟩, rfl⟩ ?_
   clear hR' hO R'
   refine m2h rfl fun R' hR' hO => ?_
   go_wp2_with fail
   refine (CloneB_any la b lc (bcells (w.M.L.take 64)) w4_249 ((HML.out.grow HBb_17.out).front hbn (fun i v hv => by obtain ⟨x, hx, rfl⟩ := bcell_ex hv; exact bcell_at (take_front _ _ i x hx)) (fun h0 => by have := HBM.out; rw [← HLL.out] at this; rw [show w.M.L.take 64 = [] from List.eq_nil_of_length_eq_zero (by rw [List.length_take]; omega)]; rfl)) (by rw [bcells_len, List.length_take, HLL.out]; have := HBM.out; omega) (by omega) (bcells_one _)).mono ?_
   rintro e w5_266 ⟨vv, rfl, hro, hbw⟩
   obtain ⟨la', lc', rfl, -⟩ := Leads.of_own hro
   have HRL_r := hid (own_base hro HBb_17.out.size)
   clear hro
   have HT3b_19 := hid (klD HT3b_14.out hbw)
   have HXb_20 := hid (klD HXb_15.out hbw)
   have HT2b_21 := hid (klD HT2b_16.out hbw)
   have HBb_22 := hid (HBb_17.out.trans (hbw.mono HBb_17.out.size))
   have KY_23 := hid (klD KY_18.out hbw)
   have HRW_24 := hid (ogr HRW_r.out hbw)
   clear HT3b_14 HXb_15 HT2b_16 HBb_17 KY_18 HRW_r hbw
   go_wp2
   skip
   refine hR' _ _ ⟨⟨w5_266, HXb_20.out, HT3b_19.out⟩, rfl⟩ ?_
   clear hR' hO R'
   repeat (refine m2q rfl rfl ?_; go_big_quiet_step (fail); refine wpQuiet_nil ?_)
   refine m2h rfl fun R' hR' hO => ?_
   go_wp2_with (refine wsP rfl 30 (.tmp 4) (.tmp 28) rfl Y 0 _ #[.slice wa' a wc', .slice la' b lc', .bool F, .int .u64 hd, .slice none 0 0, .slice none 0 0] _ rfl rfl _ KY_23.out (by kernel_rfl) (Nat.le_of_ble_eq_true rfl) (by kernel_rfl) rfl ?_; intro u6_285 a1 a2 a3 a4; have HY9 := hid a1; have HX9 := hid (a2 X _ (by omega) HXb_20.out); have HT9 := hid (a2 T2 _ (by omega) HT2b_21.out); have HT39 := hid (a2 T3 _ (by omega) HT3b_19.out); have HW9 := hid (okp HRW_24.out fun k o hk ho => a2 k o (own_neT HRW_24.out KY_23.out (by decide) k hk) ho); have HL9 := hid (okp HRL_r.out fun k o hk ho => a2 k o (own_neT HRL_r.out KY_23.out (by decide) k hk) ho); have HB9 := hid (a3 V.heap.size V (by omega) HBb_22.out); clear a1 a2 a3 a4; (try simp only [Act.put]))
   go_wp2
   skip
   refine hR' _ _ ⟨⟨u6_285, HX9.out, HT39.out⟩, rfl⟩ ?_
   clear hR' hO R'
   refine m2d ?_
   simp only [List.drop_succ_cons, List.drop_nil]
   clear m0 m1 m2 x3
   go_wp2
   go_meet
   exact ⟨Y, wa', la', wc', lc', rfl, by omega, HX9, HT9, HY9, hid ⟨by rw [show (w.M.W.take 64).length = a by rw [List.length_take, HWL.out]; have := HAM.out; omega]; exact HW9.out, by rw [show (w.M.L.take 64).length = b by rw [List.length_take, HLL.out]; have := HBM.out; omega]; exact HL9.out⟩, by omega, by omega, HB9⟩
 case rest =>
  clear HXb HT2b HT3b HBb
  obtain ⟨Y, wa', la', wc', lc', rfl, hVY, HX, HT, HY, HM, hTY, hXY, HB⟩ := hcut
  obtain ⟨w1, hw1⟩ : ∃ W, W = wc := ⟨_, rfl⟩
  subst hw1
  have x4 := clD (i := 4) HX.out rfl
  go_wp2_with fail
  refine (CloneJ_any ja p jc (jbcells (w.J.take 18)) w1 ((HJ.out.grow HB.out).front hpn (fun i v hv => take_front (jbcells w.J) (18 * 5) i v (by rw [jbcells_take]; exact hv)) (fun h0 => by have := HPM.out; rw [← HNJ.out] at this; rw [show w.J.take 18 = [] from List.eq_nil_of_length_eq_zero (by rw [List.length_take]; omega)]; rfl)) (by rw [jbcells_len, List.length_take, HNJ.out]; have := HPM.out; omega) (by omega) (jbcells_one _)).mono ?_
  rintro e w2_302 ⟨vv, rfl, hro, hbn⟩
  obtain ⟨ja', jc', rfl, -⟩ := Leads.of_own hro
  have HRJ_r := hid (own_base hro HB.out.size)
  clear hro x4
  have HX_5 := hid (klD HX.out hbn)
  have HT_6 := hid (klD HT.out hbn)
  have HY_7 := hid (klD HY.out hbn)
  have HM_8 := hid (HM.out.grow hbn)
  have HB_9 := hid (HB.out.trans (hbn.mono HB.out.size))
  clear HX HT HY HM HB hbn
  go_upto_region 4 with (refine wsP rfl 27 (.tmp 37) (.tmp 36) rfl Y 4 _ #[.slice wa' a wc', .slice la' b lc', .bool F, .int .u64 hd, .slice ja' p jc', .slice none 0 0] _ rfl rfl _ HY_7.out (by kernel_rfl) (Nat.le_of_ble_eq_true rfl) (by kernel_rfl) rfl ?_; intro u3_314 a1 a2 a3 a4; have HX_10 := hid (a2 X _ (by omega) HX_5.out); have HT_11 := hid (a2 T2 _ (by omega) HT_6.out); have HY_12 := hid (a1); have HM_13 := hid (MemO.far2 HM_8.out HY_7.out (by decide) (by decide) a2); have HB_14 := hid (a3 V.heap.size V hVY HB_9.out); have HRJ_15 := hid (okp HRJ_r.out fun k o hk ho => a2 k o (own_neT HRJ_r.out HY_7.out (by decide) k hk) ho); clear a1 a2 a3 a4 HX_5 HT_6 HY_7 HM_8 HB_9 HRJ_r; (try simp only [Act.put]))
  have x5 := clD (i := 5) HX_10.out rfl
  go_wp2_with fail
  refine (CloneK_any ka q kc (kycells (w.K.take 10)) u3_314 ((HK.out.grow HB_14.out).front hqn (fun i v hv => take_front (kycells w.K) (10 * 2) i v (by rw [kycells_take]; exact hv)) (fun h0 => by have := HQM.out; rw [← HNK.out] at this; rw [show w.K.take 10 = [] from List.eq_nil_of_length_eq_zero (by rw [List.length_take]; omega)]; rfl)) (by rw [kycells_len, List.length_take, HNK.out]; have := HQM.out; omega) (by omega) (kycells_one _)).mono ?_
  rintro e w4_316 ⟨vv, rfl, hro, hbn⟩
  obtain ⟨ka', kc', rfl, -⟩ := Leads.of_own hro
  have HRK_r := hid (own_base hro HB_14.out.size)
  clear hro x5
  have HX_16 := hid (klD HX_10.out hbn)
  have HT_17 := hid (klD HT_11.out hbn)
  have HY_18 := hid (klD HY_12.out hbn)
  have HM_19 := hid (HM_13.out.grow hbn)
  have HB_20 := hid (HB_14.out.trans (hbn.mono HB_14.out.size))
  have HRJ_21 := hid (ogr HRJ_15.out hbn)
  clear HX_10 HT_11 HY_12 HM_13 HB_14 HRJ_15 hbn
  go_upto_region 5 with (refine wsP rfl 28 (.tmp 46) (.tmp 45) rfl Y 5 _ #[.slice wa' a wc', .slice la' b lc', .bool F, .int .u64 hd, .slice ja' p jc', .slice ka' q kc'] _ rfl rfl _ HY_18.out (by kernel_rfl) (Nat.le_of_ble_eq_true rfl) (by kernel_rfl) rfl ?_; intro u5_329 a1 a2 a3 a4; have HX_22 := hid (a2 X _ (by omega) HX_16.out); have HT_23 := hid (a2 T2 _ (by omega) HT_17.out); have HY_24 := hid (a1); have HM_25 := hid (MemO.far2 HM_19.out HY_18.out (by decide) (by decide) a2); have HB_26 := hid (a3 V.heap.size V hVY HB_20.out); have HRJ_27 := hid (okp HRJ_21.out fun k o hk ho => a2 k o (own_neT HRJ_21.out HY_18.out (by decide) k hk) ho); have HRK_28 := hid (okp HRK_r.out fun k o hk ho => a2 k o (own_neT HRK_r.out HY_18.out (by decide) k hk) ho); clear a1 a2 a3 a4 HX_16 HT_17 HY_18 HM_19 HB_20 HRJ_21 HRK_r; (try simp only [Act.put]))
  have y0 := clD (i := 0) HY_24.out rfl
  have y1 := clD (i := 1) HY_24.out rfl
  have y2 := clD (i := 2) HY_24.out rfl
  have y3 := clD (i := 3) HY_24.out rfl
  have y4 := clD (i := 4) HY_24.out rfl
  have y5 := clD (i := 5) HY_24.out rfl
  go_wp2_with (refine wsP rfl 30 (.tmp 2) (.tmp 47) rfl T2 0 _ #[.slice wa' a wc', .slice la' b lc', .bool F, .int .u64 hd, .slice ja' p jc', .slice ka' q kc'] _ rfl rfl _ HT_23.out (by kernel_rfl) (Nat.le_of_ble_eq_true rfl) (by kernel_rfl) rfl ?_; intro u9 a1 a2 a3 a4; have HT9 := hid a1; have HM9 := hid (MemO.far2 HM_25.out HT_23.out (by decide) (by decide) a2); have HJ9 := hid (okp HRJ_27.out fun k o hk ho => a2 k o (own_neT HRJ_27.out HT_23.out (by decide) k hk) ho); have HK9 := hid (okp HRK_28.out fun k o hk ho => a2 k o (own_neT HRK_28.out HT_23.out (by decide) k hk) ho); have HB9 := hid (a3 V.heap.size V hVT2 HB_26.out); clear a1 a2 a3 a4; (try simp only [Act.put]))
  refine bodyPost_ret (wown_result HT9.out rfl) rfl ?_
  have e1 : (w.M.W.take 64).length = a := by rw [List.length_take, HWL.out]; have := HAM.out; omega
  have e2 : (w.M.L.take 64).length = b := by rw [List.length_take, HLL.out]; have := HBM.out; omega
  have e3 : (w.J.take 18).length = p := by rw [List.length_take, HNJ.out]; have := HPM.out; omega
  have e4 : (w.K.take 10).length = q := by rw [List.length_take, HNK.out]; have := HQM.out; omega
  refine ⟨wa', wc', la', lc', ja', jc', ka', kc', ?_, HM9.out, ?_, ?_, rfl, rfl, HB9.out⟩
  ·unfold walV ownW
   dsimp only
   rw [e1, e2, e3, e4, HF.out, HHD.out]
  ·show World.ownsRow _ _ _ _ (.slice ja' (w.J.take 18).length jc') (w.J.take 18).length _
   rw [e3]; exact HJ9.out
  ·show World.ownsRow _ _ _ _ (.slice ka' (w.K.take 10).length kc') (w.K.take 10).length _
   rw [e4]; exact HK9.out
end Go.Proofs.YtipohagcppfgiaaGreat
