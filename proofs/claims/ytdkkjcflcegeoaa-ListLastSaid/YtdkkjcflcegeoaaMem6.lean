/- Memories: New; Live of all words. -/
import Derived.Test.YtdkkjcflcegeoaaMem5
namespace Go.Proofs.Ytdkkjcflcegeoaa
open Go.RowKit
open Go.Proofs
set_option linter.unusedVariables false

/-- A call gives a memory of its own, and no error. -/
def GivesE (M : Mem) (w : World) (e : Ending) (W : World) : Prop := ∃ wa wc la lc, e = .returned (.tuple #[memV wa wc la lc M, .int .i64 0]) ∧ MemO w.heap.size wa wc la lc M W ∧ Below w.heap.size w W
theorem new_result {W : World} {b : Nat} {v0 v1 v2 s : Value} {tmps : Array Value} (h : W.heap[b]? = some (.cells #[v0, v1, v2] 25 (0, 0))) (hp : tmps[2]?.getD undef = .pointer (some ⟨b, 0, none⟩)) (hs : tmps[3]?.getD undef = s) :
    (results Try.f59 tmps).run Try.prog W = .ok (.tuple #[.agg #[v0, v1, v2], s]) W := by
  have h0 := cell_laid (i := 0) (v := v0) h rfl
  have h1 := cell_laid (i := 1) (v := v1) h rfl
  have h2 := cell_laid (i := 2) (v := v2) h rfl
  simp [results, Try.results59, go_sem, hp, hs, h0, h1, h2]
theorem turned_result {W : World} {b : Nat} {v0 v1 v2 s : Value} {tmps : Array Value} (h : W.heap[b]? = some (.cells #[v0, v1, v2] 25 (0, 0))) (hp : tmps[12]?.getD undef = .pointer (some ⟨b, 0, none⟩)) (hs : tmps[13]?.getD undef = s) :
    (results Try.f89 tmps).run Try.prog W = .ok (.tuple #[.agg #[v0, v1, v2], s]) W := by
  have h0 := cell_laid (i := 0) (v := v0) h rfl
  have h1 := cell_laid (i := 1) (v := v1) h rfl
  have h2 := cell_laid (i := 2) (v := v2) h rfl
  simp [results, Try.results89, go_sem, hp, hs, h0, h1, h2]
theorem live_result {W : World} {b : Nat} {v0 v1 v2 s : Value} {tmps : Array Value} (h : W.heap[b]? = some (.cells #[v0, v1, v2] 25 (0, 0))) (hp : tmps[6]?.getD undef = .pointer (some ⟨b, 0, none⟩)) (hs : tmps[7]?.getD undef = s) :
    (results Try.f60 tmps).run Try.prog W = .ok (.tuple #[.agg #[v0, v1, v2], s]) W := by
  have h0 := cell_laid (i := 0) (v := v0) h rfl
  have h1 := cell_laid (i := 1) (v := v1) h rfl
  have h2 := cell_laid (i := 2) (v := v2) h rfl
  simp [results, Try.results60, go_sem, hp, hs, h0, h1, h2]
theorem row_new {V : World} {base g n : Nat} {e : TypeId} {cs : List Value} (h : V.heap[g]? = some (.cells cs.toArray e (0, 0))) (hl : cs.length = n) (hn : n ≤ 100000) (hb : base ≤ g) : V.ownsRow base e 1 (.slice (some ⟨g, 0, none⟩) n n) n cs := by
  refine ⟨by omega, .inr ⟨g, n, _, rfl, hb, h, Nat.le_refl _, by unfold maxLen; omega, by simp [hl], ?_⟩⟩
  rw [List.take_of_length_le (by simp [hl])]

set_option maxRecDepth 100000 in
set_option maxHeartbeats 2000000 in
theorem New_any (n : Nat) (V : World) (h1 : 1 ≤ n) (h4 : n ≤ 4096) : Calls Try.prog 59 #[.int .i64 (n : Nat)] V (GivesE ⟨List.replicate n 0, List.replicate n false, false⟩ V) := by
  obtain ⟨V1, hV1, hb1, hs1, hl1⟩ := laid V #[.slice none 0 0, .slice none 0 0, .bool false] 25
  obtain ⟨Z, hZ⟩ : ∃ Z, V.heap.size = Z := ⟨_, rfl⟩
  rw [hZ] at hl1
  have HZ := hid hl1
  have HB1 := hid hb1
  have HZV := hid (show V.heap.size ≤ Z by omega)
  clear hl1 hs1 hb1
  go_enter Try.func59, Try.ntmps59
  go_upto_region 3 with (fail)
  refine wp_region_mix2 (fun W => ∃ z : Ext V, W = z.v) 7 (.q 0 (.q 2 (.h2 1 (.h 3 (.q 4 (.h 5 (.q 6 (.done))))) 3 (.h 1 (.q 4 (.h 5 (.q 6 (.done)))))))) (by kernel_rfl) (by kernel_rfl) ⟨⟨_, HB1.out.drew⟩, rfl⟩ ?_
  repeat (refine wpMix2_q rfl rfl ?_; go_big_quiet_step (fail); refine wpQuiet_nil ?_)
  obtain ⟨wD, hwD⟩ : ∃ wD, V1.drew = wD := ⟨_, rfl⟩
  have HBD : Hid (Below V1.heap.size V1 wD) := hid (by rw [← hwD]; exact (Below.refl _ _).drew)
  rw [hwD]
  clear hwD
  refine wpMix2_h2 ?_ ?_
  · refine wpMix2_h rfl fun R' hR' hO => ?_
    obtain ⟨w1_, hw, hb, hs, hl⟩ := laid wD (List.replicate n (.int .u64 0)).toArray 26
    obtain ⟨gw, hg⟩ : ∃ gw, wD.heap.size = gw := ⟨_, rfl⟩
    have HVgw : Hid (V.heap.size ≤ gw) := hid (by rw [← hg]; have := HB1.out.size; have := HBD.out.size; omega)
    have hmk := make_words wD n (by omega)
    rw [hw, hg] at hmk
    rw [hg] at hl
    have Hgw0 := hid hl
    have HBW0 := hid (step HBD.out hb)
    clear hb hl hs
    go_wp2
    refine hR' _ _ ⟨⟨_, step HB1.out HBW0.out⟩, rfl⟩ ?_
    clear hR' hO R' hg hw hmk
    refine wpMix2_h rfl fun R' hR' hO => ?_
    obtain ⟨w2_, hw, hb, hs, hl⟩ := laid w1_ (List.replicate n (.bool false)).toArray 4
    obtain ⟨gl, hg⟩ : ∃ gl, w1_.heap.size = gl := ⟨_, rfl⟩
    have HVgl : Hid (V.heap.size ≤ gl) := hid (by rw [← hg]; have := HB1.out.size; have := HBW0.out.size; omega)
    have hmk := make_bools w1_ n (by omega)
    rw [hw, hg] at hmk
    rw [hg] at hl
    have Hgl1 := hid hl
    have Hgw1 := hid (keep_laid Hgw0.out hb)
    have HBW1 := hid (step HBW0.out hb)
    clear hb hl hs
    go_wp2
    refine hR' _ _ ⟨⟨_, step HB1.out HBW1.out⟩, rfl⟩ ?_
    clear hR' hO R' hg hw hmk
    refine wpMix2_q rfl rfl ?_
    go_big_quiet_step (fail)
    refine wpQuiet_nil ?_
    refine wpMix2_h rfl fun R' hR' hO => ?_
    have HZ2 := hid (keep_laid HZ.out HBW1.out)
    obtain ⟨z0, z1, z2⟩ := cells3 HZ2.out
    have f0 := free_laid (i := 0) HZ2.out
    have f1 := free_laid (i := 1) HZ2.out
    have f2 := free_laid (i := 2) HZ2.out
    have hMO : MemO V.heap.size (some ⟨gw, 0, none⟩) n (some ⟨gl, 0, none⟩) n ⟨List.replicate n 0, List.replicate n false, false⟩ w2_ := by
      refine ⟨?_, ?_⟩
      · show World.ownsRow w2_ V.heap.size 26 1 (.slice _ (List.replicate n 0).length n) (List.replicate n 0).length (wcells (List.replicate n 0))
        rw [List.length_replicate]
        have e : wcells (List.replicate n 0) = List.replicate n (.int .u64 0) := by simp [wcells]
        rw [e]
        exact row_new Hgw1.out (by simp) (by omega) HVgw.out
      · show World.ownsRow w2_ V.heap.size 4 1 (.slice _ (List.replicate n false).length n) (List.replicate n false).length (bcells (List.replicate n false))
        rw [List.length_replicate]
        have e : bcells (List.replicate n false) = List.replicate n (.bool false) := by simp [bcells]
        rw [e]
        exact row_new Hgl1.out (by simp) (by omega) HVgl.out
    obtain ⟨V9, hV9, hz9, hk9, hb9, hm9⟩ := put_mem HZ2.out (.slice (some ⟨gw, 0, none⟩) n n) (.slice (some ⟨gl, 0, none⟩) n n) (.bool false)
    have HM9 := hid (hm9 _ _ _ _ _ _ hMO)
    have HB9 := hid (hb9 _ _ HZV.out (step HB1.out HBW1.out))
    have HZ9 := hid hz9
    have HV9 := hid hV9
    clear hMO hV9 hz9 hk9 hb9 hm9
    go_wp2
    refine hR' _ _ ⟨⟨V9, HB9.out⟩, HV9.out.symm⟩ ?_
    rw [← HV9.out]
    clear hR' hO R'
    repeat (refine wpMix2_q rfl rfl ?_; go_big_quiet_step (fail); refine wpQuiet_nil ?_)
    refine wpMix2_done ?_
    simp only [List.drop_succ_cons, List.drop_nil]
    go_wp2
    refine bodyPost_ret (new_result HZ9.out rfl rfl) rfl ?_
    exact ⟨_, _, _, _, by unfold memV; dsimp only; rw [List.length_replicate, List.length_replicate]; rfl, HM9.out, HB9.out⟩
  · refine wpMix2_h rfl fun R' hR' hO => ?_
    obtain ⟨w1_, hw, hb, hs, hl⟩ := laid wD (List.replicate n (.bool false)).toArray 4
    obtain ⟨gl, hg⟩ : ∃ gl, wD.heap.size = gl := ⟨_, rfl⟩
    have HVgl : Hid (V.heap.size ≤ gl) := hid (by rw [← hg]; have := HB1.out.size; have := HBD.out.size; omega)
    have hmk := make_bools wD n (by omega)
    rw [hw, hg] at hmk
    rw [hg] at hl
    have Hgl0 := hid hl
    have HBW0 := hid (step HBD.out hb)
    clear hb hl hs
    go_wp2
    refine hR' _ _ ⟨⟨_, step HB1.out HBW0.out⟩, rfl⟩ ?_
    clear hR' hO R' hg hw hmk
    refine wpMix2_h rfl fun R' hR' hO => ?_
    obtain ⟨w2_, hw, hb, hs, hl⟩ := laid w1_ (List.replicate n (.int .u64 0)).toArray 26
    obtain ⟨gw, hg⟩ : ∃ gw, w1_.heap.size = gw := ⟨_, rfl⟩
    have HVgw : Hid (V.heap.size ≤ gw) := hid (by rw [← hg]; have := HB1.out.size; have := HBW0.out.size; omega)
    have hmk := make_words w1_ n (by omega)
    rw [hw, hg] at hmk
    rw [hg] at hl
    have Hgw1 := hid hl
    have Hgl1 := hid (keep_laid Hgl0.out hb)
    have HBW1 := hid (step HBW0.out hb)
    clear hb hl hs
    go_wp2
    refine hR' _ _ ⟨⟨_, step HB1.out HBW1.out⟩, rfl⟩ ?_
    clear hR' hO R' hg hw hmk
    refine wpMix2_q rfl rfl ?_
    go_big_quiet_step (fail)
    refine wpQuiet_nil ?_
    refine wpMix2_h rfl fun R' hR' hO => ?_
    have HZ2 := hid (keep_laid HZ.out HBW1.out)
    obtain ⟨z0, z1, z2⟩ := cells3 HZ2.out
    have f0 := free_laid (i := 0) HZ2.out
    have f1 := free_laid (i := 1) HZ2.out
    have f2 := free_laid (i := 2) HZ2.out
    have hMO : MemO V.heap.size (some ⟨gw, 0, none⟩) n (some ⟨gl, 0, none⟩) n ⟨List.replicate n 0, List.replicate n false, false⟩ w2_ := by
      refine ⟨?_, ?_⟩
      · show World.ownsRow w2_ V.heap.size 26 1 (.slice _ (List.replicate n 0).length n) (List.replicate n 0).length (wcells (List.replicate n 0))
        rw [List.length_replicate]
        have e : wcells (List.replicate n 0) = List.replicate n (.int .u64 0) := by simp [wcells]
        rw [e]
        exact row_new Hgw1.out (by simp) (by omega) HVgw.out
      · show World.ownsRow w2_ V.heap.size 4 1 (.slice _ (List.replicate n false).length n) (List.replicate n false).length (bcells (List.replicate n false))
        rw [List.length_replicate]
        have e : bcells (List.replicate n false) = List.replicate n (.bool false) := by simp [bcells]
        rw [e]
        exact row_new Hgl1.out (by simp) (by omega) HVgl.out
    obtain ⟨V9, hV9, hz9, hk9, hb9, hm9⟩ := put_mem HZ2.out (.slice (some ⟨gw, 0, none⟩) n n) (.slice (some ⟨gl, 0, none⟩) n n) (.bool false)
    have HM9 := hid (hm9 _ _ _ _ _ _ hMO)
    have HB9 := hid (hb9 _ _ HZV.out (step HB1.out HBW1.out))
    have HZ9 := hid hz9
    have HV9 := hid hV9
    clear hMO hV9 hz9 hk9 hb9 hm9
    go_wp2
    refine hR' _ _ ⟨⟨V9, HB9.out⟩, HV9.out.symm⟩ ?_
    rw [← HV9.out]
    clear hR' hO R'
    repeat (refine wpMix2_q rfl rfl ?_; go_big_quiet_step (fail); refine wpQuiet_nil ?_)
    refine wpMix2_done ?_
    simp only [List.drop_succ_cons, List.drop_nil]
    go_wp2
    refine bodyPost_ret (new_result HZ9.out rfl rfl) rfl ?_
    exact ⟨_, _, _, _, by unfold memV; dsimp only; rw [List.length_replicate, List.length_replicate]; rfl, HM9.out, HB9.out⟩

theorem Turned1_any (b c : Bool) (X : Nat) (k : Int) (V : World) (h : V.cell? ⟨X, 0, none⟩ = some (.bool c)) : Calls Try.prog 92 #[.int .i64 k, .bool b, .pointer (some ⟨X, 0, none⟩)] V (fun e V' => e = .returned (.bool (b != c)) ∧ V' = V) := by
  go_enter Try.func92, Try.ntmps92
  go_wp2
  go_ret
  exact ⟨rfl, rfl⟩
theorem EveryF_any (n lc X : Nat) (la : Option Addr) (V : World) (h : Leads V la n lc (bcells (List.replicate n false))) (hc : V.cell? ⟨X, 0, none⟩ = some (.bool true)) :
    Calls Try.prog 91 #[.slice la n lc, .func (.func 92) #[] #[.pointer (some ⟨X, 0, none⟩)]] V (fun e V' => e = .returned (.bool true) ∧ V' = V) := by
  have H := hid h
  have hln := h.len.1
  have HC := hid (fun (k : Int) => Turned1_any false true X k V hc)
  clear h hc
  go_enter Try.func91, Try.ntmps91
  go_wp2
  go_loopg [9] n (fun g i wr => ∃ k : Nat, g + k = n ∧ i = .int .i64 (k : Nat) ∧ wr = V)
  case atStart => exact ⟨0, rfl, rfl, rfl⟩
  case round =>
    obtain ⟨k, hk, rfl, hwr⟩ := hrel
    subst hwr
    have HK := hid hk
    clear hk
    by_cases hlt : k < n
    · obtain ⟨b', off, rfl, -, hc⟩ := H.out.at hlt (bcell_at (l := List.replicate n false) (k := k) (x := false) (by simp [hlt]))
      have f1 := hc _ (Below.refl _ _)
      clear hc
      go_wp2_with fail
      refine (HC.out _).mono ?_
      rintro e w2 ⟨rfl, rfl⟩
      go_wp2
      go_roundg (gk - 1)
      case measure => have := HK.out; omega
      case rel => exact ⟨k + 1, by have := HK.out; omega, by go_num, rfl⟩
    · go_wp2
      go_ret
      exact ⟨rfl, rfl⟩

structure RT (T : Nat) where
  v : World
  t0 : v.cell? ⟨T, 0, none⟩ = some (.bool true)
theorem tf_len (n k : Nat) (h : k ≤ n) : (List.replicate k true ++ List.replicate (n - k) false).length = n := by simp; omega
theorem tf_at (n k : Nat) (h : k < n) : (List.replicate k true ++ List.replicate (n - k) false)[k]? = some false := by
  rw [List.getElem?_append_right (by simp), List.length_replicate, Nat.sub_self, List.getElem?_replicate, if_pos (by omega)]
theorem tf_set (n k : Nat) (h : k < n) : (List.replicate k true ++ List.replicate (n - k) false).set k true = List.replicate (k + 1) true ++ List.replicate (n - (k + 1)) false := by
  rw [List.set_append_right _ _ (by simp), List.length_replicate, Nat.sub_self]
  obtain ⟨m, hm⟩ : ∃ m, n - k = m + 1 := ⟨n - k - 1, by omega⟩
  rw [hm, List.replicate_succ, List.set_cons_zero, show n - (k + 1) = m by omega, List.replicate_succ', List.append_assoc]
  rfl
theorem rep_set (n k : Nat) : (List.replicate n 0).set k 0 = List.replicate n (0 : Nat) := by
  apply List.ext_getElem?
  intro i
  rw [List.getElem?_set]
  split
  · subst_vars
    split
    · simp_all
    · simp_all
  · rfl

set_option maxRecDepth 100000 in
set_option maxHeartbeats 4000000 in
theorem turned_any (n : Nat) (wa la : Option Addr) (wc lc : Nat) (V : World) (h1 : 1 ≤ n) (h4 : n ≤ 4096) (h : MemL V wa wc la lc ⟨List.replicate n 0, List.replicate n false, false⟩) :
    Calls Try.prog 89 #[memV wa wc la lc ⟨List.replicate n 0, List.replicate n false, false⟩, .int .i64 0, .int .i64 (n : Nat), .bool true, .int .u64 0, .int .i64 5] V (GivesE ⟨List.replicate n 0, List.replicate n true, false⟩ V) := by
  have hok : okM ⟨List.replicate n 0, List.replicate n false, false⟩ = true := by
    unfold okM
    simp only [List.length_replicate, Bool.and_eq_true, decide_eq_true_eq, List.all_eq_true]
    refine ⟨h1, h4, trivial, fun p hp => ?_⟩
    obtain ⟨i, hi⟩ := List.getElem?_of_mem hp
    obtain ⟨e1, -⟩ := List.getElem?_zip_eq_some.1 hi
    rw [List.eq_of_mem_replicate (List.mem_of_getElem? e1)] at *
    unfold wordOk
    have : p.1 = 0 := List.eq_of_mem_replicate (List.mem_of_getElem? (List.getElem?_zip_eq_some.1 hi).1)
    simp [this]
  have hck := fun W (hb : Below V.heap.size V W) => Check_any ⟨List.replicate n 0, List.replicate n false, false⟩ wa la wc lc W (h.grow hb)
  have hom := fun W (hb : Below V.heap.size V W) => memown_any ⟨List.replicate n 0, List.replicate n false, false⟩ wa la wc lc W (h.grow hb) (by simp; omega) (by simp; omega)
  simp only [hok, if_pos] at hck
  obtain ⟨V1, hV1, hb1, hs1, hl1⟩ := laid V #[.slice wa n wc, .slice la n lc, .bool false] 25
  obtain ⟨V2, hV2, hb2, hs2, hl2⟩ := laid V1 #[.bool true] 4
  obtain ⟨V3, hV3, hb3, hs3, hl3⟩ := laid V2 #[.slice none 0 0, .slice none 0 0, .bool false] 25
  obtain ⟨X, hX⟩ : ∃ X, V.heap.size = X := ⟨_, rfl⟩
  obtain ⟨T, hT⟩ : ∃ T, V1.heap.size = T := ⟨_, rfl⟩
  obtain ⟨Z, hZ⟩ : ∃ Z, V2.heap.size = Z := ⟨_, rfl⟩
  rw [hX] at hl1
  rw [hT] at hl2
  rw [hZ] at hl3
  have HX := hid (keep_laid (keep_laid hl1 hb2) hb3)
  have HT := hid (keep_laid hl2 hb3)
  have HZ := hid hl3
  have HB3 := hid (step (step hb1 hb2) hb3)
  have HZV : Hid (V.heap.size ≤ Z) := hid (by rw [← hZ]; exact (step hb1 hb2).size)
  have hwl := h.w.len
  have hll := h.l.len
  have hlc1 := h.l.1
  have hwc1 := h.w.1
  have HLR : Hid (Leads V la n lc (bcells (List.replicate n false))) := hid (by have := h.l; simpa using this)
  unfold memV at hck hom ⊢
  simp only [List.length_replicate] at hck hom hwl hll hlc1 hwc1 ⊢
  have t1 : decide (((n : Nat) : Int) < 1) = false := decide_eq_false (by omega)
  have hlc0 : ¬ lc = 0 := by omega
  have hlcI : ((n : Nat) : Int) ≤ ((lc : Nat) : Int) := by omega
  have HCK := hid hck
  have HOM := hid hom
  obtain ⟨x0, x1, x2⟩ := cells3 HX.out
  clear h hok hck hom hs1 hs2 hs3 hb1 hb2 hb3 hl1 hl2 hl3
  have hmf : ∀ (fn : Fn) (first cap : Array Value) (w : World), (Instr.makeFunc fn first cap).run Try.prog w = .ok (.func fn first cap) w := fun _ _ _ _ => rfl
  go_enter Try.func89, Try.ntmps89
  go_wp2_with fail
  refine (HCK.out _ HB3.out).mono ?_
  rintro e V4 ⟨rfl, hb4⟩
  have HB4 := hid (step HB3.out hb4)
  have HX4 := hid (keep_laid HX.out hb4)
  have HT4 := hid (keep_laid HT.out hb4)
  have HZ4 := hid (keep_laid HZ.out hb4)
  obtain ⟨x0, x1, x2⟩ := cells3 HX4.out
  have HEV := hid (EveryF_any n lc T la V4 (HLR.out.grow HB4.out) (cell_laid (i := 0) HT4.out rfl))
  clear hb4
  go_wp2_with fail
  refine HEV.out.mono ?_
  rintro e V5 ⟨rfl, rfl⟩
  have HOW := hid (HOM.out V5 HB4.out)
  go_wp2_with fail
  refine HOW.out.mono ?_
  rintro e V6 ⟨wa', wc', la', lc', rfl, hO6, hb6⟩
  unfold memV
  simp only [List.length_replicate]
  obtain ⟨V7, hV7, hb7, hs7, hl7⟩ := laid V6 #[.slice none 0 0, .slice none 0 0, .bool false] 25
  obtain ⟨Y, hY⟩ : ∃ Y, V6.heap.size = Y := ⟨_, rfl⟩
  rw [hY] at hl7 hs7
  have HYZ : Hid (Y ≠ Z) := hid (by have := lt_laid (keep_laid HZ4.out hb6); omega)
  have HYV : Hid (V5.heap.size ≤ Y) := hid (by rw [← hY]; exact hb6.size)
  have hOW := hO6.w
  have hOL := hO6.l
  simp only [List.length_replicate] at hOW hOL
  obtain ⟨gw, rfl⟩ := row_addr hOW (by omega)
  obtain ⟨gl, rfl⟩ := row_addr hOL (by omega)
  have HTG : Hid (T ≠ gl) := hid (by have := (hOL.lt gl rfl).1; have := lt_laid HT4.out; omega)
  obtain ⟨V8, hV8, hl8, hk8, hb8, hm8⟩ := put_mem hl7 (.slice (some ⟨gw, 0, none⟩) n wc') (.slice (some ⟨gl, 0, none⟩) n lc') (.bool false)
  have f0 := free_laid (i := 0) hl7
  have f1 := free_laid (i := 1) hl7
  have f2 := free_laid (i := 2) hl7
  obtain ⟨z0, z1, z2⟩ := cells3 hl7
  have hO8 := (hm8 _ _ _ _ _ _ (hO6.grow hb7)).base (show V.heap.size ≤ V5.heap.size from HB4.out.size)
  have hW8 := hO8.w
  have hL8 := hO8.l
  simp only [List.length_replicate] at hW8 hL8
  have HW8 := hid hW8
  have HL8 := hid hL8
  have hwc' := (Leads.of_own1 hW8).len
  have hlc' := (Leads.of_own1 hL8).len
  have hnw := (Leads.of_own1 hW8).1
  have hnl := (Leads.of_own1 hL8).1
  have HB58 := hid (hb8 _ _ HYV.out (step hb6 hb7))
  have HB8 := hid (step HB4.out HB58.out)
  have HY8 := hid hl8
  have HV8 := hid hV8
  have HT8 := hid (keep_laid HT4.out HB58.out)
  have HZ8 := hid (keep_laid HZ4.out HB58.out)
  clear hb6 hb7 hl7 hs7 hl8 hk8 hb8 hm8 hO6 hO8 hV8 hOW hOL hW8 hL8 x0 x1 x2
  go_upto_region 8 with (fail)
  rw [← HV8.out]
  have y0 : ∀ z : Ext V8, z.v.cell? ⟨Y, 0, none⟩ = some (.slice (some ⟨gw, 0, none⟩) n wc') := fun z => (cells3 (keep_laid HY8.out z.b)).1
  have y1 : ∀ z : Ext V8, z.v.cell? ⟨Y, 1, none⟩ = some (.slice (some ⟨gl, 0, none⟩) n lc') := fun z => (cells3 (keep_laid HY8.out z.b)).2.1
  have hnn : n ≤ n := Nat.le_refl n
  have hn0 : ¬ n = 0 := by omega
  clear f0 f1 f2 z0 z1 z2 hV7 hY
  refine wp_region_ext (by kernel_rfl) (by kernel_rfl) ?_
  repeat (go_big_quiet_step (fail))
  refine wpQuiet_nil ?_
  rintro _ ⟨z9, rfl⟩
  obtain ⟨V9, hV9⟩ : ∃ V9, z9.v = V9 := ⟨_, rfl⟩
  have hb9 : Below V8.heap.size V8 V9 := hV9 ▸ z9.b
  rw [hV9]
  clear hV9
  have HW9 := hid (own_grow HW8.out hb9)
  have HL9 := hid (own_grow HL8.out hb9)
  have HY9 := hid (keep_laid HY8.out hb9)
  have HT9 := hid (keep_laid HT8.out hb9)
  have HZ9 := hid (keep_laid HZ8.out hb9)
  have HB9 := hid (step HB8.out hb9)
  clear y0 y1 hb9 z9
  go_wp2
  go_loopg [84] n (fun g i W => ∃ k : Nat, g + k = n ∧ i = .int .i64 (k : Nat) ∧ Hid (W.ownsRow V.heap.size 26 1 (.slice (some ⟨gw, 0, none⟩) n wc') n (wcells (List.replicate n 0))) ∧ Hid (W.ownsRow V.heap.size 4 1 (.slice (some ⟨gl, 0, none⟩) n lc') n (bcells (List.replicate k true ++ List.replicate (n - k) false))) ∧
    Hid (W.heap[Y]? = some (.cells #[.slice (some ⟨gw, 0, none⟩) n wc', .slice (some ⟨gl, 0, none⟩) n lc', .bool false] 25 (0, 0))) ∧ Hid (W.heap[T]? = some (.cells #[.bool true] 4 (0, 0))) ∧ Hid (W.heap[Z]? = some (.cells #[.slice none 0 0, .slice none 0 0, .bool false] 25 (0, 0))) ∧ Hid (Below V.heap.size V W))
  case atStart => exact ⟨0, rfl, rfl, HW9, by simpa using HL9, HY9, HT9, HZ9, HB9⟩
  case round =>
    obtain ⟨k, hk, rfl, hW, hL, hY, hT, hZ, hB⟩ := hrel
    have HK := hid hk
    clear hk
    by_cases hlt : k < n
    · obtain ⟨wD, hwD⟩ : ∃ wD, wr.drew = wD := ⟨_, rfl⟩
      have hbd : Below wr.heap.size wr wD := by rw [← hwD]; exact (Below.refl _ _).drew
      have hWd := own_grow hW.out hbd
      have hLd := own_grow hL.out hbd
      obtain ⟨cw, hcw⟩ := own_type hWd gw rfl
      obtain ⟨cl, hcl⟩ := own_type hLd gl rfl
      have hTd := keep_laid hT.out hbd
      have hYd := keep_laid hY.out hbd
      have hZd := keep_laid hZ.out hbd
      have hwg : gw ≠ gl := type_ne hcw hcl (by decide)
      have cW := (hWd.cellAt k (by omega)).trans (wcell_at (l := List.replicate n 0) (k := k) (x := 0) (by simp [hlt]))
      have fW := hWd.frozenAt k
      obtain ⟨V1_, hV1_⟩ : ∃ V1_, wD.setCell ⟨gw, k, none⟩ (.int .u64 0) = V1_ := ⟨_, rfl⟩
      have hW1 : V1_.ownsRow V.heap.size 26 1 (.slice (some ⟨gw, 0, none⟩) n wc') n (wcells (List.replicate n 0)) := by
        have := (hWd.stored k (.int .u64 ((0 : Nat) : Int))).1
        rw [wcells_set, rep_set] at this
        rw [← hV1_]; exact this
      have hk1 : ∀ (b : Nat) (o : Obj), b ≠ gw → wD.heap[b]? = some o → V1_.heap[b]? = some o := fun b o hb ho => by rw [← hV1_]; exact other_laid ho hb _
      have hL1 : V1_.ownsRow V.heap.size 4 1 (.slice (some ⟨gl, 0, none⟩) n lc') n (bcells (List.replicate k true ++ List.replicate (n - k) false)) := own_keep hLd (fun b o hb ho => by
        have e : gl = b := by simpa [Value.ownBlock] using hb
        exact hk1 b o (by omega) ho)
      have hT1 := hk1 T _ (type_ne hTd hcw (by decide)) hTd
      have hY1 := hk1 Y _ (type_ne hYd hcw (by decide)) hYd
      have hZ1 := hk1 Z _ (type_ne hZd hcw (by decide)) hZd
      have hB1 : Below V.heap.size V V1_ := by rw [← hV1_]; exact (hB.out.trans (hbd.mono hB.out.size)).setCell (p := ⟨gw, k, none⟩) (by show V.heap.size ≤ gw; exact (hWd.lt gw rfl).1) _
      have cL := (hL1.cellAt k (by omega)).trans (bcell_at (l := List.replicate k true ++ List.replicate (n - k) false) (k := k) (x := false) (tf_at n k hlt))
      have fL := hL1.frozenAt k
      obtain ⟨cl1, hcl1⟩ := own_type hL1 gl rfl
      obtain ⟨V2_, hV2_⟩ : ∃ V2_, V1_.setCell ⟨gl, k, none⟩ (.bool true) = V2_ := ⟨_, rfl⟩
      have hk2 : ∀ (b : Nat) (o : Obj), b ≠ gl → V1_.heap[b]? = some o → V2_.heap[b]? = some o := fun b o hb ho => by rw [← hV2_]; exact other_laid ho hb _
      have HL2 : Hid (V2_.ownsRow V.heap.size 4 1 (.slice (some ⟨gl, 0, none⟩) n lc') n (bcells (List.replicate (k + 1) true ++ List.replicate (n - (k + 1)) false))) := hid (by
        have := (hL1.stored k (.bool true)).1
        rw [bcells_set, tf_set n k hlt] at this
        rw [← hV2_]; exact this)
      have HW2 : Hid (V2_.ownsRow V.heap.size 26 1 (.slice (some ⟨gw, 0, none⟩) n wc') n (wcells (List.replicate n 0))) := hid (own_keep hW1 (fun b o hb ho => by
        have e : gw = b := by simpa [Value.ownBlock] using hb
        exact hk2 b o (by omega) ho))
      have HT2 := hid (hk2 T _ HTG.out hT1)
      have HY2 := hid (hk2 Y _ (type_ne hY1 hcl1 (by decide)) hY1)
      have HZ2 := hid (hk2 Z _ (type_ne hZ1 hcl1 (by decide)) hZ1)
      have HB2 : Hid (Below V.heap.size V V2_) := hid (by rw [← hV2_]; exact hB1.setCell (p := ⟨gl, k, none⟩) (by show V.heap.size ≤ gl; exact (hLd.lt gl rfl).1) _)
      have HR1 : Hid (∃ z : RT T, V1_ = z.v) := hid ⟨⟨V1_, cell_laid hT1 rfl⟩, rfl⟩
      have hdr : ∃ z : RT T, wr.drew = z.v := ⟨⟨wr.drew, by rw [hwD]; exact cell_laid hTd rfl⟩, rfl⟩
      haveI : Nonempty (RT T) := hdr.elim fun z _ => ⟨z⟩
      have t0 : ∀ z : RT T, z.v.cell? ⟨T, 0, none⟩ = some (.bool true) := fun z => z.t0
      have HV1_ := hid hV1_
      have HV2_ := hid hV2_
      clear hWd hLd hcw hcl hTd hYd hZd hwg hV1_ hW1 hk1 hL1 hT1 hY1 hZ1 hB1 hcl1 hV2_ hk2 hbd hW hL hY hT hZ hB
      go_upto_region 12 with (fail)
      refine wp_region_mix2 (fun W => ∃ z : RT T, W = z.v) 9 (.q 0 (.q 1 (.q 2 (.q 3 (.q 4 (.q 5 (.q 6 (.h 7 (.q 8 (.done)))))))))) (by kernel_rfl) (by kernel_rfl) hdr ?_
      rw [hwD]
      clear hwD
      repeat (refine wpMix2_q rfl rfl ?_; go_big_quiet_step (fail); refine wpQuiet_nil ?_)
      refine wpMix2_h rfl fun R' hR' hO => ?_
      go_wp2
      rw [HV1_.out]
      refine hR' _ _ HR1.out ?_
      refine wpMix2_q rfl rfl ?_
      go_big_quiet_step (fail)
      refine wpQuiet_nil ?_
      refine wpMix2_done ?_
      simp only [List.drop_succ_cons, List.drop_zero]
      go_wp2
      rw [HV2_.out]
      go_roundg (gk - 1)
      case measure => have := HK.out; omega
      case rel => exact ⟨k + 1, by have := HK.out; omega, by go_num, HW2, HL2, HY2, HT2, HZ2, HB2⟩
    · obtain rfl : k = n := by have := HK.out; omega
      obtain ⟨y0, y1, y2⟩ := cells3 hY.out
      obtain ⟨z0, z1, z2⟩ := cells3 hZ.out
      have f0 := free_laid (i := 0) hZ.out
      have f1 := free_laid (i := 1) hZ.out
      have f2 := free_laid (i := 2) hZ.out
      have hMO : MemO V.heap.size (some ⟨gw, 0, none⟩) wc' (some ⟨gl, 0, none⟩) lc' ⟨List.replicate k 0, List.replicate k true, false⟩ wr := by
        refine ⟨by simpa using hW.out, ?_⟩
        have := hL.out
        rw [Nat.sub_self, List.replicate_zero, List.append_nil] at this
        simpa using this
      obtain ⟨V11, hV11, hz11, hk11, hb11, hm11⟩ := put_mem hZ.out (.slice (some ⟨gw, 0, none⟩) k wc') (.slice (some ⟨gl, 0, none⟩) k lc') (.bool false)
      have HM11 := hid (hm11 _ _ _ _ _ _ hMO)
      have HB11 := hid (hb11 _ _ HZV.out hB.out)
      have HZ11 := hid hz11
      have HV11 := hid hV11
      clear hMO hV11 hz11 hk11 hb11 hm11
      go_wp2
      rw [← HV11.out]
      refine bodyPost_ret (turned_result HZ11.out rfl rfl) rfl ?_
      exact ⟨_, _, _, _, by unfold memV; dsimp only; rw [List.length_replicate, List.length_replicate]; rfl, HM11.out, HB11.out⟩

theorem Live_any (n : Nat) (wa la : Option Addr) (wc lc : Nat) (V : World) (h1 : 1 ≤ n) (h4 : n ≤ 4096) (h : MemL V wa wc la lc ⟨List.replicate n 0, List.replicate n false, false⟩) :
    Calls Try.prog 60 #[memV wa wc la lc ⟨List.replicate n 0, List.replicate n false, false⟩, .int .i64 0, .int .i64 (n : Nat)] V (GivesE ⟨List.replicate n 0, List.replicate n true, false⟩ V) := by
  have htu := fun W (hb : Below V.heap.size V W) => turned_any n wa la wc lc W h1 h4 (h.grow hb)
  obtain ⟨V1, hV1, hb1, hs1, hl1⟩ := laid V #[.slice wa n wc, .slice la n lc, .bool false] 25
  obtain ⟨V2, hV2, hb2, hs2, hl2⟩ := laid V1 #[.slice none 0 0, .slice none 0 0, .bool false] 25
  obtain ⟨X, hX⟩ : ∃ X, V.heap.size = X := ⟨_, rfl⟩
  obtain ⟨Z, hZ⟩ : ∃ Z, V1.heap.size = Z := ⟨_, rfl⟩
  rw [hX] at hl1
  rw [hZ] at hl2
  obtain ⟨x0, x1, x2⟩ := cells3 (keep_laid hl1 hb2)
  have HZ := hid hl2
  have HB2 := hid (step hb1 hb2)
  have HZV : Hid (V.heap.size ≤ Z) := hid (by rw [← hZ]; exact hb1.size)
  unfold memV at htu ⊢
  simp only [List.length_replicate] at htu ⊢
  have HTU := hid htu
  clear h htu hs1 hs2 hb1 hb2 hl1 hl2
  go_enter Try.func60, Try.ntmps60
  go_wp2_with fail
  refine (HTU.out _ HB2.out).mono ?_
  rintro e V3 ⟨wa', wc', la', lc', rfl, hO, hb⟩
  have HZ3 := hid (keep_laid HZ.out hb)
  unfold memV
  simp only [List.length_replicate]
  obtain ⟨z0, z1, z2⟩ := cells3 HZ3.out
  have f0 := free_laid (i := 0) HZ3.out
  have f1 := free_laid (i := 1) HZ3.out
  have f2 := free_laid (i := 2) HZ3.out
  obtain ⟨V4, hV4, hz4, hk4, hb4, hm4⟩ := put_mem HZ3.out (.slice wa' n wc') (.slice la' n lc') (.bool false)
  have HM4 := hid ((hm4 _ _ _ _ _ _ hO).base (show V.heap.size ≤ V2.heap.size from HB2.out.size))
  have HB4 := hid (hb4 _ _ HZV.out (step HB2.out hb))
  have HZ4 := hid hz4
  have HV4 := hid hV4
  clear hO hb hV4 hz4 hk4 hb4 hm4
  go_wp2
  rw [← HV4.out]
  refine bodyPost_ret (live_result HZ4.out rfl rfl) rfl ?_
  exact ⟨_, _, _, _, by unfold memV; dsimp only; rw [List.length_replicate, List.length_replicate]; rfl, HM4.out, HB4.out⟩
end Go.Proofs.Ytdkkjcflcegeoaa
