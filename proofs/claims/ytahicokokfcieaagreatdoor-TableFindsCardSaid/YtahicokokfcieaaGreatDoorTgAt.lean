/- Several texts in one. -/
import Derived.Test.YtahicokokfcieaaGreatDoorTgAp
import Derived.Test.YtahicokokfcieaaGreatDoorTgAd
import Derived.Test.YtahicokokfcieaaGreatDoorTgAs
namespace Go.Proofs.YtahicokokfcieaaGreatDoor
open Go.RowKit
open Go.Proofs
set_option linter.unusedVariables false
attribute [local go_sem] Oper.semAt_some
def apartA (a : Option Addr) (E : Nat) : Prop := ∀ b off, a = some ⟨b, off, none⟩ → b ≠ E
def lowA (a : Option Addr) (B : Nat) : Prop := ∀ b off, a = some ⟨b, off, none⟩ → b < B
theorem stepM_L (M : Mem) (st : Bool) (a : Int) (new : Nat) : (stepM M st a new).1.L = M.L := by
  unfold stepM; split
  · split <;> rfl
  · rfl
theorem stepM_len (M : Mem) (st : Bool) (a : Int) (new : Nat) : (stepM M st a new).1.W.length = M.W.length := by
  unfold stepM; split
  · split
    · simp
    · rfl
  · rfl
def apB (a : Option Addr) (X G : Nat) : Prop := ∀ b off, a = some ⟨b, off, none⟩ → b < X ∨ G < b
theorem apB.apart {a : Option Addr} {X G E : Nat} (h : apB a X G) (h1 : X ≤ E) (h2 : E ≤ G) : apartA a E := fun b off e => by have := h b off e; omega
theorem apB.kept {a a' : Option Addr} {X G : Nat} {W : World} (h : apB a X G) (hk : keptA W a a') (hG : G < W.heap.size) : apB a' X G := by
  rcases hk with rfl | hk
  · exact h
  · exact fun b off e => .inr (Nat.lt_of_lt_of_le hG (hk b off e))
theorem keptA.mono {a a' : Option Addr} {V W : World} (h : keptA W a a') (hs : V.heap.size ≤ W.heap.size) : keptA V a a' := by
  rcases h with rfl | h
  · exact .inl rfl
  · exact .inr fun b off e => Nat.le_trans hs (h b off e)
theorem keptA.refl (V : World) (a : Option Addr) : keptA V a a := .inl rfl
theorem Leads.keepNe {W W' : World} {a : Option Addr} {n cap E : Nat} {cs : List Value} (h : Leads W a n cap cs) (ha : apartA a E) (hk : ∀ (k : Nat) (o : Obj), k ≠ E → W.heap[k]? = some o → W'.heap[k]? = some o) : Leads W' a n cap cs := by
  obtain ⟨h1, h2, ⟨h3, h4⟩ | ⟨b, off, h3, h4, h5⟩⟩ := h
  · exact ⟨h1, h2, .inl ⟨h3, h4⟩⟩
  · have hbE := ha b off h3
    have hb := hk b _ hbE (Array.getElem?_eq_getElem h4)
    refine ⟨h1, h2, .inr ⟨b, off, h3, lt_laid hb, fun i v hv => ?_⟩⟩
    have := h5 i v hv
    unfold World.cell? at this ⊢
    rw [hb, ← Array.getElem?_eq_getElem h4]
    exact this
theorem MemL.low {W : World} {wa la : Option Addr} {wc lc : Nat} {M : Mem} (h : MemL W wa wc la lc M) (hok : okM M = true) {X G : Nat} (hX : W.heap.size ≤ X) : apB wa X G ∧ apB la X G := by
  obtain ⟨h1, h2, h3, -⟩ := okM_spec hok
  constructor
  · rintro b off rfl
    obtain ⟨_, _, ⟨q, _⟩ | ⟨b', o', q, q2, _⟩⟩ := h.w
    · omega
    · cases q; exact .inl (by omega)
  · rintro b off rfl
    obtain ⟨_, _, ⟨q, _⟩ | ⟨b', o', q, q2, _⟩⟩ := h.l
    · omega
    · cases q; exact .inl (by omega)
/-- The variables of a document's step. -/
structure Sq (T : TypeId) (z : Array Value) (V : World) (X Y Z G : Nat) (wa : Option Addr) (wc : Nat) (la : Option Addr) (lc : Nat) (M : Mem) (cs : Array Value) (W : World) : Prop where
  bx : W.heap[X]? = some (.cells #[.slice wa M.W.length wc, .slice la M.L.length lc, .bool M.F] 25 (0, 0))
  by_ : W.heap[Y]? = some (.cells cs T (0, 0))
  bz : W.heap[Z]? = some (.cells #[.slice none 0 0, .slice none 0 0, .bool false] 25 (0, 0))
  bg : W.heap[G]? = some (.cells z T (0, 0))
  mem : MemL W wa wc la lc M
  aw : apB wa X G
  al : apB la X G
  below : Below V.heap.size V W
  ord : V.heap.size ≤ X ∧ X < Y ∧ Y < Z ∧ Z < G
section
variable {T : TypeId} {z cs cs' : Array Value} {V W W' : World} {X Y Z G : Nat} {wa la wa' la' : Option Addr} {wc lc wc' lc' : Nat} {M M' : Mem}
theorem Sq.grow (h : Sq T z V X Y Z G wa wc la lc M cs W) (hb : Below W.heap.size W W') : Sq T z V X Y Z G wa wc la lc M cs W' :=
  ⟨keep_laid h.bx hb, keep_laid h.by_ hb, keep_laid h.bz hb, keep_laid h.bg hb, h.mem.grow hb, h.aw, h.al, h.below.trans (hb.mono h.below.size), h.ord⟩
/-- Other variables, made later, are written. -/
theorem Sq.keep {B : Nat} (h : Sq T z V X Y Z G wa wc la lc M cs W) (hB : G < B) (hw : apartA wa B) (hl : apartA la B) (hk : ∀ (k : Nat) (o : Obj), k ≠ B → W.heap[k]? = some o → W'.heap[k]? = some o) (hb : Below V.heap.size V W') : Sq T z V X Y Z G wa wc la lc M cs W' := by
  obtain ⟨o1, o2, o3, o4⟩ := h.ord
  exact ⟨hk _ _ (by omega) h.bx, hk _ _ (by omega) h.by_, hk _ _ (by omega) h.bz, hk _ _ (by omega) h.bg, ⟨h.mem.w.keepNe hw hk, h.mem.l.keepNe hl hk⟩, h.aw, h.al, hb, h.ord⟩
end
/-- Worlds in which two variables lie so. -/
structure RYX (T : TypeId) (X Y : Nat) (csx csy : Array Value) where
  w : World
  bx : w.heap[X]? = some (.cells csx 25 (0, 0))
  by_ : w.heap[Y]? = some (.cells csy T (0, 0))
theorem ryx_y {T : TypeId} {X Y : Nat} {csx csy : Array Value} (_ : Nonempty (RYX T X Y csx csy)) (i : Nat) (v : Value) (h : csy[i]? = some v) : ∀ z : RYX T X Y csx csy, z.w.cell? ⟨Y, i, none⟩ = some v := fun z => cell_laid z.by_ h
theorem MemL.lowA {W : World} {wa la : Option Addr} {wc lc : Nat} {M : Mem} (h : MemL W wa wc la lc M) (hok : okM M = true) : lowA wa W.heap.size ∧ lowA la W.heap.size := by
  obtain ⟨h1, h2, h3, -⟩ := okM_spec hok
  constructor
  · rintro b off rfl
    obtain ⟨_, _, ⟨q, _⟩ | ⟨b', o', q, q2, _⟩⟩ := h.w
    · omega
    · cases q; exact q2
  · rintro b off rfl
    obtain ⟨_, _, ⟨q, _⟩ | ⟨b', o', q, q2, _⟩⟩ := h.l
    · omega
    · cases q; exact q2
theorem lowA.apart {a : Option Addr} {B E : Nat} (h : lowA a B) (hE : B ≤ E) : apartA a E := fun b off e => by have := h b off e; omega
end Go.Proofs.YtahicokokfcieaaGreatDoor
namespace Go.Proofs.YtahicokokfcieaaGreatDoor
open Go.RowKit
open Go.Proofs
set_option linter.unusedVariables false
attribute [local go_sem] Oper.semAt_some
theorem stepM_ok {M : Mem} (hok : okM M = true) (hW : ∀ x ∈ M.W, x < 18446744073709551616) : ∀ (st : Bool) (q new : Nat), new < 18446744073709551616 → okM (stepM M st ((q : Nat) : Int) new).1 = true ∧ (∀ x ∈ (stepM M st ((q : Nat) : Int) new).1.W, x < 18446744073709551616) ∧ (stepM M st ((q : Nat) : Int) new).2.1 < 18446744073709551616 ∧ (stepM M st ((q : Nat) : Int) new).1.W.length = M.W.length ∧ (stepM M st ((q : Nat) : Int) new).1.L = M.L := by
  intro st q new hnew
  obtain ⟨q1, q2, q3, q4⟩ := okM_spec hok
  unfold stepM
  rw [liveAt_eq]
  cases hl : liveN M q with
  | false =>
    rw [if_neg (by decide)]
    refine ⟨?_, hW, by show (0 : Nat) < _; decide, rfl, rfl⟩
    unfold okM at hok ⊢
    exact hok
  | true =>
    rw [if_pos rfl]
    have hd : M.W.getD q 0 < 18446744073709551616 := by
      rw [List.getD_eq_getElem?_getD]
      cases h : M.W[q]? with
      | none => simp
      | some x => exact hW x (List.mem_of_getElem? h)
    rw [Int.toNat_natCast]
    cases st with
    | false => exact ⟨hok, hW, hd, rfl, rfl⟩
    | true =>
      refine ⟨?_, ?_, hd, by simp, rfl⟩
      · rw [if_pos rfl]
        unfold okM
        simp only [List.length_set]
        rw [decide_eq_true q1, decide_eq_true q2, decide_eq_true q3]
        simp only [Bool.true_and]
        rw [List.all_eq_true]
        intro p hp
        obtain ⟨i, hi⟩ := List.mem_iff_getElem?.1 hp
        rw [List.getElem?_zip_eq_some] at hi
        obtain ⟨i1, i2⟩ := hi
        by_cases hiq : q = i
        · subst hiq
          unfold liveN at hl
          rw [i2] at hl
          have : p.2 = true := by simpa using hl
          unfold wordOk
          rw [this]; rfl
        · rw [List.getElem?_set_ne hiq] at i1
          have := List.all_eq_true.1 q4 p (List.mem_iff_getElem?.2 ⟨i, by rw [List.getElem?_zip_eq_some]; exact ⟨i1, i2⟩⟩)
          exact this
      · intro x hx
        rw [if_pos rfl] at hx
        rcases List.mem_or_eq_of_mem_set hx with h | h
        · exact hW x h
        · rw [h]; exact hnew
/-- Words are made zero, one behind the other. -/
def clearN : Nat → Mem → Nat → Mem
  | 0, M, _ => M
  | k + 1, M, p => clearN k (stepM M true ((p : Nat) : Int) 0).1 (p + 1)
def layM (M : Mem) (root array d : Nat) : Mem := clearN (2 ^ d) (stepM M true ((root : Nat) : Int) (wordW array d)).1 array
/-- What Lay gives. -/
def layT (M : Mem) (root array : Nat) (many : Int) : Mem × Nat :=
  if okM M = false then (zeroM, 120) else match depZ many with
    | none => (zeroM, 2)
    | some d => if array ≤ 4096 then (if ((tmeet M root 1 []).bind fun m => tmeet M array (2 ^ d) m).isNone = true then (zeroM, 2) else (layM M root array d, 0)) else (zeroM, 2)
def GivesLay (X : Mem × Nat) (V : World) (e : Ending) (W : World) : Prop := ∃ wa wc la lc, e = .returned (.tuple #[memV wa wc la lc X.1, .int .i64 ((X.2 : Nat) : Int)]) ∧ MemO V.heap.size wa wc la lc X.1 W ∧ Below V.heap.size V W
def LayA (M : Mem) (root array p mb : Nat) (W W' : World) : Prop := W.grownBy W' (some mb) ∧ ((tmeet M root 1 []).bind fun m => tmeet M array p m).isSome = true
def LayB (M : Mem) (root array p mb : Nat) (W W' : World) : Prop := W.grownBy W' (some mb) ∧ ((tmeet M root 1 []).bind fun m => tmeet M array p m) = none
structure Lyd (V V0 : World) (R A Z array p g k : Nat) (MF : Mem) (W : World) : Prop where
  run : ∃ M2, RunT V.heap.size R M2 0 W ∧ okM M2 = true ∧ (∀ x ∈ M2.W, x < 18446744073709551616) ∧ clearN g M2 (array + k) = MF
  tch : Tch (fun k => k = R) V0 W
  cnt : g + k = p
theorem tlay_result {W : World} {b8 : Nat} {v8_0 v8_1 v8_2 u9 : Value} {tmps : Array Value} (h8 : W.heap[b8]? = some (.cells #[v8_0, v8_1, v8_2] 25 (0, 0))) (q8 : tmps[8]?.getD undef = .pointer (some ⟨b8, 0, none⟩)) (q9 : tmps[9]?.getD undef = u9) :
    (results Tryz.f19 tmps).run Tryz.prog W = .ok (.tuple #[.agg #[v8_0, v8_1, v8_2], u9]) W := by
  have e8_0 := cell_laid (i := 0) (v := v8_0) h8 rfl
  have e8_1 := cell_laid (i := 1) (v := v8_1) h8 rfl
  have e8_2 := cell_laid (i := 2) (v := v8_2) h8 rfl
  simp [results, Tryz.results19, go_sem, e8_0, e8_1, e8_2, q8, q9]
set_option maxRecDepth 100000 in
set_option maxHeartbeats 8000000 in
theorem TLay_any (M : Mem) (root array : Nat) (many : Int) (wa la : Option Addr) (wc lc : Nat) (V : World) (h : MemL V wa wc la lc M) (hg : Glob V) (hW : ∀ x ∈ M.W, x < 18446744073709551616) (hr : root < 18446744073709551616) (ha : array < 18446744073709551616) (hmy : -9223372036854775808 ≤ many ∧ many ≤ 9223372036854775807) :
    Calls Tryz.prog 19 #[memV wa wc la lc M, .int .u64 ((root : Nat) : Int), .int .u64 ((array : Nat) : Int), .int .i64 many] V (GivesLay (layT M root array many) V) := by
  obtain ⟨V1, hV1, hbV1, hsV1, hlV1⟩ := laid V #[.slice wa M.W.length wc, .slice la M.L.length lc, .bool M.F] 25
  obtain ⟨V2, hV2, hbV2, hsV2, hlV2⟩ := laid V1 #[.int .u64 ((root : Nat) : Int)] 26
  obtain ⟨V3, hV3, hbV3, hsV3, hlV3⟩ := laid V2 #[.int .u64 ((array : Nat) : Int)] 26
  obtain ⟨V4, hV4, hbV4, hsV4, hlV4⟩ := laid V3 #[.int .i64 many] 3
  obtain ⟨V5, hV5, hbV5, hsV5, hlV5⟩ := laid V4 #[.slice none 0 0, .slice none 0 0, .bool false] 25
  obtain ⟨X, hX⟩ : ∃ X, V.heap.size = X := ⟨_, rfl⟩
  rw [hX] at hlV1
  obtain ⟨H, hH⟩ : ∃ X, V1.heap.size = X := ⟨_, rfl⟩
  rw [hH] at hlV2
  obtain ⟨A, hA⟩ : ∃ X, V2.heap.size = X := ⟨_, rfl⟩
  rw [hA] at hlV3
  obtain ⟨K, hK⟩ : ∃ X, V3.heap.size = X := ⟨_, rfl⟩
  rw [hK] at hlV4
  obtain ⟨Z, hZ⟩ : ∃ X, V4.heap.size = X := ⟨_, rfl⟩
  rw [hZ] at hlV5
  have KX := hid (keep_laid (keep_laid (keep_laid (keep_laid hlV1 hbV2) hbV3) hbV4) hbV5)
  have KH := hid (keep_laid (keep_laid (keep_laid hlV2 hbV3) hbV4) hbV5)
  have KA := hid (keep_laid (keep_laid hlV3 hbV4) hbV5)
  have KK := hid (keep_laid hlV4 hbV5)
  have KZ := hid hlV5
  have HB := hid (step (step (step (step hbV1 hbV2) hbV3) hbV4) hbV5)
  have hVX : V.heap.size ≤ X := by omega
  have hVH : V.heap.size ≤ H := by omega
  have nXH : X < H := by omega
  have hVA : V.heap.size ≤ A := by omega
  have nXA : X < A := by omega
  have nHA : H < A := by omega
  have hVK : V.heap.size ≤ K := by omega
  have nXK : X < K := by omega
  have nHK : H < K := by omega
  have nAK : A < K := by omega
  have hVZ : V.heap.size ≤ Z := by omega
  have nXZ : X < Z := by omega
  have nHZ : H < Z := by omega
  have nAZ : A < Z := by omega
  have nKZ : K < Z := by omega
  clear hbV1 hsV1 hlV1 hbV2 hsV2 hlV2 hbV3 hsV3 hlV3 hbV4 hsV4 hlV4 hbV5 hsV5 hlV5
  obtain ⟨XX, hXX⟩ : ∃ X, layT M root array many = X := ⟨_, rfl⟩
  rw [hXX]
  have HXX := hid hXX
  clear hXX
  have HM := hid (h.grow HB.out)
  have HG0 := hid hg
  have HM0 := hid h
  have HW := hid hW
  have HCK := hid (Check_any M wa la wc lc V5 HM.out)
  have hwl := h.w.len
  have hll := h.l.len
  have hV0 : 0 < V.heap.size := hg.one
  unfold memV at HCK ⊢
  have x0 := cell_laid (i := 0) KX.out rfl
  have x1 := cell_laid (i := 1) KX.out rfl
  have x2 := cell_laid (i := 2) KX.out rfl
  have hmf : ∀ (fn : Fn) (first cap : Array Value) (w : World), (Instr.makeFunc fn first cap).run Tryz.prog w = .ok (.func fn first cap) w := fun _ _ _ _ => rfl
  have hmm := @run_makeMap Tryz.prog
  clear h hg hW
  cases hok : okM M with
  | false =>
    rw [hok, if_neg (by decide)] at HCK
    have e : XX = (zeroM, 120) := by rw [← HXX.out]; unfold layT; rw [if_pos hok]
    subst e
    clear hok HXX
    go_enter Tryz.func19, Tryz.ntmps19
    go_wp2_with fail
    refine HCK.out.mono ?_
    rintro e w2 ⟨rfl, hb2⟩
    have KZ2 := hid (keep_laid KZ.out hb2)
    have HB2 := hid (step HB.out hb2)
    clear hb2 HCK hX hH hA hK hZ x0 x1 x2
    go_wp2_with (refine wp_storeP rfl 25 (.tmp 8) (.tmp 20) rfl Z 0 _ #[.slice none 0 0, .slice none 0 0, .bool false] _ rfl rfl _ KZ2.out (by kernel_rfl) (Nat.le_of_ble_eq_true rfl) (by kernel_rfl) rfl ?_; intro u1 a1 a2 a3 a4; have KZu := hid a1; have HBu := hid (a3 V.heap.size V (by omega) HB2.out); clear a1 a2 a3 a4)
    refine bodyPost_ret (tlay_result KZu.out rfl rfl) rfl ?_
    exact ⟨none, 0, none, 0, rfl, memO_zero _ _, HBu.out⟩
  | true =>
    rw [hok, if_pos rfl] at HCK
    obtain ⟨hn1, hn4, hmn, -⟩ := okM_spec hok
    have HMN := hid hmn
    have HOK := hid hok
    have HLAY : Hid (∀ d, depZ many = some d → layT M root array many = if array ≤ 4096 then (if ((tmeet M root 1 []).bind fun m => tmeet M array (2 ^ d) m).isNone = true then (zeroM, 2) else (layM M root array d, 0)) else (zeroM, 2)) := hid (fun d hd => by unfold layT; rw [if_neg (by rw [hok]; decide), hd])
    have HLN : Hid (depZ many = none → layT M root array many = (zeroM, 2)) := hid (fun hd => by unfold layT; rw [if_neg (by rw [hok]; decide), hd])
    clear hok hmn hn1 hn4
    go_enter Tryz.func19, Tryz.ntmps19
    go_wp2_with fail
    refine HCK.out.mono ?_
    rintro e w2 ⟨rfl, hb2⟩
    have KX2 := hid (keep_laid KX.out hb2)
    have KH2 := hid (keep_laid KH.out hb2)
    have KA2 := hid (keep_laid KA.out hb2)
    have KK2 := hid (keep_laid KK.out hb2)
    have KZ2 := hid (keep_laid KZ.out hb2)
    have HB2 := hid (step HB.out hb2)
    clear hb2 HCK hX hH hA hK hZ x0 x1 x2
    have yA : w2.cell? ⟨A, 0, none⟩ = some (.int .u64 ((array : Nat) : Int)) := cell_laid (i := 0) KA2.out rfl
    have yK : w2.cell? ⟨K, 0, none⟩ = some (.int .i64 many) := cell_laid (i := 0) KK2.out rfl
    go_wp2_with fail
    have HWD := hid (Word_any array many w2 (HG0.out.grow HB2.out) ha hmy)
    unfold wordV at HWD
    cases hd : depZ many with
    | none =>
      rw [hd] at HWD
      have e : XX = (zeroM, 2) := by rw [← HXX.out]; exact HLN.out hd
      subst e
      dsimp only at HWD
      clear hd HLAY HLN HXX
      refine HWD.out.mono ?_
      rintro e w3 ⟨rfl, hb3⟩
      have KZ3 := hid (keep_laid KZ2.out hb3)
      have HB3 := hid (step HB2.out hb3)
      clear hb3 HWD yA yK
      go_wp2_with (refine wp_storeP rfl 25 (.tmp 8) (.tmp 30) rfl Z 0 _ #[.slice none 0 0, .slice none 0 0, .bool false] _ rfl rfl _ KZ3.out (by kernel_rfl) (Nat.le_of_ble_eq_true rfl) (by kernel_rfl) rfl ?_; intro u1 a1 a2 a3 a4; have KZu := hid a1; have HBu := hid (a3 V.heap.size V (by omega) HB3.out); clear a1 a2 a3 a4)
      refine bodyPost_ret (tlay_result KZu.out rfl rfl) rfl ?_
      exact ⟨none, 0, none, 0, rfl, memO_zero _ _, HBu.out⟩
    | some d =>
      rw [hd] at HWD
      have e := HXX.out
      rw [HLAY.out d hd] at e
      obtain ⟨-, hd2, hd4, hmd⟩ := atZ_deps hd
      obtain ⟨hdep, hp4, hp16⟩ := pow_dep hd2 hd4
      obtain ⟨p, hp⟩ : ∃ p, 2 ^ d = p := ⟨_, rfl⟩
      dsimp only at HWD
      by_cases hal : array ≤ 4096
      case' neg =>
        rw [if_neg hal] at HWD e
        subst e
        clear hd HLAY HLN HXX hal
        refine HWD.out.mono ?_
        rintro e w3 ⟨rfl, hb3⟩
        have KZ3 := hid (keep_laid KZ2.out hb3)
        have HB3 := hid (step HB2.out hb3)
        clear hb3 HWD yA yK
        go_wp2_with (refine wp_storeP rfl 25 (.tmp 8) (.tmp 30) rfl Z 0 _ #[.slice none 0 0, .slice none 0 0, .bool false] _ rfl rfl _ KZ3.out (by kernel_rfl) (Nat.le_of_ble_eq_true rfl) (by kernel_rfl) rfl ?_; intro u1 a1 a2 a3 a4; have KZu := hid a1; have HBu := hid (a3 V.heap.size V (by omega) HB3.out); clear a1 a2 a3 a4)
        refine bodyPost_ret (tlay_result KZu.out rfl rfl) rfl ?_
        exact ⟨none, 0, none, 0, rfl, memO_zero _ _, HBu.out⟩
      rw [if_pos hal] at HWD e
      have HLM : Hid (layM M root array d = clearN p (stepM M true ((root : Nat) : Int) (wordW array d)).1 array) := hid (by unfold layM; rw [hp])
      rw [hp] at e hmd hdep hp4 hp16
      subst hmd
      obtain ⟨wd, hwd⟩ : ∃ x, wordW array d = x := ⟨_, rfl⟩
      have hwd64 : wd < 18446744073709551616 := by rw [← hwd]; unfold wordW; omega
      rw [hwd] at HLM HWD
      have HE := hid e
      clear hd HLAY HLN HXX e hwd hdep hp
      refine HWD.out.mono ?_
      rintro e w3 ⟨rfl, hb3⟩
      have KX3 := hid (keep_laid KX2.out hb3)
      have KH3 := hid (keep_laid KH2.out hb3)
      have KA3 := hid (keep_laid KA2.out hb3)
      have KK3 := hid (keep_laid KK2.out hb3)
      have KZ3 := hid (keep_laid KZ2.out hb3)
      have HB3 := hid (step HB2.out hb3)
      clear hb3 HWD yA yK
      obtain ⟨w4, hw4⟩ : ∃ x, w3.alloc (.map #[] 0) = x := ⟨_, rfl⟩
      have hb4 : Below w3.heap.size w3 w4 := by rw [← hw4]; exact (Below.refl _ _).alloc (Nat.le_refl _) _
      have hi4 : IdsI w4 w3.heap.size (ones []) := by rw [← hw4]; exact IdsI.made w3
      obtain ⟨mb, hmb⟩ : ∃ x, w3.heap.size = x := ⟨_, rfl⟩
      rw [hmb] at hi4
      have hs4 : w4.heap.size = w3.heap.size + 1 := by rw [← hw4]; simp
      obtain ⟨w5, hw5, hb5, hs5, hl5⟩ := laid w4 #[.map (some mb)] 77
      obtain ⟨T, hT⟩ : ∃ X, w4.heap.size = X := ⟨_, rfl⟩
      rw [hT] at hl5
      have hb35 := step hb4 hb5
      have KT5 := hid hl5
      have HI5 := hid (hi4.grow hb5)
      have hVm : V.heap.size ≤ mb := by have := HB3.out.size; omega
      have hmT : mb < T := by omega
      have hT5 : T < w5.heap.size := by omega
      have KX5 := hid (keep_laid KX3.out hb35)
      have KH5 := hid (keep_laid KH3.out hb35)
      have KA5 := hid (keep_laid KA3.out hb35)
      have KK5 := hid (keep_laid KK3.out hb35)
      have KZ5 := hid (keep_laid KZ3.out hb35)
      have HB5 := hid (step HB3.out hb35)
      clear hb4 hi4 hs4 hb5 hs5 hl5 hb35
      have HM5 := hid (HM0.out.grow HB5.out)
      have lX := lt_laid KX5.out
      have hmX : mb ≠ X := fun e => idsI_ne HI5.out KX5.out (congrArg some e)
      have hmH : mb ≠ H := fun e => idsI_ne HI5.out KH5.out (congrArg some e)
      have hmA : mb ≠ A := fun e => idsI_ne HI5.out KA5.out (congrArg some e)
      have hmK : mb ≠ K := fun e => idsI_ne HI5.out KK5.out (congrArg some e)
      have hmZ : mb ≠ Z := fun e => idsI_ne HI5.out KZ5.out (congrArg some e)
      have lH := lt_laid KH5.out
      have lA := lt_laid KA5.out
      have lK := lt_laid KK5.out
      have lZ := lt_laid KZ5.out
      go_wp2_with fail
      clear hmb hT
      refine (tries_any 51 #[.pointer (some ⟨T, 0, none⟩), .pointer (some ⟨X, 0, none⟩), .pointer (some ⟨H, 0, none⟩), .pointer (some ⟨A, 0, none⟩), .pointer (some ⟨K, 0, none⟩)] (LayA M root array p mb) (LayB M root array p mb) w5 (enters_of Tryz.func51 (by kernel_rfl) rfl)
        (fun W hb => (lay1_any T X H A K mb root array p M.W.length wa wc la lc M W rfl (by rw [HMN.out]) hr ha (by omega) hp16 (HM5.out.grow hb) (HI5.out.grow hb) (by have := keep_laid KX5.out hb; rw [HMN.out] at this; exact this) (keep_laid KH5.out hb) (keep_laid KA5.out hb) (keep_laid KK5.out hb) (keep_laid KT5.out hb)).mono (by
          rintro e W' (⟨h1, h2, h3⟩ | ⟨h1, h2, h3⟩)
          · exact .inl ⟨h1, h2, h3⟩
          · exact .inr ⟨h1, h2, h3⟩))
        (fun W W' Z' hb h1 h2 hAB => by
          have ht : W.grownBy W' (some mb) := hAB.elim (fun hA => hA.1) (fun hB => hB.1)
          exact ht.block Z' h2 (fun e => by have := Option.some.inj e; omega))).mono ?_
      rintro e W2 ⟨Z', W, W1, hbW, hz1, hz2, hgr, hAB⟩
      have hWg : W.grownBy W1 (some mb) := hAB.elim (fun hA => hA.2.1) (fun hB => hB.2.1)
      have HTg : Hid (Tch (fun k => k = mb ∨ k = Z') w5 W2) := hid (((Tch.of_below hbW).trans (tch_grown hWg)).trans ⟨hgr.os, hgr.tape, hgr.output, hgr.size, fun k hk hn => hgr.block k hk (fun e => hn (.inr (Option.some.inj e)))⟩)
      have HB6 : Hid (Below V.heap.size V W2) := hid (HB5.out.trans (HTg.out.below (by have := HB5.out.size; rintro k (e | e) <;> omega) HB5.out.size))
      have KX6 := hid (HTg.out.keep KX5.out (by rintro (e | e) <;> omega))
      have KH6 := hid (HTg.out.keep KH5.out (by rintro (e | e) <;> omega))
      have KA6 := hid (HTg.out.keep KA5.out (by rintro (e | e) <;> omega))
      have KK6 := hid (HTg.out.keep KK5.out (by rintro (e | e) <;> omega))
      have KZ6 := hid (HTg.out.keep KZ5.out (by rintro (e | e) <;> omega))
      clear hbW hgr hWg HTg hz1 hz2
      rcases hAB with ⟨rfl, -, hmt⟩ | ⟨rfl, -, hmt⟩
      case' inr =>
        have e := HE.out
        rw [if_pos (by rw [hmt]; rfl)] at e
        subst e
        clear hmt
        go_wp2_with (refine wp_storeP rfl 25 (.tmp 8) (.tmp 36) rfl Z 0 _ #[.slice none 0 0, .slice none 0 0, .bool false] _ rfl rfl _ KZ6.out (by kernel_rfl) (Nat.le_of_ble_eq_true rfl) (by kernel_rfl) rfl ?_; intro u1 a1 a2 a3 a4; have KZu := hid a1; have HBu := hid (a3 V.heap.size V (by omega) HB6.out); clear a1 a2 a3 a4)
        refine bodyPost_ret (tlay_result KZu.out rfl rfl) rfl ?_
        exact ⟨none, 0, none, 0, rfl, memO_zero _ _, HBu.out⟩
      have e := HE.out
      rw [if_neg (by intro e; cases hq : ((tmeet M root 1 []).bind fun m => tmeet M array p m) with | none => rw [hq] at hmt; cases hmt | some y => rw [hq] at e; cases e)] at e
      have hroot : root ≤ 4096 := by
        cases hq : tmeet M root 1 [] with
        | none => rw [hq] at hmt; cases hmt
        | some y => exact (tmeet_iff.1 hq).1
      obtain ⟨MF, hMF⟩ : ∃ x, layM M root array d = x := ⟨_, rfl⟩
      rw [hMF] at HLM e
      subst e
      clear hmt HE hMF
      have x0 := cell_laid (i := 0) KX6.out rfl
      have x1 := cell_laid (i := 1) KX6.out rfl
      have x2 := cell_laid (i := 2) KX6.out rfl
      go_wp2_with fail
      refine (town_any M wa la wc lc W2 (HM0.out.grow HB6.out) HOK.out).mono ?_
      rintro e w7 ⟨R, rfl, hR, hRT, hb7⟩
      have hRV : V.heap.size ≤ R := by have := HB6.out.size; omega
      have hRX : R ≠ X := by have := lt_laid KX6.out; omega
      have hRH : R ≠ H := by have := lt_laid KH6.out; omega
      have hRA : R ≠ A := by have := lt_laid KA6.out; omega
      have hRK : R ≠ K := by have := lt_laid KK6.out; omega
      have hRZ : R ≠ Z := by have := lt_laid KZ6.out; omega
      have HR7 := hid (hRT.base HB6.out.size)
      have KH7 := hid (keep_laid KH6.out hb7)
      have KA7 := hid (keep_laid KA6.out hb7)
      have KK7 := hid (keep_laid KK6.out hb7)
      have KZ7 := hid (keep_laid KZ6.out hb7)
      have HB7 := hid (step HB6.out hb7)
      clear hb7 hRT hR x0 x1 x2
      have yH : w7.cell? ⟨H, 0, none⟩ = some (.int .u64 ((root : Nat) : Int)) := cell_laid (i := 0) KH7.out rfl
      go_wp2_with fail
      have hst := stepM_ok HOK.out HW.out true root wd hwd64
      refine (tstore_any V.heap.size R root wd M 0 w7 HR7.out HB7.out.size HOK.out (by omega)).mono ?_
      rintro e w8 ⟨rfl, hrt, htl⟩
      have HR8 := hid hrt
      have KA8 := hid (htl.keep KA7.out (by omega))
      have KK8 := hid (htl.keep KK7.out (by omega))
      have KZ8 := hid (htl.keep KZ7.out (by omega))
      have HB8 : Hid (Below V.heap.size V w8) := hid (HB7.out.trans (htl.below (by intro k e; omega) HB7.out.size))
      have HST := hid hst
      clear hrt htl yH hst
      have yK : w8.cell? ⟨K, 0, none⟩ = some (.int .i64 ((p : Nat) : Int)) := cell_laid (i := 0) KK8.out rfl
      have hsc : IntKind.u64.wrap ((p : Nat) : Int) = ((p : Nat) : Int) := by rw [IntKind.wrap_u64]; omega
      go_wp2
      have HF : Hid (Lyd V w8 R A Z array p p 0 MF w8) := hid ⟨⟨_, HR8.out, HST.out.1, HST.out.2.1, HLM.out.symm⟩, Tch.refl _ _, by omega⟩
      clear HR8 HST HLM
      go_loopg [15, 45] p (fun g t15 i wr => ∃ k : Nat, i = .int .u64 ((k : Nat) : Int) ∧ Hid (Lyd V w8 R A Z array p g k MF wr))
      case atStart => exact ⟨0, rfl, HF⟩
      case round =>
        clear HF
        obtain ⟨k, rfl, hF⟩ := hrel
        have HKA := hid (hF.out.tch.keep KA8.out (by omega))
        have HKZ := hid (hF.out.tch.keep KZ8.out (by omega))
        have HBW : Hid (Below V.heap.size V wr) := hid (HB8.out.trans (hF.out.tch.below (by intro k e; omega) HB8.out.size))
        have yA : wr.cell? ⟨A, 0, none⟩ = some (.int .u64 ((array : Nat) : Int)) := cell_laid (i := 0) HKA.out rfl
        obtain ⟨M2, hr2, hok2, hw2, hcl⟩ := hF.out.run
        have hcnt := hF.out.cnt
        have HT8 := hid hF.out.tch
        by_cases hlt : k < p
        · have t1 : decide (((k : Nat) : Int) < ((p : Nat) : Int)) = true := decide_eq_true (by omega)
          have t1' : ((k : Nat) : Int) < ((p : Nat) : Int) := by omega
          obtain ⟨g1, hg1⟩ : ∃ g1, gk = g1 + 1 := ⟨gk - 1, by omega⟩
          obtain ⟨s, hs⟩ : ∃ x, array + k = x := ⟨_, rfl⟩
          have hsi : IntKind.u64.wrap (((array : Nat) : Int) + ((k : Nat) : Int)) = ((s : Nat) : Int) := by rw [IntKind.wrap_u64]; omega
          have hs5 : s ≤ 5000 := by omega
          rw [hg1, hs] at hcl
          unfold clearN at hcl
          have HCL : Hid (clearN g1 (stepM M2 true ((s : Nat) : Int) 0).1 (array + (k + 1)) = MF) := hid (by rw [show array + (k + 1) = s + 1 by omega]; exact hcl)
          have HG1 := hid hg1
          have HCN := hid hcnt
          have HST2 := hid (stepM_ok hok2 hw2 true s 0 (by decide))
          have HTS := hid (tstore_any V.heap.size R s 0 M2 0 wr hr2 HBW.out.size hok2 (by omega))
          clear hF hr2 hok2 hw2 hcl hcnt hg1 hs hlt
          go_wp2_with fail
          refine HTS.out.mono ?_
          rintro e w9 ⟨rfl, hrt, htl⟩
          have HF2 : Hid (Lyd V w8 R A Z array p g1 (k + 1) MF w9) := hid ⟨⟨_, hrt, HST2.out.1, HST2.out.2.1, HCL.out⟩, HT8.out.trans htl, by have := HCN.out; have := HG1.out; omega⟩
          clear hrt htl HTS yA
          go_wp2
          go_roundg g1
          case measure => have := HG1.out; omega
          case rel => exact ⟨k + 1, by go_num, HF2⟩
        · have t1 : decide (((k : Nat) : Int) < ((p : Nat) : Int)) = false := decide_eq_false (by omega)
          have t1' : ¬ ((k : Nat) : Int) < ((p : Nat) : Int) := by omega
          have hg0 : gk = 0 := by omega
          rw [hg0] at hcl
          have hcl : M2 = MF := hcl
          subst hcl
          obtain ⟨wa', wc', la', lc', kR, oR⟩ := hr2
          have KR := hid kR
          have HO := hid oR
          have hwl' := HO.out.memL.w.len
          have hll' := HO.out.memL.l.len
          have r0 := cell_laid (i := 0) KR.out rfl
          have r1 := cell_laid (i := 1) KR.out rfl
          have r2 := cell_laid (i := 2) KR.out rfl
          clear hF hok2 hw2 hcnt hg0 kR oR hlt yA
          go_wp2_with (refine wp_storeP rfl 25 (.tmp 8) (.tmp 57) rfl Z 0 _ #[.slice wa' M2.W.length wc', .slice la' M2.L.length lc', .bool M2.F] _ rfl rfl _ HKZ.out (by kernel_rfl) (Nat.le_of_ble_eq_true rfl) (by kernel_rfl) rfl ?_; intro u1 a1 a2 a3 a4; have KZu := hid a1; have HBu := hid (a3 V.heap.size V (by omega) HBW.out); have HOu : Hid (MemO V.heap.size wa' wc' la' lc' M2 u1) := hid ⟨own_keep HO.out.w fun j o hj ho => a2 j o (fun e => own_neP HO.out.w HKZ.out (by decide) (by rw [← e]; exact hj)) ho, own_keep HO.out.l fun j o hj ho => a2 j o (fun e => own_neP HO.out.l HKZ.out (by decide) (by rw [← e]; exact hj)) ho⟩; clear a1 a2 a3 a4)
          refine bodyPost_ret (tlay_result KZu.out rfl rfl) rfl ?_
          exact ⟨wa', wc', la', lc', rfl, HOu.out, HBu.out⟩
end Go.Proofs.YtahicokokfcieaaGreatDoor
