/- The document's lists linked both ways: a step (printed by gen_dblref6.py). -/
import Derived.Test.YtoihjmdpbbcbjaaDblRef5
namespace Go.Proofs.Ytoihjmdpbbcbjaa
open Go.RowKit
open Go.Proofs
set_option linter.unusedVariables false
attribute [local go_sem] Oper.semAt_some

abbrev ed8 (s : Ed) : Array Value := #[.int .i64 s.ph, .bool s.cuts, .int .u64 ((s.head : Nat) : Int), .int .u64 ((s.pl : Nat) : Int), .int .u64 ((s.key : Nat) : Int), .int .u64 ((s.val : Nat) : Int), .int .u64 ((s.prev : Nat) : Int), .int .u64 ((s.next : Nat) : Int)]
abbrev zero8 : Array Value := #[.int .i64 0, .bool false, .int .u64 0, .int .u64 0, .int .u64 0, .int .u64 0, .int .u64 0, .int .u64 0]
def apB (a : Option Addr) (X G : Nat) : Prop := ∀ b off, a = some ⟨b, off, none⟩ → b < X ∨ G < b
/-- The variables of the document's step. -/
structure Sx (V : World) (X Y Z G : Nat) (wa : Option Addr) (wc : Nat) (la : Option Addr) (lc : Nat) (M : Mem) (s : Ed) (W : World) : Prop where
  bx : W.heap[X]? = some (.cells #[.slice wa M.W.length wc, .slice la M.L.length lc, .bool M.F] 25 (0, 0))
  by_ : W.heap[Y]? = some (.cells (ed8 s) 42 (0, 0))
  bz : W.heap[Z]? = some (.cells #[.slice none 0 0, .slice none 0 0, .bool false] 25 (0, 0))
  bg : W.heap[G]? = some (.cells zero8 42 (0, 0))
  mem : MemL W wa wc la lc M
  aw : apB wa X G
  al : apB la X G
  below : Below V.heap.size V W
  ord : V.heap.size ≤ X ∧ X < Y ∧ Y < Z ∧ Z < G
section
variable {V W W' : World} {X Y Z G : Nat} {wa la wa' la' : Option Addr} {wc lc wc' lc' : Nat} {M M' : Mem} {s : Ed}
theorem Sx.grow (h : Sx V X Y Z G wa wc la lc M s W) (hb : Below W.heap.size W W') : Sx V X Y Z G wa wc la lc M s W' :=
  ⟨keep_laid h.bx hb, keep_laid h.by_ hb, keep_laid h.bz hb, keep_laid h.bg hb, h.mem.grow hb, h.aw, h.al, h.below.trans (hb.mono h.below.size), h.ord⟩
theorem apB.apart {a : Option Addr} {E : Nat} (h : apB a X G) (h1 : X ≤ E) (h2 : E ≤ G) : apartA a E := fun b off e => by have := h b off e; omega
theorem apB.kept {a a' : Option Addr} (h : apB a X G) (hk : keptA W a a') (hG : G < W.heap.size) : apB a' X G := by
  rcases hk with rfl | hk
  · exact h
  · exact fun b off e => .inr (Nat.lt_of_lt_of_le hG (hk b off e))
theorem Leads.setNe {a : Option Addr} {n cap E i : Nat} {cs : List Value} {v : Value} (h : Leads W a n cap cs) (ha : apartA a E) : Leads (W.setCell ⟨E, i, none⟩ v) a n cap cs := h.grownNe ha (grownBy_put v)
/-- Another memory is put in. -/
theorem Sx.putX (h : Sx V X Y Z G wa wc la lc M s W) (hm : MemL W wa' wc' la' lc' M') (hw : apB wa' X G) (hl : apB la' X G) :
    ∃ W', W' = ((W.setCell ⟨X, 0, none⟩ (.slice wa' M'.W.length wc')).setCell ⟨X, 1, none⟩ (.slice la' M'.L.length lc')).setCell ⟨X, 2, none⟩ (.bool M'.F) ∧ Sx V X Y Z G wa' wc' la' lc' M' s W' ∧ (∀ (k : Nat) (o : Obj), k ≠ X → W.heap[k]? = some o → W'.heap[k]? = some o) ∧ ∀ (B : Nat) (w : World), B ≤ X → Below B w W → Below B w W' := by
  obtain ⟨W', hW', h1, h2, h3, -⟩ := put_mem h.bx (.slice wa' M'.W.length wc') (.slice la' M'.L.length lc') (.bool M'.F)
  obtain ⟨o1, o2, o3, o4⟩ := h.ord
  refine ⟨W', hW', ⟨h1, h2 _ _ (by omega) h.by_, h2 _ _ (by omega) h.bz, h2 _ _ (by omega) h.bg, ?_, hw, hl, h3 _ _ o1 h.below, h.ord⟩, h2, h3⟩
  rw [hW']
  exact ⟨((hm.w.setNe (hw.apart (Nat.le_refl _) (by omega))).setNe (hw.apart (Nat.le_refl _) (by omega))).setNe (hw.apart (Nat.le_refl _) (by omega)), ((hm.l.setNe (hl.apart (Nat.le_refl _) (by omega))).setNe (hl.apart (Nat.le_refl _) (by omega))).setNe (hl.apart (Nat.le_refl _) (by omega))⟩
theorem Sx.setY {i : Nat} {v : Value} {s' : Ed} (h : Sx V X Y Z G wa wc la lc M s W) (hs : (ed8 s).setIfInBounds i v = ed8 s') : Sx V X Y Z G wa wc la lc M s' (W.setCell ⟨Y, i, none⟩ v) := by
  obtain ⟨o1, o2, o3, o4⟩ := h.ord
  refine ⟨other_laid h.bx (by omega) _, ?_, other_laid h.bz (by omega) _, other_laid h.bg (by omega) _, ⟨h.mem.w.setNe (h.aw.apart (by omega) (by omega)), h.mem.l.setNe (h.al.apart (by omega) (by omega))⟩, h.aw, h.al, h.below.setCell (p := ⟨Y, i, none⟩) (by show V.heap.size ≤ Y; omega) _, h.ord⟩
  have := set_laid (i := i) h.by_ v
  rw [hs] at this
  exact this
end
theorem rstep_result {W : World} {b c : Nat} {v0 v1 v2 u0 u1 u2 u3 u4 u5 u6 u7 : Value} {tmps : Array Value} (h : W.heap[b]? = some (.cells #[v0, v1, v2] 25 (0, 0))) (h' : W.heap[c]? = some (.cells #[u0, u1, u2, u3, u4, u5, u6, u7] 42 (0, 0))) (hp : tmps[4]?.getD undef = .pointer (some ⟨b, 0, none⟩)) (hq : tmps[5]?.getD undef = .pointer (some ⟨c, 0, none⟩)) :
    (results Try.f23 tmps).run Try.prog W = .ok (.tuple #[.agg #[v0, v1, v2], .agg #[u0, u1, u2, u3, u4, u5, u6, u7]]) W := by
  have h0 := cell_laid (i := 0) (v := v0) h rfl
  have h1 := cell_laid (i := 1) (v := v1) h rfl
  have h2 := cell_laid (i := 2) (v := v2) h rfl
  have g0 := cell_laid (i := 0) (v := u0) h' rfl
  have g1 := cell_laid (i := 1) (v := u1) h' rfl
  have g2 := cell_laid (i := 2) (v := u2) h' rfl
  have g3 := cell_laid (i := 3) (v := u3) h' rfl
  have g4 := cell_laid (i := 4) (v := u4) h' rfl
  have g5 := cell_laid (i := 5) (v := u5) h' rfl
  have g6 := cell_laid (i := 6) (v := u6) h' rfl
  have g7 := cell_laid (i := 7) (v := u7) h' rfl
  simp [results, Try.results23, go_sem, hp, hq, h0, h1, h2, g0, g1, g2, g3, g4, g5, g6, g7]
/-- A call gives a memory that lies there, and who changes. -/
def GivesRS (wa0 la0 : Option Addr) (R : Mem × Ed) (w : World) (e : Ending) (W : World) : Prop := ∃ wa wc la lc, e = .returned (.tuple #[memV wa wc la lc R.1, edV R.2]) ∧ MemL W wa wc la lc R.1 ∧ Below w.heap.size w W ∧ keptA w wa0 wa ∧ keptA w la0 la
theorem accR_eq {M : Mem} (s : Ed) (k : Nat) (hok : okM M = true) : stepM M (accS k) ((accRA s k : Nat) : Int) (accW s k) = accR M s k := by
  have hl : M.L.length ≤ 4096 := by have := okM_spec hok; omega
  unfold accR
  have hf : ∀ st w, stepM M st ((fromR s : Nat) : Int) w = stepM M st ((fromN s : Nat) : Int) w := fun st w => by
    unfold fromR fromN; split <;> exact stepM_pos hl _ _ _ _
  have hb : ∀ st w, stepM M st ((backR s : Nat) : Int) w = stepM M st ((backN s : Nat) : Int) w := fun st w => by
    unfold backR backN; split <;> exact stepM_pos hl _ _ _ _
  match k with
  | 0 => exact stepM_pos hl _ _ _ _
  | 1 => exact stepM_pos hl _ _ _ _
  | 2 => exact hf _ _
  | 3 => exact stepM_pos hl _ _ _ _
  | 4 => exact stepM_pos hl _ _ _ _
  | 5 => exact stepM_pos hl _ _ _ _
  | 6 => exact stepM_pos hl _ _ _ _
  | 7 => exact hf _ _
  | _ + 8 => exact hb _ _
theorem accRA_le (s : Ed) (k : Nat) : accRA s k ≤ 5000 := by
  have hp : ∀ p j, j ≤ 3 → posR p j ≤ 5000 := fun p j hj => by have := posR_le p j; omega
  have hf : fromR s ≤ 5000 := by unfold fromR; split <;> exact hp _ _ (by decide)
  have hb : backR s ≤ 5000 := by unfold backR; split <;> exact hp _ _ (by decide)
  match k with
  | 0 => exact hp _ _ (by decide)
  | 1 => exact hp _ _ (by decide)
  | 2 => exact hf
  | 3 => exact hp _ _ (by decide)
  | 4 => exact hp _ _ (by decide)
  | 5 => exact hp _ _ (by decide)
  | 6 => exact hp _ _ (by decide)
  | 7 => exact hf
  | _ + 8 => exact hb
theorem keptA.apart {W : World} {a a' : Option Addr} {B q : Nat} (hk : keptA W a a') (hl : lowA a B) (hB : B ≤ q) (hq : q < W.heap.size) : apartA a' q := by
  rintro b off e rfl
  rcases hk with rfl | hk
  · have := hl b off e; omega
  · have := hk b off e; omega
theorem MemL.beyond {W : World} {wa la : Option Addr} {wc lc : Nat} {M : Mem} (h : MemL W wa wc la lc M) (h1 : 1 ≤ M.W.length) (h2 : 1 ≤ M.L.length) : apartA wa W.heap.size ∧ apartA la W.heap.size := by
  constructor
  · rintro b off rfl rfl
    obtain ⟨_, _, ⟨q, _⟩ | ⟨b', o', q, q2, _⟩⟩ := h.w
    · omega
    · cases q; omega
  · rintro b off rfl rfl
    obtain ⟨_, _, ⟨q, _⟩ | ⟨b', o', q, q2, _⟩⟩ := h.l
    · omega
    · cases q; omega
/-- What the last statement reads. -/
structure RXY (X Y : Nat) (cs cs' : Array Value) where
  w : World
  bx : w.heap[X]? = some (.cells cs 25 (0, 0))
  by_ : w.heap[Y]? = some (.cells cs' 42 (0, 0))
theorem nextArr_at0 (W : World) : (Instr.index 97 (.agg #[.int .i64 1, .int .i64 2, .int .i64 3, .int .i64 4, .int .i64 7, .int .i64 6, .int .i64 7, .int .i64 8, .int .i64 9]) (.int .i64 0)).run Try.prog W = .ok (.int .i64 1) W := by kernel_rfl
theorem nextArr_at1 (W : World) : (Instr.index 97 (.agg #[.int .i64 1, .int .i64 2, .int .i64 3, .int .i64 4, .int .i64 7, .int .i64 6, .int .i64 7, .int .i64 8, .int .i64 9]) (.int .i64 1)).run Try.prog W = .ok (.int .i64 2) W := by kernel_rfl
theorem nextArr_at2 (W : World) : (Instr.index 97 (.agg #[.int .i64 1, .int .i64 2, .int .i64 3, .int .i64 4, .int .i64 7, .int .i64 6, .int .i64 7, .int .i64 8, .int .i64 9]) (.int .i64 2)).run Try.prog W = .ok (.int .i64 3) W := by kernel_rfl
theorem nextArr_at3 (W : World) : (Instr.index 97 (.agg #[.int .i64 1, .int .i64 2, .int .i64 3, .int .i64 4, .int .i64 7, .int .i64 6, .int .i64 7, .int .i64 8, .int .i64 9]) (.int .i64 3)).run Try.prog W = .ok (.int .i64 4) W := by kernel_rfl
theorem nextArr_at4 (W : World) : (Instr.index 97 (.agg #[.int .i64 1, .int .i64 2, .int .i64 3, .int .i64 4, .int .i64 7, .int .i64 6, .int .i64 7, .int .i64 8, .int .i64 9]) (.int .i64 4)).run Try.prog W = .ok (.int .i64 7) W := by kernel_rfl
theorem nextArr_at5 (W : World) : (Instr.index 97 (.agg #[.int .i64 1, .int .i64 2, .int .i64 3, .int .i64 4, .int .i64 7, .int .i64 6, .int .i64 7, .int .i64 8, .int .i64 9]) (.int .i64 5)).run Try.prog W = .ok (.int .i64 6) W := by kernel_rfl
theorem nextArr_at6 (W : World) : (Instr.index 97 (.agg #[.int .i64 1, .int .i64 2, .int .i64 3, .int .i64 4, .int .i64 7, .int .i64 6, .int .i64 7, .int .i64 8, .int .i64 9]) (.int .i64 6)).run Try.prog W = .ok (.int .i64 7) W := by kernel_rfl
theorem nextArr_at7 (W : World) : (Instr.index 97 (.agg #[.int .i64 1, .int .i64 2, .int .i64 3, .int .i64 4, .int .i64 7, .int .i64 6, .int .i64 7, .int .i64 8, .int .i64 9]) (.int .i64 7)).run Try.prog W = .ok (.int .i64 8) W := by kernel_rfl
theorem nextArr_at8 (W : World) : (Instr.index 97 (.agg #[.int .i64 1, .int .i64 2, .int .i64 3, .int .i64 4, .int .i64 7, .int .i64 6, .int .i64 7, .int .i64 8, .int .i64 9]) (.int .i64 8)).run Try.prog W = .ok (.int .i64 9) W := by kernel_rfl
theorem nextArr_at (k : Nat) (hk : k < 9) (W : World) : (Instr.index 97 (.agg #[.int .i64 1, .int .i64 2, .int .i64 3, .int .i64 4, .int .i64 7, .int .i64 6, .int .i64 7, .int .i64 8, .int .i64 9]) (.int .i64 ((k : Nat) : Int))).run Try.prog W = .ok (.int .i64 (nextPh k true)) W := by
  match k, hk with
  | 0, _ => exact nextArr_at0 W
  | 1, _ => exact nextArr_at1 W
  | 2, _ => exact nextArr_at2 W
  | 3, _ => exact nextArr_at3 W
  | 4, _ => exact nextArr_at4 W
  | 5, _ => exact nextArr_at5 W
  | 6, _ => exact nextArr_at6 W
  | 7, _ => exact nextArr_at7 W
  | 8, _ => exact nextArr_at8 W

set_option maxRecDepth 100000 in
set_option maxHeartbeats 16000000 in
theorem rStep_any (M : Mem) (s : Ed) (wa la : Option Addr) (wc lc : Nat) (V : World) (h : MemL V wa wc la lc M) (hok : okM M = true) (hs : s.Ok) (hp : 0 ≤ s.ph) :
    Calls Try.prog 23 #[memV wa wc la lc M, edV s] V (GivesRS wa la (stepE M s) V) := by
  obtain ⟨hn1, hn4, hmn, -⟩ := okM_spec hok
  obtain ⟨V1, hV1, hb1, hs1, hl1⟩ := laid V #[.slice wa M.W.length wc, .slice la M.L.length lc, .bool M.F] 25
  obtain ⟨V2, hV2, hb2, hs2, hl2⟩ := laid V1 (ed8 s) 42
  obtain ⟨V3, hV3, hb3, hs3, hl3⟩ := laid V2 #[.slice none 0 0, .slice none 0 0, .bool false] 25
  obtain ⟨V4, hV4, hb4, hs4, hl4⟩ := laid V3 zero8 42
  obtain ⟨X, hX⟩ : ∃ X, V.heap.size = X := ⟨_, rfl⟩
  obtain ⟨Y, hY⟩ : ∃ X, V1.heap.size = X := ⟨_, rfl⟩
  obtain ⟨Z, hZ⟩ : ∃ X, V2.heap.size = X := ⟨_, rfl⟩
  obtain ⟨G, hG⟩ : ∃ X, V3.heap.size = X := ⟨_, rfl⟩
  rw [hX] at hl1
  rw [hY] at hl2
  rw [hZ] at hl3
  rw [hG] at hl4
  have hlow : apB wa X G ∧ apB la X G := by
    constructor
    · rintro b off rfl
      obtain ⟨_, _, ⟨q, _⟩ | ⟨b', o', q, q2, _⟩⟩ := h.w
      · omega
      · cases q; omega
    · rintro b off rfl
      obtain ⟨_, _, ⟨q, _⟩ | ⟨b', o', q, q2, _⟩⟩ := h.l
      · omega
      · cases q; omega
  have HLOW : Hid (lowA wa V.heap.size ∧ lowA la V.heap.size) := hid (by
    constructor
    · rintro b off rfl
      obtain ⟨_, _, ⟨q, _⟩ | ⟨b', o', q, q2, _⟩⟩ := h.w
      · omega
      · cases q; exact q2
    · rintro b off rfl
      obtain ⟨_, _, ⟨q, _⟩ | ⟨b', o', q, q2, _⟩⟩ := h.l
      · omega
      · cases q; exact q2)
  have HB4 := step (step (step hb1 hb2) hb3) hb4
  have HS4 : Hid (Sx V X Y Z G wa wc la lc M s V4) := hid ⟨keep_laid (keep_laid (keep_laid hl1 hb2) hb3) hb4, keep_laid (keep_laid hl2 hb3) hb4, keep_laid hl3 hb4, hl4, h.grow HB4, hlow.1, hlow.2, HB4, by omega, by omega, by omega, by omega⟩
  have HACC := hid (fun (h9 : s.ph < 9) V => raccess_any s V hs ⟨hp, h9⟩)
  have hwl := h.w.len
  have hll := h.l.len
  have HEQ := hid (fun k => accR_eq s k hok)
  have HOK := hid hok
  obtain ⟨ph, cuts, head, pl, key, val, prev, next⟩ := s
  obtain ⟨k, rfl⟩ : ∃ k : Nat, ph = ((k : Nat) : Int) := ⟨ph.toNat, by have : (0 : Int) ≤ ph := hp; omega⟩
  unfold edV at HACC ⊢
  unfold ed8 at hV2
  dsimp only at hV2 HACC ⊢
  unfold memV
  obtain ⟨y0, y1, y2, y3, y4, y5, y6, y7⟩ : _ ∧ _ ∧ _ ∧ _ ∧ _ ∧ _ ∧ _ ∧ _ := ⟨cell_laid (i := 0) HS4.out.by_ rfl, cell_laid (i := 1) HS4.out.by_ rfl, cell_laid (i := 2) HS4.out.by_ rfl, cell_laid (i := 3) HS4.out.by_ rfl, cell_laid (i := 4) HS4.out.by_ rfl, cell_laid (i := 5) HS4.out.by_ rfl, cell_laid (i := 6) HS4.out.by_ rfl, cell_laid (i := 7) HS4.out.by_ rfl⟩
  have hph64 := hs.ph.2
  dsimp only at hph64
  clear y1 y2 y3 y4 y5 y6 y7 h hb1 hb2 hb3 hb4 hs1 hs2 hs3 hs4 hl1 hl2 hl3 hl4 hlow HB4 hok hp hn1 hn4 hmn hs
  go_enter Try.func23, Try.ntmps23
  by_cases h9 : 9 ≤ k
  · have t0 : decide ((9 : Int) ≤ ((k : Nat) : Int)) = true := decide_eq_true (by omega)
    obtain ⟨wa2, ewa⟩ : ∃ x, wa = x := ⟨_, rfl⟩
    have HR : Hid (stepE M ⟨((k : Nat) : Int), cuts, head, pl, key, val, prev, next⟩ = (M, ⟨((k : Nat) : Int), cuts, head, pl, key, val, prev, next⟩)) := hid (by unfold stepE; rw [if_pos (by dsimp only; omega)])
    have HKA : Hid (keptA V wa wa ∧ keptA V la la) := hid ⟨.inl rfl, .inl rfl⟩
    clear h9 ewa wa2
    go_upto_region 2 with (fail)
    obtain ⟨D9, hD9⟩ : ∃ DX, (V4).drew = DX := ⟨_, rfl⟩
    have HS9 := hid (HS4.out.grow (Below.refl _ _).drew)
    rw [hD9] at HS9
    have HD9 := hid hD9
    clear hD9
    obtain ⟨V6, V7, hV6, hV7, a1, a2, a3, a4, k6, k7, a5, -⟩ := put_me HS9.out.bz HS9.out.bg (by have := HS9.out.ord; omega) (.slice wa M.W.length wc) (.slice la M.L.length lc) (.bool M.F) (.int .i64 ((k : Nat) : Int)) (.bool cuts) (.int .u64 ((head : Nat) : Int)) (.int .u64 ((pl : Nat) : Int)) (.int .u64 ((key : Nat) : Int)) (.int .u64 ((val : Nat) : Int)) (.int .u64 ((prev : Nat) : Int)) (.int .u64 ((next : Nat) : Int))
    have A3 := hid a3
    have A4 := hid a4
    have HG6 := hid a2
    have HB7 := hid (a5 V.heap.size V (by have := HS9.out.ord; omega) (by have := HS9.out.ord; omega) HS9.out.below)
    have HX6 := hid (k6 X _ (by have := HS9.out.ord; omega) HS9.out.bx)
    have HY6 := hid (k6 Y _ (by have := HS9.out.ord; omega) HS9.out.by_)
    have HX7 := hid (k7 X _ (by have := HS9.out.ord; omega) (by have := HS9.out.ord; omega) HS9.out.bx)
    have HY7 := hid (k7 Y _ (by have := HS9.out.ord; omega) (by have := HS9.out.ord; omega) HS9.out.by_)
    have HM7 : Hid (MemL V7 wa wc la lc M) := hid (by
      have hz : apartA wa Z ∧ apartA la Z ∧ apartA wa G ∧ apartA la G := by have := HS9.out.ord; exact ⟨HS9.out.aw.apart (by omega) (by omega), HS9.out.al.apart (by omega) (by omega), HS9.out.aw.apart (by omega) (by omega), HS9.out.al.apart (by omega) (by omega)⟩
      obtain ⟨z1, z2, z3, z4⟩ := hz
      rw [hV7, hV6]
      have hw := ((HS9.out.mem.w.setNe z1 (i := 0) (v := .slice wa M.W.length wc)).setNe z1 (i := 1) (v := .slice la M.L.length lc)).setNe z1 (i := 2) (v := .bool M.F)
      have hl := ((HS9.out.mem.l.setNe z2 (i := 0) (v := .slice wa M.W.length wc)).setNe z2 (i := 1) (v := .slice la M.L.length lc)).setNe z2 (i := 2) (v := .bool M.F)
      exact ⟨(((((((hw.setNe z3).setNe z3).setNe z3).setNe z3).setNe z3).setNe z3).setNe z3).setNe z3, (((((((hl.setNe z4).setNe z4).setNe z4).setNe z4).setNe z4).setNe z4).setNe z4).setNe z4⟩)
    have HV6 := hid hV6
    have HV7 := hid hV7
    have hZG : Z ≠ G := by have := HS9.out.ord; omega
    have hGZ : G ≠ Z := Ne.symm hZG
    clear hV6 hV7 a1 a2 a3 a4 k6 k7 a5
    obtain ⟨z0, z1, z2⟩ := cells3 HS9.out.bz
    have zf0 := free_laid (i := 0) HS9.out.bz
    have zf1 := free_laid (i := 1) HS9.out.bz
    have zf2 := free_laid (i := 2) HS9.out.bz
    have g0 := cell_laid (i := 0) HG6.out rfl
    have gf0 := free_laid (i := 0) HG6.out
    have g1 := cell_laid (i := 1) HG6.out rfl
    have gf1 := free_laid (i := 1) HG6.out
    have g2 := cell_laid (i := 2) HG6.out rfl
    have gf2 := free_laid (i := 2) HG6.out
    have g3 := cell_laid (i := 3) HG6.out rfl
    have gf3 := free_laid (i := 3) HG6.out
    have g4 := cell_laid (i := 4) HG6.out rfl
    have gf4 := free_laid (i := 4) HG6.out
    have g5 := cell_laid (i := 5) HG6.out rfl
    have gf5 := free_laid (i := 5) HG6.out
    have g6 := cell_laid (i := 6) HG6.out rfl
    have gf6 := free_laid (i := 6) HG6.out
    have g7 := cell_laid (i := 7) HG6.out rfl
    have gf7 := free_laid (i := 7) HG6.out
    haveI : Nonempty (RXY X Y #[.slice wa M.W.length wc, .slice la M.L.length lc, .bool M.F] (ed8 ⟨((k : Nat) : Int), cuts, head, pl, key, val, prev, next⟩)) := ⟨⟨D9, HS9.out.bx, HS9.out.by_⟩⟩
    have q0 : ∀ z : RXY X Y #[.slice wa M.W.length wc, .slice la M.L.length lc, .bool M.F] (ed8 ⟨((k : Nat) : Int), cuts, head, pl, key, val, prev, next⟩), z.w.cell? ⟨X, 0, none⟩ = some (.slice wa M.W.length wc) := fun z => cell_laid z.bx rfl
    have q1 : ∀ z : RXY X Y #[.slice wa M.W.length wc, .slice la M.L.length lc, .bool M.F] (ed8 ⟨((k : Nat) : Int), cuts, head, pl, key, val, prev, next⟩), z.w.cell? ⟨X, 1, none⟩ = some (.slice la M.L.length lc) := fun z => cell_laid z.bx rfl
    have q2 : ∀ z : RXY X Y #[.slice wa M.W.length wc, .slice la M.L.length lc, .bool M.F] (ed8 ⟨((k : Nat) : Int), cuts, head, pl, key, val, prev, next⟩), z.w.cell? ⟨X, 2, none⟩ = some (.bool M.F) := fun z => cell_laid z.bx rfl
    have p0 : ∀ z : RXY X Y #[.slice wa M.W.length wc, .slice la M.L.length lc, .bool M.F] (ed8 ⟨((k : Nat) : Int), cuts, head, pl, key, val, prev, next⟩), z.w.cell? ⟨Y, 0, none⟩ = some (.int .i64 ((k : Nat) : Int)) := fun z => cell_laid z.by_ rfl
    have p1 : ∀ z : RXY X Y #[.slice wa M.W.length wc, .slice la M.L.length lc, .bool M.F] (ed8 ⟨((k : Nat) : Int), cuts, head, pl, key, val, prev, next⟩), z.w.cell? ⟨Y, 1, none⟩ = some (.bool cuts) := fun z => cell_laid z.by_ rfl
    have p2 : ∀ z : RXY X Y #[.slice wa M.W.length wc, .slice la M.L.length lc, .bool M.F] (ed8 ⟨((k : Nat) : Int), cuts, head, pl, key, val, prev, next⟩), z.w.cell? ⟨Y, 2, none⟩ = some (.int .u64 ((head : Nat) : Int)) := fun z => cell_laid z.by_ rfl
    have p3 : ∀ z : RXY X Y #[.slice wa M.W.length wc, .slice la M.L.length lc, .bool M.F] (ed8 ⟨((k : Nat) : Int), cuts, head, pl, key, val, prev, next⟩), z.w.cell? ⟨Y, 3, none⟩ = some (.int .u64 ((pl : Nat) : Int)) := fun z => cell_laid z.by_ rfl
    have p4 : ∀ z : RXY X Y #[.slice wa M.W.length wc, .slice la M.L.length lc, .bool M.F] (ed8 ⟨((k : Nat) : Int), cuts, head, pl, key, val, prev, next⟩), z.w.cell? ⟨Y, 4, none⟩ = some (.int .u64 ((key : Nat) : Int)) := fun z => cell_laid z.by_ rfl
    have p5 : ∀ z : RXY X Y #[.slice wa M.W.length wc, .slice la M.L.length lc, .bool M.F] (ed8 ⟨((k : Nat) : Int), cuts, head, pl, key, val, prev, next⟩), z.w.cell? ⟨Y, 5, none⟩ = some (.int .u64 ((val : Nat) : Int)) := fun z => cell_laid z.by_ rfl
    have p6 : ∀ z : RXY X Y #[.slice wa M.W.length wc, .slice la M.L.length lc, .bool M.F] (ed8 ⟨((k : Nat) : Int), cuts, head, pl, key, val, prev, next⟩), z.w.cell? ⟨Y, 6, none⟩ = some (.int .u64 ((prev : Nat) : Int)) := fun z => cell_laid z.by_ rfl
    have p7 : ∀ z : RXY X Y #[.slice wa M.W.length wc, .slice la M.L.length lc, .bool M.F] (ed8 ⟨((k : Nat) : Int), cuts, head, pl, key, val, prev, next⟩), z.w.cell? ⟨Y, 7, none⟩ = some (.int .u64 ((next : Nat) : Int)) := fun z => cell_laid z.by_ rfl
    refine wp_region_mix2 (fun W => ∃ z : RXY X Y #[.slice wa M.W.length wc, .slice la M.L.length lc, .bool M.F] (ed8 ⟨((k : Nat) : Int), cuts, head, pl, key, val, prev, next⟩), W = z.w) 4 (.q 0 (.q 1 (.h 2 (.h 3 .done)))) (by kernel_rfl) (by kernel_rfl) (by rw [HD9.out]; exact ⟨⟨D9, HS9.out.bx, HS9.out.by_⟩, rfl⟩) ?_
    rw [HD9.out]
    repeat (refine wpMix2_q rfl rfl ?_; go_big_quiet_step (fail); refine wpQuiet_nil ?_)
    refine wpMix2_h rfl fun R' hR' hO => ?_
    go_wp2
    rw [← HV6.out]
    refine hR' _ _ ⟨⟨V6, HX6.out, HY6.out⟩, rfl⟩ ?_
    clear hR' hO R'
    refine wpMix2_h rfl fun R' hR' hO => ?_
    go_wp2
    rw [← HV7.out]
    refine hR' _ _ ⟨⟨V7, HX7.out, HY7.out⟩, rfl⟩ ?_
    clear hR' hO R'
    refine wpMix2_done ?_
    simp only [List.drop_succ_cons, List.drop_zero]
    go_wp2
    refine bodyPost_ret (rstep_result A3.out A4.out rfl rfl) rfl ?_
    rw [HR.out]
    exact ⟨_, _, _, _, rfl, HM7.out, HB7.out, HKA.out.1, HKA.out.2⟩
  · have t0 : decide ((9 : Int) ≤ ((k : Nat) : Int)) = false := decide_eq_false (by omega)
    have hk9 : k < 9 := by omega
    have HACC := hid (HACC.out (by omega))
    obtain ⟨AA, hAA⟩ : ∃ x, accRA ⟨((k : Nat) : Int), cuts, head, pl, key, val, prev, next⟩ k = x := ⟨_, rfl⟩
    obtain ⟨AW, hAW⟩ : ∃ x, accW ⟨((k : Nat) : Int), cuts, head, pl, key, val, prev, next⟩ k = x := ⟨_, rfl⟩
    obtain ⟨KK, hKK⟩ : ∃ x : Int, (if accS k = true then (2 : Int) else 1) = x := ⟨_, rfl⟩
    obtain ⟨⟨M2, x, d⟩, hRR⟩ : ∃ R, accR M ⟨((k : Nat) : Int), cuts, head, pl, key, val, prev, next⟩ k = R := ⟨_, rfl⟩
    have hAAl : AA ≤ 5000 := by rw [← hAA]; exact accRA_le _ _
    have HEQ2 : Hid (stepM M (accS k) ((AA : Nat) : Int) AW = (M2, x, d)) := hid (by rw [← hAA, ← hAW, HEQ.out k]; exact hRR)
    rw [show (((k : Nat) : Int)).toNat = k by omega, hAA, hAW] at HACC
    unfold accV at HACC
    rw [hKK] at HACC
    have HR0 : Hid (stepE M ⟨((k : Nat) : Int), cuts, head, pl, key, val, prev, next⟩ = (M2, { aftE ⟨((k : Nat) : Int), cuts, head, pl, key, val, prev, next⟩ k x d with ph := nextPh k d })) := hid (by
      unfold stepE
      rw [if_neg (by dsimp only; omega)]
      dsimp only
      rw [show (((k : Nat) : Int)).toNat = k by omega, hRR])
    have HM2 : Hid (1 ≤ M2.W.length ∧ 1 ≤ M2.L.length) := hid (by
      have e1 := stepM_len M (accS k) ((accA ⟨((k : Nat) : Int), cuts, head, pl, key, val, prev, next⟩ k : Nat) : Int) (accW ⟨((k : Nat) : Int), cuts, head, pl, key, val, prev, next⟩ k)
      have e2 := stepM_L M (accS k) ((accA ⟨((k : Nat) : Int), cuts, head, pl, key, val, prev, next⟩ k : Nat) : Int) (accW ⟨((k : Nat) : Int), cuts, head, pl, key, val, prev, next⟩ k)
      have hr : stepM M (accS k) ((accA ⟨((k : Nat) : Int), cuts, head, pl, key, val, prev, next⟩ k : Nat) : Int) (accW ⟨((k : Nat) : Int), cuts, head, pl, key, val, prev, next⟩ k) = (M2, x, d) := hRR
      rw [hr] at e1 e2
      dsimp only at e1 e2
      have := okM_spec HOK.out
      rw [e1, e2]
      omega)
    have hKK2 : KK = if accS k = true then 2 else 1 := hKK.symm
    obtain ⟨D, hD⟩ : ∃ DX, V4.drew = DX := ⟨_, rfl⟩
    have HSX := hid (HS4.out.grow (Below.refl _ _).drew)
    rw [hD] at HSX
    have HD := hid hD
    have HSTP : Hid (∀ W, Below D.heap.size D W → Calls Try.prog 44 #[.agg #[.slice wa M.W.length wc, .slice la M.L.length lc, .bool M.F], .agg #[.int .i64 KK, .int .i64 ((AA : Nat) : Int), .int .u64 0, .int .u64 ((AW : Nat) : Int)]] W (GivesR wa la M2 x d W)) := hid (fun W hb => by
      have := RefStep_any M wa la wc lc (accS k) KK ((AA : Nat) : Int) 0 AW W (HSX.out.grow hb).mem HOK.out (by omega) hKK2
      rw [HEQ2.out] at this
      exact this)
    clear hAA hAW hKK hKK2 hRR h9 hD
    go_upto_region 3 with (fail)
    go_cut [6] (fun t6 W => ∃ Q, t6 = .pointer (some ⟨Q, 0, none⟩) ∧ Hid (∃ wa2 wc2 la2 lc2, Sx V X Y Z G wa2 wc2 la2 lc2 M2 ⟨((k : Nat) : Int), cuts, head, pl, key, val, prev, next⟩ W ∧ W.heap[Q]? = some (.cells #[.int .u64 ((x : Nat) : Int), .bool d] 91 (0, 0)) ∧ G < Q ∧ keptA V wa wa2 ∧ keptA V la la2))
    case first =>
      haveI : Nonempty (RBk Y (ed8 ⟨((k : Nat) : Int), cuts, head, pl, key, val, prev, next⟩) 42) := ⟨⟨D, HSX.out.by_⟩⟩
      have s0 : ∀ z : RBk Y (ed8 ⟨((k : Nat) : Int), cuts, head, pl, key, val, prev, next⟩) 42, z.w.cell? ⟨Y, 0, none⟩ = some (.int .i64 ((k : Nat) : Int)) := fun z => cell_laid z.b rfl
      have s1 : ∀ z : RBk Y (ed8 ⟨((k : Nat) : Int), cuts, head, pl, key, val, prev, next⟩) 42, z.w.cell? ⟨Y, 1, none⟩ = some (.bool cuts) := fun z => cell_laid z.b rfl
      have s2 : ∀ z : RBk Y (ed8 ⟨((k : Nat) : Int), cuts, head, pl, key, val, prev, next⟩) 42, z.w.cell? ⟨Y, 2, none⟩ = some (.int .u64 ((head : Nat) : Int)) := fun z => cell_laid z.b rfl
      have s3 : ∀ z : RBk Y (ed8 ⟨((k : Nat) : Int), cuts, head, pl, key, val, prev, next⟩) 42, z.w.cell? ⟨Y, 3, none⟩ = some (.int .u64 ((pl : Nat) : Int)) := fun z => cell_laid z.b rfl
      have s4 : ∀ z : RBk Y (ed8 ⟨((k : Nat) : Int), cuts, head, pl, key, val, prev, next⟩) 42, z.w.cell? ⟨Y, 4, none⟩ = some (.int .u64 ((key : Nat) : Int)) := fun z => cell_laid z.b rfl
      have s5 : ∀ z : RBk Y (ed8 ⟨((k : Nat) : Int), cuts, head, pl, key, val, prev, next⟩) 42, z.w.cell? ⟨Y, 5, none⟩ = some (.int .u64 ((val : Nat) : Int)) := fun z => cell_laid z.b rfl
      have s6 : ∀ z : RBk Y (ed8 ⟨((k : Nat) : Int), cuts, head, pl, key, val, prev, next⟩) 42, z.w.cell? ⟨Y, 6, none⟩ = some (.int .u64 ((prev : Nat) : Int)) := fun z => cell_laid z.b rfl
      have s7 : ∀ z : RBk Y (ed8 ⟨((k : Nat) : Int), cuts, head, pl, key, val, prev, next⟩) 42, z.w.cell? ⟨Y, 7, none⟩ = some (.int .u64 ((next : Nat) : Int)) := fun z => cell_laid z.b rfl
      refine wp_region_mix3 (fun W => ∃ z : RBk Y (ed8 ⟨((k : Nat) : Int), cuts, head, pl, key, val, prev, next⟩) 42, W = z.w) 10 (.q 1 (.h3 0 (.h2 2 (.h2 3 (.q 4 (.q 5 (.q 6 (.h 7 (.h 8 (.h 9 .done)))))) 7 (.h 3 (.q 4 (.q 5 (.q 6 (.h 8 (.h 9 .done))))))) 7 (.h 2 (.h 3 (.q 4 (.q 5 (.q 6 (.h 8 (.h 9 .done)))))))) 2 (.h2 0 (.h2 3 (.q 4 (.q 5 (.q 6 (.h 7 (.h 8 (.h 9 .done)))))) 7 (.h 3 (.q 4 (.q 5 (.q 6 (.h 8 (.h 9 .done))))))) 7 (.h 0 (.h 3 (.q 4 (.q 5 (.q 6 (.h 8 (.h 9 .done)))))))) 7 (.h2 0 (.h 2 (.h 3 (.q 4 (.q 5 (.q 6 (.h 8 (.h 9 .done))))))) 2 (.h 0 (.h 3 (.q 4 (.q 5 (.q 6 (.h 8 (.h 9 .done)))))))))) (by kernel_rfl) (by kernel_rfl) (by rw [HD.out]; exact ⟨⟨D, HSX.out.by_⟩, rfl⟩) ?_
      rw [HD.out]
      repeat (refine wpMix3_q rfl rfl ?_; go_big_quiet_step (fail); refine wpQuiet_nil ?_)
      refine wpMix3_h3 ?_ ?_ ?_
      · skip
        refine wpMix3_h rfl fun R' hR' hO => ?_
        obtain ⟨x0, x1, x2⟩ := cells3 (HSX.out.grow (Below.refl D.heap.size D)).bx
        go_wp2
        refine hR' _ _ ⟨⟨D, (HSX.out.grow (Below.refl D.heap.size D)).by_⟩, rfl⟩ ?_
        clear hR' hO R' x0 x1 x2
        refine wpMix3_h2 ?_ ?_
        · skip
          refine wpMix3_h rfl fun R' hR' hO => ?_
          go_wp2_with fail
          refine (HACC.out D).mono ?_
          rintro e Wc1 ⟨rfl, hbx⟩
          have HBC2 := hid (step (Below.refl D.heap.size D) hbx)
          clear hbx
          go_wp2
          refine hR' _ _ ⟨⟨Wc1, (HSX.out.grow HBC2.out).by_⟩, rfl⟩ ?_
          clear hR' hO R'
          refine wpMix3_h2 ?_ ?_
          · skip
            refine wpMix3_h rfl fun R' hR' hO => ?_
            go_wp2_with fail
            refine (HSTP.out Wc1 HBC2.out).mono ?_
            rintro e Wr3 ⟨wa2, wc2, la2, lc2, rfl, hm, hbx, hka, hkl⟩
            have HBR4 := hid (step HBC2.out hbx)
            have HMR5 := hid hm
            have HKR := hid (show keptA V wa wa2 ∧ keptA V la la2 from ⟨hka.imp id fun h b o e => Nat.le_trans (Nat.le_trans HSX.out.below.size (HBC2.out : Below D.heap.size D Wc1).size) (h b o e), hkl.imp id fun h b o e => Nat.le_trans (Nat.le_trans HSX.out.below.size (HBC2.out : Below D.heap.size D Wc1).size) (h b o e)⟩)
            have HKG := hid (show apB wa2 X G ∧ apB la2 X G from ⟨HSX.out.aw.kept hka (Nat.lt_of_lt_of_le (lt_laid HSX.out.bg) (HBC2.out : Below D.heap.size D Wc1).size), HSX.out.al.kept hkl (Nat.lt_of_lt_of_le (lt_laid HSX.out.bg) (HBC2.out : Below D.heap.size D Wc1).size)⟩)
            clear hm hka hkl hbx
            unfold memV
            go_wp2
            refine hR' _ _ ⟨⟨Wr3, (HSX.out.grow HBR4.out).by_⟩, rfl⟩ ?_
            clear hR' hO R'
            repeat (refine wpMix3_q rfl rfl ?_; go_big_quiet_step (fail); refine wpQuiet_nil ?_)
            refine wpMix3_h rfl fun R' hR' hO => ?_
            obtain ⟨Wa6, hWa, hba, hsa, hla⟩ := laid Wr3 #[.int .u64 0, .bool false] 91
            obtain ⟨q, hq⟩ : ∃ q, Wr3.heap.size = q := ⟨_, rfl⟩
            rw [hq] at hla
            have HQ8 := hid hla
            have HGq := hid (show G < q from by have h1 := lt_laid HSX.out.bg; have h2 := (HBR4.out : Below D.heap.size D Wr3).size; omega)
            have HBA7 := hid (step HBR4.out hba)
            have HAPQ := hid (show apartA wa2 q ∧ apartA la2 q from by rw [← hq]; exact MemL.beyond HMR5.out HM2.out.1 HM2.out.2)
            have HMA9 := hid (MemL.grow HMR5.out hba)
            clear hba hsa hla
            go_wp2
            refine hR' _ _ ⟨⟨Wa6, (HSX.out.grow HBA7.out).by_⟩, rfl⟩ ?_
            clear hR' hO R'
            refine wpMix3_h rfl fun R' hR' hO => ?_
            obtain ⟨W8, hW8, hS8, hk8, hb8⟩ := (HSX.out.grow HBA7.out).putX HMA9.out HKG.out.1 HKG.out.2
            obtain ⟨x0, x1, x2⟩ := cells3 (HSX.out.grow HBA7.out).bx
            have xf0 := free_laid (i := 0) (HSX.out.grow HBA7.out).bx
            have xf1 := free_laid (i := 1) (HSX.out.grow HBA7.out).bx
            have xf2 := free_laid (i := 2) (HSX.out.grow HBA7.out).bx
            have HW8 := hid hW8
            have HS8 := hid hS8
            have HQ8 := hid (hk8 q _ (by have := HGq.out; have := HSX.out.ord; omega) HQ8.out)
            clear hW8 hS8 hk8 hb8
            go_wp2
            rw [← HW8.out]
            refine hR' _ _ ⟨⟨W8, HS8.out.by_⟩, rfl⟩ ?_
            clear hR' hO R' x0 x1 x2 xf0 xf1 xf2
            refine wpMix3_h rfl fun R' hR' hO => ?_
            have y0 := cell_laid (i := 0) HQ8.out rfl
            have y1 := cell_laid (i := 1) HQ8.out rfl
            have yf0 := free_laid (i := 0) HQ8.out
            have yf1 := free_laid (i := 1) HQ8.out
            obtain ⟨W9, hW9, hq9, hk9', hb9⟩ := put2 HQ8.out (.int .u64 ((x : Nat) : Int)) (.bool d)
            have HS9 : Hid (Sx V X Y Z G wa2 wc2 la2 lc2 M2 ⟨((k : Nat) : Int), cuts, head, pl, key, val, prev, next⟩ W9) := hid (by
              have o := HS8.out.ord
              have hq := HGq.out
              have hm := HS8.out.mem
              refine ⟨hk9' _ _ (by omega) HS8.out.bx, hk9' _ _ (by omega) HS8.out.by_, hk9' _ _ (by omega) HS8.out.bz, hk9' _ _ (by omega) HS8.out.bg, ?_, HS8.out.aw, HS8.out.al, hb9 _ _ (by omega) HS8.out.below, o⟩
              have hap : apartA wa2 q ∧ apartA la2 q := HAPQ.out
              rw [hW9]
              exact ⟨(hm.w.setNe hap.1).setNe hap.1, (hm.l.setNe hap.2).setNe hap.2⟩)
            have HW9 := hid hW9
            have HQ9 := hid hq9
            clear hW9 hq9 hk9' hb9
            go_wp2
            rw [← HW9.out]
            refine hR' _ _ ⟨⟨W9, HS9.out.by_⟩, rfl⟩ ?_
            clear hR' hO R'
            refine wpMix3_done ?_
            simp only [List.drop_succ_cons, List.drop_nil]
            go_wp2
            go_meet
            exact ⟨q, rfl, hid ⟨wa2, wc2, la2, lc2, HS9.out, HQ9.out, HGq.out, HKR.out.1, HKR.out.2⟩⟩
          · skip
            refine wpMix3_h rfl fun R' hR' hO => ?_
            obtain ⟨Wa10, hWa, hba, hsa, hla⟩ := laid Wc1 #[.int .u64 0, .bool false] 91
            obtain ⟨q, hq⟩ : ∃ q, Wc1.heap.size = q := ⟨_, rfl⟩
            rw [hq] at hla
            have HQ12 := hid hla
            have HGq := hid (show G < q from by have h1 := lt_laid HSX.out.bg; have h2 := (HBC2.out : Below D.heap.size D Wc1).size; omega)
            have HBA11 := hid (step HBC2.out hba)
            clear hba hsa hla
            go_wp2
            refine hR' _ _ ⟨⟨Wa10, (HSX.out.grow HBA11.out).by_⟩, rfl⟩ ?_
            clear hR' hO R'
            refine wpMix3_h rfl fun R' hR' hO => ?_
            go_wp2_with fail
            refine (HSTP.out Wa10 HBA11.out).mono ?_
            rintro e Wr13 ⟨wa2, wc2, la2, lc2, rfl, hm, hbx, hka, hkl⟩
            have HBR14 := hid (step HBA11.out hbx)
            have HMR15 := hid hm
            have HKR := hid (show keptA V wa wa2 ∧ keptA V la la2 from ⟨hka.imp id fun h b o e => Nat.le_trans (Nat.le_trans HSX.out.below.size (HBA11.out : Below D.heap.size D Wa10).size) (h b o e), hkl.imp id fun h b o e => Nat.le_trans (Nat.le_trans HSX.out.below.size (HBA11.out : Below D.heap.size D Wa10).size) (h b o e)⟩)
            have HKG := hid (show apB wa2 X G ∧ apB la2 X G from ⟨HSX.out.aw.kept hka (Nat.lt_of_lt_of_le (lt_laid HSX.out.bg) (HBA11.out : Below D.heap.size D Wa10).size), HSX.out.al.kept hkl (Nat.lt_of_lt_of_le (lt_laid HSX.out.bg) (HBA11.out : Below D.heap.size D Wa10).size)⟩)
            have HQ16 := hid (keep_laid HQ12.out hbx)
            have HAPQ := hid (show apartA wa2 q ∧ apartA la2 q from ⟨hka.apart HLOW.out.1 (by have := HGq.out; have := HSX.out.ord; omega) (lt_laid HQ12.out), hkl.apart HLOW.out.2 (by have := HGq.out; have := HSX.out.ord; omega) (lt_laid HQ12.out)⟩)
            clear hm hka hkl hbx
            unfold memV
            go_wp2
            refine hR' _ _ ⟨⟨Wr13, (HSX.out.grow HBR14.out).by_⟩, rfl⟩ ?_
            clear hR' hO R'
            repeat (refine wpMix3_q rfl rfl ?_; go_big_quiet_step (fail); refine wpQuiet_nil ?_)
            refine wpMix3_h rfl fun R' hR' hO => ?_
            obtain ⟨W8, hW8, hS8, hk8, hb8⟩ := (HSX.out.grow HBR14.out).putX HMR15.out HKG.out.1 HKG.out.2
            obtain ⟨x0, x1, x2⟩ := cells3 (HSX.out.grow HBR14.out).bx
            have xf0 := free_laid (i := 0) (HSX.out.grow HBR14.out).bx
            have xf1 := free_laid (i := 1) (HSX.out.grow HBR14.out).bx
            have xf2 := free_laid (i := 2) (HSX.out.grow HBR14.out).bx
            have HW8 := hid hW8
            have HS8 := hid hS8
            have HQ8 := hid (hk8 q _ (by have := HGq.out; have := HSX.out.ord; omega) HQ16.out)
            clear hW8 hS8 hk8 hb8
            go_wp2
            rw [← HW8.out]
            refine hR' _ _ ⟨⟨W8, HS8.out.by_⟩, rfl⟩ ?_
            clear hR' hO R' x0 x1 x2 xf0 xf1 xf2
            refine wpMix3_h rfl fun R' hR' hO => ?_
            have y0 := cell_laid (i := 0) HQ8.out rfl
            have y1 := cell_laid (i := 1) HQ8.out rfl
            have yf0 := free_laid (i := 0) HQ8.out
            have yf1 := free_laid (i := 1) HQ8.out
            obtain ⟨W9, hW9, hq9, hk9', hb9⟩ := put2 HQ8.out (.int .u64 ((x : Nat) : Int)) (.bool d)
            have HS9 : Hid (Sx V X Y Z G wa2 wc2 la2 lc2 M2 ⟨((k : Nat) : Int), cuts, head, pl, key, val, prev, next⟩ W9) := hid (by
              have o := HS8.out.ord
              have hq := HGq.out
              have hm := HS8.out.mem
              refine ⟨hk9' _ _ (by omega) HS8.out.bx, hk9' _ _ (by omega) HS8.out.by_, hk9' _ _ (by omega) HS8.out.bz, hk9' _ _ (by omega) HS8.out.bg, ?_, HS8.out.aw, HS8.out.al, hb9 _ _ (by omega) HS8.out.below, o⟩
              have hap : apartA wa2 q ∧ apartA la2 q := HAPQ.out
              rw [hW9]
              exact ⟨(hm.w.setNe hap.1).setNe hap.1, (hm.l.setNe hap.2).setNe hap.2⟩)
            have HW9 := hid hW9
            have HQ9 := hid hq9
            clear hW9 hq9 hk9' hb9
            go_wp2
            rw [← HW9.out]
            refine hR' _ _ ⟨⟨W9, HS9.out.by_⟩, rfl⟩ ?_
            clear hR' hO R'
            refine wpMix3_done ?_
            simp only [List.drop_succ_cons, List.drop_nil]
            go_wp2
            go_meet
            exact ⟨q, rfl, hid ⟨wa2, wc2, la2, lc2, HS9.out, HQ9.out, HGq.out, HKR.out.1, HKR.out.2⟩⟩
        · skip
          refine wpMix3_h rfl fun R' hR' hO => ?_
          obtain ⟨Wa17, hWa, hba, hsa, hla⟩ := laid D #[.int .u64 0, .bool false] 91
          obtain ⟨q, hq⟩ : ∃ q, D.heap.size = q := ⟨_, rfl⟩
          rw [hq] at hla
          have HQ19 := hid hla
          have HGq := hid (show G < q from by have h1 := lt_laid HSX.out.bg; have h2 := ((Below.refl D.heap.size D) : Below D.heap.size D D).size; omega)
          have HBA18 := hid (step (Below.refl D.heap.size D) hba)
          clear hba hsa hla
          go_wp2
          refine hR' _ _ ⟨⟨Wa17, (HSX.out.grow HBA18.out).by_⟩, rfl⟩ ?_
          clear hR' hO R'
          refine wpMix3_h rfl fun R' hR' hO => ?_
          go_wp2_with fail
          refine (HACC.out Wa17).mono ?_
          rintro e Wc20 ⟨rfl, hbx⟩
          have HBC21 := hid (step HBA18.out hbx)
          have HQ22 := hid (keep_laid HQ19.out hbx)
          clear hbx
          go_wp2
          refine hR' _ _ ⟨⟨Wc20, (HSX.out.grow HBC21.out).by_⟩, rfl⟩ ?_
          clear hR' hO R'
          refine wpMix3_h rfl fun R' hR' hO => ?_
          go_wp2_with fail
          refine (HSTP.out Wc20 HBC21.out).mono ?_
          rintro e Wr23 ⟨wa2, wc2, la2, lc2, rfl, hm, hbx, hka, hkl⟩
          have HBR24 := hid (step HBC21.out hbx)
          have HMR25 := hid hm
          have HKR := hid (show keptA V wa wa2 ∧ keptA V la la2 from ⟨hka.imp id fun h b o e => Nat.le_trans (Nat.le_trans HSX.out.below.size (HBC21.out : Below D.heap.size D Wc20).size) (h b o e), hkl.imp id fun h b o e => Nat.le_trans (Nat.le_trans HSX.out.below.size (HBC21.out : Below D.heap.size D Wc20).size) (h b o e)⟩)
          have HKG := hid (show apB wa2 X G ∧ apB la2 X G from ⟨HSX.out.aw.kept hka (Nat.lt_of_lt_of_le (lt_laid HSX.out.bg) (HBC21.out : Below D.heap.size D Wc20).size), HSX.out.al.kept hkl (Nat.lt_of_lt_of_le (lt_laid HSX.out.bg) (HBC21.out : Below D.heap.size D Wc20).size)⟩)
          have HQ26 := hid (keep_laid HQ22.out hbx)
          have HAPQ := hid (show apartA wa2 q ∧ apartA la2 q from ⟨hka.apart HLOW.out.1 (by have := HGq.out; have := HSX.out.ord; omega) (lt_laid HQ22.out), hkl.apart HLOW.out.2 (by have := HGq.out; have := HSX.out.ord; omega) (lt_laid HQ22.out)⟩)
          clear hm hka hkl hbx
          unfold memV
          go_wp2
          refine hR' _ _ ⟨⟨Wr23, (HSX.out.grow HBR24.out).by_⟩, rfl⟩ ?_
          clear hR' hO R'
          repeat (refine wpMix3_q rfl rfl ?_; go_big_quiet_step (fail); refine wpQuiet_nil ?_)
          refine wpMix3_h rfl fun R' hR' hO => ?_
          obtain ⟨W8, hW8, hS8, hk8, hb8⟩ := (HSX.out.grow HBR24.out).putX HMR25.out HKG.out.1 HKG.out.2
          obtain ⟨x0, x1, x2⟩ := cells3 (HSX.out.grow HBR24.out).bx
          have xf0 := free_laid (i := 0) (HSX.out.grow HBR24.out).bx
          have xf1 := free_laid (i := 1) (HSX.out.grow HBR24.out).bx
          have xf2 := free_laid (i := 2) (HSX.out.grow HBR24.out).bx
          have HW8 := hid hW8
          have HS8 := hid hS8
          have HQ8 := hid (hk8 q _ (by have := HGq.out; have := HSX.out.ord; omega) HQ26.out)
          clear hW8 hS8 hk8 hb8
          go_wp2
          rw [← HW8.out]
          refine hR' _ _ ⟨⟨W8, HS8.out.by_⟩, rfl⟩ ?_
          clear hR' hO R' x0 x1 x2 xf0 xf1 xf2
          refine wpMix3_h rfl fun R' hR' hO => ?_
          have y0 := cell_laid (i := 0) HQ8.out rfl
          have y1 := cell_laid (i := 1) HQ8.out rfl
          have yf0 := free_laid (i := 0) HQ8.out
          have yf1 := free_laid (i := 1) HQ8.out
          obtain ⟨W9, hW9, hq9, hk9', hb9⟩ := put2 HQ8.out (.int .u64 ((x : Nat) : Int)) (.bool d)
          have HS9 : Hid (Sx V X Y Z G wa2 wc2 la2 lc2 M2 ⟨((k : Nat) : Int), cuts, head, pl, key, val, prev, next⟩ W9) := hid (by
            have o := HS8.out.ord
            have hq := HGq.out
            have hm := HS8.out.mem
            refine ⟨hk9' _ _ (by omega) HS8.out.bx, hk9' _ _ (by omega) HS8.out.by_, hk9' _ _ (by omega) HS8.out.bz, hk9' _ _ (by omega) HS8.out.bg, ?_, HS8.out.aw, HS8.out.al, hb9 _ _ (by omega) HS8.out.below, o⟩
            have hap : apartA wa2 q ∧ apartA la2 q := HAPQ.out
            rw [hW9]
            exact ⟨(hm.w.setNe hap.1).setNe hap.1, (hm.l.setNe hap.2).setNe hap.2⟩)
          have HW9 := hid hW9
          have HQ9 := hid hq9
          clear hW9 hq9 hk9' hb9
          go_wp2
          rw [← HW9.out]
          refine hR' _ _ ⟨⟨W9, HS9.out.by_⟩, rfl⟩ ?_
          clear hR' hO R'
          refine wpMix3_done ?_
          simp only [List.drop_succ_cons, List.drop_nil]
          go_wp2
          go_meet
          exact ⟨q, rfl, hid ⟨wa2, wc2, la2, lc2, HS9.out, HQ9.out, HGq.out, HKR.out.1, HKR.out.2⟩⟩
      · skip
        refine wpMix3_h rfl fun R' hR' hO => ?_
        go_wp2_with fail
        refine (HACC.out D).mono ?_
        rintro e Wc27 ⟨rfl, hbx⟩
        have HBC28 := hid (step (Below.refl D.heap.size D) hbx)
        clear hbx
        go_wp2
        refine hR' _ _ ⟨⟨Wc27, (HSX.out.grow HBC28.out).by_⟩, rfl⟩ ?_
        clear hR' hO R'
        refine wpMix3_h2 ?_ ?_
        · skip
          refine wpMix3_h rfl fun R' hR' hO => ?_
          obtain ⟨x0, x1, x2⟩ := cells3 (HSX.out.grow HBC28.out).bx
          go_wp2
          refine hR' _ _ ⟨⟨Wc27, (HSX.out.grow HBC28.out).by_⟩, rfl⟩ ?_
          clear hR' hO R' x0 x1 x2
          refine wpMix3_h2 ?_ ?_
          · skip
            refine wpMix3_h rfl fun R' hR' hO => ?_
            go_wp2_with fail
            refine (HSTP.out Wc27 HBC28.out).mono ?_
            rintro e Wr29 ⟨wa2, wc2, la2, lc2, rfl, hm, hbx, hka, hkl⟩
            have HBR30 := hid (step HBC28.out hbx)
            have HMR31 := hid hm
            have HKR := hid (show keptA V wa wa2 ∧ keptA V la la2 from ⟨hka.imp id fun h b o e => Nat.le_trans (Nat.le_trans HSX.out.below.size (HBC28.out : Below D.heap.size D Wc27).size) (h b o e), hkl.imp id fun h b o e => Nat.le_trans (Nat.le_trans HSX.out.below.size (HBC28.out : Below D.heap.size D Wc27).size) (h b o e)⟩)
            have HKG := hid (show apB wa2 X G ∧ apB la2 X G from ⟨HSX.out.aw.kept hka (Nat.lt_of_lt_of_le (lt_laid HSX.out.bg) (HBC28.out : Below D.heap.size D Wc27).size), HSX.out.al.kept hkl (Nat.lt_of_lt_of_le (lt_laid HSX.out.bg) (HBC28.out : Below D.heap.size D Wc27).size)⟩)
            clear hm hka hkl hbx
            unfold memV
            go_wp2
            refine hR' _ _ ⟨⟨Wr29, (HSX.out.grow HBR30.out).by_⟩, rfl⟩ ?_
            clear hR' hO R'
            repeat (refine wpMix3_q rfl rfl ?_; go_big_quiet_step (fail); refine wpQuiet_nil ?_)
            refine wpMix3_h rfl fun R' hR' hO => ?_
            obtain ⟨Wa32, hWa, hba, hsa, hla⟩ := laid Wr29 #[.int .u64 0, .bool false] 91
            obtain ⟨q, hq⟩ : ∃ q, Wr29.heap.size = q := ⟨_, rfl⟩
            rw [hq] at hla
            have HQ34 := hid hla
            have HGq := hid (show G < q from by have h1 := lt_laid HSX.out.bg; have h2 := (HBR30.out : Below D.heap.size D Wr29).size; omega)
            have HBA33 := hid (step HBR30.out hba)
            have HAPQ := hid (show apartA wa2 q ∧ apartA la2 q from by rw [← hq]; exact MemL.beyond HMR31.out HM2.out.1 HM2.out.2)
            have HMA35 := hid (MemL.grow HMR31.out hba)
            clear hba hsa hla
            go_wp2
            refine hR' _ _ ⟨⟨Wa32, (HSX.out.grow HBA33.out).by_⟩, rfl⟩ ?_
            clear hR' hO R'
            refine wpMix3_h rfl fun R' hR' hO => ?_
            obtain ⟨W8, hW8, hS8, hk8, hb8⟩ := (HSX.out.grow HBA33.out).putX HMA35.out HKG.out.1 HKG.out.2
            obtain ⟨x0, x1, x2⟩ := cells3 (HSX.out.grow HBA33.out).bx
            have xf0 := free_laid (i := 0) (HSX.out.grow HBA33.out).bx
            have xf1 := free_laid (i := 1) (HSX.out.grow HBA33.out).bx
            have xf2 := free_laid (i := 2) (HSX.out.grow HBA33.out).bx
            have HW8 := hid hW8
            have HS8 := hid hS8
            have HQ8 := hid (hk8 q _ (by have := HGq.out; have := HSX.out.ord; omega) HQ34.out)
            clear hW8 hS8 hk8 hb8
            go_wp2
            rw [← HW8.out]
            refine hR' _ _ ⟨⟨W8, HS8.out.by_⟩, rfl⟩ ?_
            clear hR' hO R' x0 x1 x2 xf0 xf1 xf2
            refine wpMix3_h rfl fun R' hR' hO => ?_
            have y0 := cell_laid (i := 0) HQ8.out rfl
            have y1 := cell_laid (i := 1) HQ8.out rfl
            have yf0 := free_laid (i := 0) HQ8.out
            have yf1 := free_laid (i := 1) HQ8.out
            obtain ⟨W9, hW9, hq9, hk9', hb9⟩ := put2 HQ8.out (.int .u64 ((x : Nat) : Int)) (.bool d)
            have HS9 : Hid (Sx V X Y Z G wa2 wc2 la2 lc2 M2 ⟨((k : Nat) : Int), cuts, head, pl, key, val, prev, next⟩ W9) := hid (by
              have o := HS8.out.ord
              have hq := HGq.out
              have hm := HS8.out.mem
              refine ⟨hk9' _ _ (by omega) HS8.out.bx, hk9' _ _ (by omega) HS8.out.by_, hk9' _ _ (by omega) HS8.out.bz, hk9' _ _ (by omega) HS8.out.bg, ?_, HS8.out.aw, HS8.out.al, hb9 _ _ (by omega) HS8.out.below, o⟩
              have hap : apartA wa2 q ∧ apartA la2 q := HAPQ.out
              rw [hW9]
              exact ⟨(hm.w.setNe hap.1).setNe hap.1, (hm.l.setNe hap.2).setNe hap.2⟩)
            have HW9 := hid hW9
            have HQ9 := hid hq9
            clear hW9 hq9 hk9' hb9
            go_wp2
            rw [← HW9.out]
            refine hR' _ _ ⟨⟨W9, HS9.out.by_⟩, rfl⟩ ?_
            clear hR' hO R'
            refine wpMix3_done ?_
            simp only [List.drop_succ_cons, List.drop_nil]
            go_wp2
            go_meet
            exact ⟨q, rfl, hid ⟨wa2, wc2, la2, lc2, HS9.out, HQ9.out, HGq.out, HKR.out.1, HKR.out.2⟩⟩
          · skip
            refine wpMix3_h rfl fun R' hR' hO => ?_
            obtain ⟨Wa36, hWa, hba, hsa, hla⟩ := laid Wc27 #[.int .u64 0, .bool false] 91
            obtain ⟨q, hq⟩ : ∃ q, Wc27.heap.size = q := ⟨_, rfl⟩
            rw [hq] at hla
            have HQ38 := hid hla
            have HGq := hid (show G < q from by have h1 := lt_laid HSX.out.bg; have h2 := (HBC28.out : Below D.heap.size D Wc27).size; omega)
            have HBA37 := hid (step HBC28.out hba)
            clear hba hsa hla
            go_wp2
            refine hR' _ _ ⟨⟨Wa36, (HSX.out.grow HBA37.out).by_⟩, rfl⟩ ?_
            clear hR' hO R'
            refine wpMix3_h rfl fun R' hR' hO => ?_
            go_wp2_with fail
            refine (HSTP.out Wa36 HBA37.out).mono ?_
            rintro e Wr39 ⟨wa2, wc2, la2, lc2, rfl, hm, hbx, hka, hkl⟩
            have HBR40 := hid (step HBA37.out hbx)
            have HMR41 := hid hm
            have HKR := hid (show keptA V wa wa2 ∧ keptA V la la2 from ⟨hka.imp id fun h b o e => Nat.le_trans (Nat.le_trans HSX.out.below.size (HBA37.out : Below D.heap.size D Wa36).size) (h b o e), hkl.imp id fun h b o e => Nat.le_trans (Nat.le_trans HSX.out.below.size (HBA37.out : Below D.heap.size D Wa36).size) (h b o e)⟩)
            have HKG := hid (show apB wa2 X G ∧ apB la2 X G from ⟨HSX.out.aw.kept hka (Nat.lt_of_lt_of_le (lt_laid HSX.out.bg) (HBA37.out : Below D.heap.size D Wa36).size), HSX.out.al.kept hkl (Nat.lt_of_lt_of_le (lt_laid HSX.out.bg) (HBA37.out : Below D.heap.size D Wa36).size)⟩)
            have HQ42 := hid (keep_laid HQ38.out hbx)
            have HAPQ := hid (show apartA wa2 q ∧ apartA la2 q from ⟨hka.apart HLOW.out.1 (by have := HGq.out; have := HSX.out.ord; omega) (lt_laid HQ38.out), hkl.apart HLOW.out.2 (by have := HGq.out; have := HSX.out.ord; omega) (lt_laid HQ38.out)⟩)
            clear hm hka hkl hbx
            unfold memV
            go_wp2
            refine hR' _ _ ⟨⟨Wr39, (HSX.out.grow HBR40.out).by_⟩, rfl⟩ ?_
            clear hR' hO R'
            repeat (refine wpMix3_q rfl rfl ?_; go_big_quiet_step (fail); refine wpQuiet_nil ?_)
            refine wpMix3_h rfl fun R' hR' hO => ?_
            obtain ⟨W8, hW8, hS8, hk8, hb8⟩ := (HSX.out.grow HBR40.out).putX HMR41.out HKG.out.1 HKG.out.2
            obtain ⟨x0, x1, x2⟩ := cells3 (HSX.out.grow HBR40.out).bx
            have xf0 := free_laid (i := 0) (HSX.out.grow HBR40.out).bx
            have xf1 := free_laid (i := 1) (HSX.out.grow HBR40.out).bx
            have xf2 := free_laid (i := 2) (HSX.out.grow HBR40.out).bx
            have HW8 := hid hW8
            have HS8 := hid hS8
            have HQ8 := hid (hk8 q _ (by have := HGq.out; have := HSX.out.ord; omega) HQ42.out)
            clear hW8 hS8 hk8 hb8
            go_wp2
            rw [← HW8.out]
            refine hR' _ _ ⟨⟨W8, HS8.out.by_⟩, rfl⟩ ?_
            clear hR' hO R' x0 x1 x2 xf0 xf1 xf2
            refine wpMix3_h rfl fun R' hR' hO => ?_
            have y0 := cell_laid (i := 0) HQ8.out rfl
            have y1 := cell_laid (i := 1) HQ8.out rfl
            have yf0 := free_laid (i := 0) HQ8.out
            have yf1 := free_laid (i := 1) HQ8.out
            obtain ⟨W9, hW9, hq9, hk9', hb9⟩ := put2 HQ8.out (.int .u64 ((x : Nat) : Int)) (.bool d)
            have HS9 : Hid (Sx V X Y Z G wa2 wc2 la2 lc2 M2 ⟨((k : Nat) : Int), cuts, head, pl, key, val, prev, next⟩ W9) := hid (by
              have o := HS8.out.ord
              have hq := HGq.out
              have hm := HS8.out.mem
              refine ⟨hk9' _ _ (by omega) HS8.out.bx, hk9' _ _ (by omega) HS8.out.by_, hk9' _ _ (by omega) HS8.out.bz, hk9' _ _ (by omega) HS8.out.bg, ?_, HS8.out.aw, HS8.out.al, hb9 _ _ (by omega) HS8.out.below, o⟩
              have hap : apartA wa2 q ∧ apartA la2 q := HAPQ.out
              rw [hW9]
              exact ⟨(hm.w.setNe hap.1).setNe hap.1, (hm.l.setNe hap.2).setNe hap.2⟩)
            have HW9 := hid hW9
            have HQ9 := hid hq9
            clear hW9 hq9 hk9' hb9
            go_wp2
            rw [← HW9.out]
            refine hR' _ _ ⟨⟨W9, HS9.out.by_⟩, rfl⟩ ?_
            clear hR' hO R'
            refine wpMix3_done ?_
            simp only [List.drop_succ_cons, List.drop_nil]
            go_wp2
            go_meet
            exact ⟨q, rfl, hid ⟨wa2, wc2, la2, lc2, HS9.out, HQ9.out, HGq.out, HKR.out.1, HKR.out.2⟩⟩
        · skip
          refine wpMix3_h rfl fun R' hR' hO => ?_
          obtain ⟨Wa43, hWa, hba, hsa, hla⟩ := laid Wc27 #[.int .u64 0, .bool false] 91
          obtain ⟨q, hq⟩ : ∃ q, Wc27.heap.size = q := ⟨_, rfl⟩
          rw [hq] at hla
          have HQ45 := hid hla
          have HGq := hid (show G < q from by have h1 := lt_laid HSX.out.bg; have h2 := (HBC28.out : Below D.heap.size D Wc27).size; omega)
          have HBA44 := hid (step HBC28.out hba)
          clear hba hsa hla
          go_wp2
          refine hR' _ _ ⟨⟨Wa43, (HSX.out.grow HBA44.out).by_⟩, rfl⟩ ?_
          clear hR' hO R'
          refine wpMix3_h rfl fun R' hR' hO => ?_
          obtain ⟨x0, x1, x2⟩ := cells3 (HSX.out.grow HBA44.out).bx
          go_wp2
          refine hR' _ _ ⟨⟨Wa43, (HSX.out.grow HBA44.out).by_⟩, rfl⟩ ?_
          clear hR' hO R' x0 x1 x2
          refine wpMix3_h rfl fun R' hR' hO => ?_
          go_wp2_with fail
          refine (HSTP.out Wa43 HBA44.out).mono ?_
          rintro e Wr46 ⟨wa2, wc2, la2, lc2, rfl, hm, hbx, hka, hkl⟩
          have HBR47 := hid (step HBA44.out hbx)
          have HMR48 := hid hm
          have HKR := hid (show keptA V wa wa2 ∧ keptA V la la2 from ⟨hka.imp id fun h b o e => Nat.le_trans (Nat.le_trans HSX.out.below.size (HBA44.out : Below D.heap.size D Wa43).size) (h b o e), hkl.imp id fun h b o e => Nat.le_trans (Nat.le_trans HSX.out.below.size (HBA44.out : Below D.heap.size D Wa43).size) (h b o e)⟩)
          have HKG := hid (show apB wa2 X G ∧ apB la2 X G from ⟨HSX.out.aw.kept hka (Nat.lt_of_lt_of_le (lt_laid HSX.out.bg) (HBA44.out : Below D.heap.size D Wa43).size), HSX.out.al.kept hkl (Nat.lt_of_lt_of_le (lt_laid HSX.out.bg) (HBA44.out : Below D.heap.size D Wa43).size)⟩)
          have HQ49 := hid (keep_laid HQ45.out hbx)
          have HAPQ := hid (show apartA wa2 q ∧ apartA la2 q from ⟨hka.apart HLOW.out.1 (by have := HGq.out; have := HSX.out.ord; omega) (lt_laid HQ45.out), hkl.apart HLOW.out.2 (by have := HGq.out; have := HSX.out.ord; omega) (lt_laid HQ45.out)⟩)
          clear hm hka hkl hbx
          unfold memV
          go_wp2
          refine hR' _ _ ⟨⟨Wr46, (HSX.out.grow HBR47.out).by_⟩, rfl⟩ ?_
          clear hR' hO R'
          repeat (refine wpMix3_q rfl rfl ?_; go_big_quiet_step (fail); refine wpQuiet_nil ?_)
          refine wpMix3_h rfl fun R' hR' hO => ?_
          obtain ⟨W8, hW8, hS8, hk8, hb8⟩ := (HSX.out.grow HBR47.out).putX HMR48.out HKG.out.1 HKG.out.2
          obtain ⟨x0, x1, x2⟩ := cells3 (HSX.out.grow HBR47.out).bx
          have xf0 := free_laid (i := 0) (HSX.out.grow HBR47.out).bx
          have xf1 := free_laid (i := 1) (HSX.out.grow HBR47.out).bx
          have xf2 := free_laid (i := 2) (HSX.out.grow HBR47.out).bx
          have HW8 := hid hW8
          have HS8 := hid hS8
          have HQ8 := hid (hk8 q _ (by have := HGq.out; have := HSX.out.ord; omega) HQ49.out)
          clear hW8 hS8 hk8 hb8
          go_wp2
          rw [← HW8.out]
          refine hR' _ _ ⟨⟨W8, HS8.out.by_⟩, rfl⟩ ?_
          clear hR' hO R' x0 x1 x2 xf0 xf1 xf2
          refine wpMix3_h rfl fun R' hR' hO => ?_
          have y0 := cell_laid (i := 0) HQ8.out rfl
          have y1 := cell_laid (i := 1) HQ8.out rfl
          have yf0 := free_laid (i := 0) HQ8.out
          have yf1 := free_laid (i := 1) HQ8.out
          obtain ⟨W9, hW9, hq9, hk9', hb9⟩ := put2 HQ8.out (.int .u64 ((x : Nat) : Int)) (.bool d)
          have HS9 : Hid (Sx V X Y Z G wa2 wc2 la2 lc2 M2 ⟨((k : Nat) : Int), cuts, head, pl, key, val, prev, next⟩ W9) := hid (by
            have o := HS8.out.ord
            have hq := HGq.out
            have hm := HS8.out.mem
            refine ⟨hk9' _ _ (by omega) HS8.out.bx, hk9' _ _ (by omega) HS8.out.by_, hk9' _ _ (by omega) HS8.out.bz, hk9' _ _ (by omega) HS8.out.bg, ?_, HS8.out.aw, HS8.out.al, hb9 _ _ (by omega) HS8.out.below, o⟩
            have hap : apartA wa2 q ∧ apartA la2 q := HAPQ.out
            rw [hW9]
            exact ⟨(hm.w.setNe hap.1).setNe hap.1, (hm.l.setNe hap.2).setNe hap.2⟩)
          have HW9 := hid hW9
          have HQ9 := hid hq9
          clear hW9 hq9 hk9' hb9
          go_wp2
          rw [← HW9.out]
          refine hR' _ _ ⟨⟨W9, HS9.out.by_⟩, rfl⟩ ?_
          clear hR' hO R'
          refine wpMix3_done ?_
          simp only [List.drop_succ_cons, List.drop_nil]
          go_wp2
          go_meet
          exact ⟨q, rfl, hid ⟨wa2, wc2, la2, lc2, HS9.out, HQ9.out, HGq.out, HKR.out.1, HKR.out.2⟩⟩
      · skip
        refine wpMix3_h rfl fun R' hR' hO => ?_
        obtain ⟨Wa50, hWa, hba, hsa, hla⟩ := laid D #[.int .u64 0, .bool false] 91
        obtain ⟨q, hq⟩ : ∃ q, D.heap.size = q := ⟨_, rfl⟩
        rw [hq] at hla
        have HQ52 := hid hla
        have HGq := hid (show G < q from by have h1 := lt_laid HSX.out.bg; have h2 := ((Below.refl D.heap.size D) : Below D.heap.size D D).size; omega)
        have HBA51 := hid (step (Below.refl D.heap.size D) hba)
        clear hba hsa hla
        go_wp2
        refine hR' _ _ ⟨⟨Wa50, (HSX.out.grow HBA51.out).by_⟩, rfl⟩ ?_
        clear hR' hO R'
        refine wpMix3_h2 ?_ ?_
        · skip
          refine wpMix3_h rfl fun R' hR' hO => ?_
          obtain ⟨x0, x1, x2⟩ := cells3 (HSX.out.grow HBA51.out).bx
          go_wp2
          refine hR' _ _ ⟨⟨Wa50, (HSX.out.grow HBA51.out).by_⟩, rfl⟩ ?_
          clear hR' hO R' x0 x1 x2
          refine wpMix3_h rfl fun R' hR' hO => ?_
          go_wp2_with fail
          refine (HACC.out Wa50).mono ?_
          rintro e Wc53 ⟨rfl, hbx⟩
          have HBC54 := hid (step HBA51.out hbx)
          have HQ55 := hid (keep_laid HQ52.out hbx)
          clear hbx
          go_wp2
          refine hR' _ _ ⟨⟨Wc53, (HSX.out.grow HBC54.out).by_⟩, rfl⟩ ?_
          clear hR' hO R'
          refine wpMix3_h rfl fun R' hR' hO => ?_
          go_wp2_with fail
          refine (HSTP.out Wc53 HBC54.out).mono ?_
          rintro e Wr56 ⟨wa2, wc2, la2, lc2, rfl, hm, hbx, hka, hkl⟩
          have HBR57 := hid (step HBC54.out hbx)
          have HMR58 := hid hm
          have HKR := hid (show keptA V wa wa2 ∧ keptA V la la2 from ⟨hka.imp id fun h b o e => Nat.le_trans (Nat.le_trans HSX.out.below.size (HBC54.out : Below D.heap.size D Wc53).size) (h b o e), hkl.imp id fun h b o e => Nat.le_trans (Nat.le_trans HSX.out.below.size (HBC54.out : Below D.heap.size D Wc53).size) (h b o e)⟩)
          have HKG := hid (show apB wa2 X G ∧ apB la2 X G from ⟨HSX.out.aw.kept hka (Nat.lt_of_lt_of_le (lt_laid HSX.out.bg) (HBC54.out : Below D.heap.size D Wc53).size), HSX.out.al.kept hkl (Nat.lt_of_lt_of_le (lt_laid HSX.out.bg) (HBC54.out : Below D.heap.size D Wc53).size)⟩)
          have HQ59 := hid (keep_laid HQ55.out hbx)
          have HAPQ := hid (show apartA wa2 q ∧ apartA la2 q from ⟨hka.apart HLOW.out.1 (by have := HGq.out; have := HSX.out.ord; omega) (lt_laid HQ55.out), hkl.apart HLOW.out.2 (by have := HGq.out; have := HSX.out.ord; omega) (lt_laid HQ55.out)⟩)
          clear hm hka hkl hbx
          unfold memV
          go_wp2
          refine hR' _ _ ⟨⟨Wr56, (HSX.out.grow HBR57.out).by_⟩, rfl⟩ ?_
          clear hR' hO R'
          repeat (refine wpMix3_q rfl rfl ?_; go_big_quiet_step (fail); refine wpQuiet_nil ?_)
          refine wpMix3_h rfl fun R' hR' hO => ?_
          obtain ⟨W8, hW8, hS8, hk8, hb8⟩ := (HSX.out.grow HBR57.out).putX HMR58.out HKG.out.1 HKG.out.2
          obtain ⟨x0, x1, x2⟩ := cells3 (HSX.out.grow HBR57.out).bx
          have xf0 := free_laid (i := 0) (HSX.out.grow HBR57.out).bx
          have xf1 := free_laid (i := 1) (HSX.out.grow HBR57.out).bx
          have xf2 := free_laid (i := 2) (HSX.out.grow HBR57.out).bx
          have HW8 := hid hW8
          have HS8 := hid hS8
          have HQ8 := hid (hk8 q _ (by have := HGq.out; have := HSX.out.ord; omega) HQ59.out)
          clear hW8 hS8 hk8 hb8
          go_wp2
          rw [← HW8.out]
          refine hR' _ _ ⟨⟨W8, HS8.out.by_⟩, rfl⟩ ?_
          clear hR' hO R' x0 x1 x2 xf0 xf1 xf2
          refine wpMix3_h rfl fun R' hR' hO => ?_
          have y0 := cell_laid (i := 0) HQ8.out rfl
          have y1 := cell_laid (i := 1) HQ8.out rfl
          have yf0 := free_laid (i := 0) HQ8.out
          have yf1 := free_laid (i := 1) HQ8.out
          obtain ⟨W9, hW9, hq9, hk9', hb9⟩ := put2 HQ8.out (.int .u64 ((x : Nat) : Int)) (.bool d)
          have HS9 : Hid (Sx V X Y Z G wa2 wc2 la2 lc2 M2 ⟨((k : Nat) : Int), cuts, head, pl, key, val, prev, next⟩ W9) := hid (by
            have o := HS8.out.ord
            have hq := HGq.out
            have hm := HS8.out.mem
            refine ⟨hk9' _ _ (by omega) HS8.out.bx, hk9' _ _ (by omega) HS8.out.by_, hk9' _ _ (by omega) HS8.out.bz, hk9' _ _ (by omega) HS8.out.bg, ?_, HS8.out.aw, HS8.out.al, hb9 _ _ (by omega) HS8.out.below, o⟩
            have hap : apartA wa2 q ∧ apartA la2 q := HAPQ.out
            rw [hW9]
            exact ⟨(hm.w.setNe hap.1).setNe hap.1, (hm.l.setNe hap.2).setNe hap.2⟩)
          have HW9 := hid hW9
          have HQ9 := hid hq9
          clear hW9 hq9 hk9' hb9
          go_wp2
          rw [← HW9.out]
          refine hR' _ _ ⟨⟨W9, HS9.out.by_⟩, rfl⟩ ?_
          clear hR' hO R'
          refine wpMix3_done ?_
          simp only [List.drop_succ_cons, List.drop_nil]
          go_wp2
          go_meet
          exact ⟨q, rfl, hid ⟨wa2, wc2, la2, lc2, HS9.out, HQ9.out, HGq.out, HKR.out.1, HKR.out.2⟩⟩
        · skip
          refine wpMix3_h rfl fun R' hR' hO => ?_
          go_wp2_with fail
          refine (HACC.out Wa50).mono ?_
          rintro e Wc60 ⟨rfl, hbx⟩
          have HBC61 := hid (step HBA51.out hbx)
          have HQ62 := hid (keep_laid HQ52.out hbx)
          clear hbx
          go_wp2
          refine hR' _ _ ⟨⟨Wc60, (HSX.out.grow HBC61.out).by_⟩, rfl⟩ ?_
          clear hR' hO R'
          refine wpMix3_h rfl fun R' hR' hO => ?_
          obtain ⟨x0, x1, x2⟩ := cells3 (HSX.out.grow HBC61.out).bx
          go_wp2
          refine hR' _ _ ⟨⟨Wc60, (HSX.out.grow HBC61.out).by_⟩, rfl⟩ ?_
          clear hR' hO R' x0 x1 x2
          refine wpMix3_h rfl fun R' hR' hO => ?_
          go_wp2_with fail
          refine (HSTP.out Wc60 HBC61.out).mono ?_
          rintro e Wr63 ⟨wa2, wc2, la2, lc2, rfl, hm, hbx, hka, hkl⟩
          have HBR64 := hid (step HBC61.out hbx)
          have HMR65 := hid hm
          have HKR := hid (show keptA V wa wa2 ∧ keptA V la la2 from ⟨hka.imp id fun h b o e => Nat.le_trans (Nat.le_trans HSX.out.below.size (HBC61.out : Below D.heap.size D Wc60).size) (h b o e), hkl.imp id fun h b o e => Nat.le_trans (Nat.le_trans HSX.out.below.size (HBC61.out : Below D.heap.size D Wc60).size) (h b o e)⟩)
          have HKG := hid (show apB wa2 X G ∧ apB la2 X G from ⟨HSX.out.aw.kept hka (Nat.lt_of_lt_of_le (lt_laid HSX.out.bg) (HBC61.out : Below D.heap.size D Wc60).size), HSX.out.al.kept hkl (Nat.lt_of_lt_of_le (lt_laid HSX.out.bg) (HBC61.out : Below D.heap.size D Wc60).size)⟩)
          have HQ66 := hid (keep_laid HQ62.out hbx)
          have HAPQ := hid (show apartA wa2 q ∧ apartA la2 q from ⟨hka.apart HLOW.out.1 (by have := HGq.out; have := HSX.out.ord; omega) (lt_laid HQ62.out), hkl.apart HLOW.out.2 (by have := HGq.out; have := HSX.out.ord; omega) (lt_laid HQ62.out)⟩)
          clear hm hka hkl hbx
          unfold memV
          go_wp2
          refine hR' _ _ ⟨⟨Wr63, (HSX.out.grow HBR64.out).by_⟩, rfl⟩ ?_
          clear hR' hO R'
          repeat (refine wpMix3_q rfl rfl ?_; go_big_quiet_step (fail); refine wpQuiet_nil ?_)
          refine wpMix3_h rfl fun R' hR' hO => ?_
          obtain ⟨W8, hW8, hS8, hk8, hb8⟩ := (HSX.out.grow HBR64.out).putX HMR65.out HKG.out.1 HKG.out.2
          obtain ⟨x0, x1, x2⟩ := cells3 (HSX.out.grow HBR64.out).bx
          have xf0 := free_laid (i := 0) (HSX.out.grow HBR64.out).bx
          have xf1 := free_laid (i := 1) (HSX.out.grow HBR64.out).bx
          have xf2 := free_laid (i := 2) (HSX.out.grow HBR64.out).bx
          have HW8 := hid hW8
          have HS8 := hid hS8
          have HQ8 := hid (hk8 q _ (by have := HGq.out; have := HSX.out.ord; omega) HQ66.out)
          clear hW8 hS8 hk8 hb8
          go_wp2
          rw [← HW8.out]
          refine hR' _ _ ⟨⟨W8, HS8.out.by_⟩, rfl⟩ ?_
          clear hR' hO R' x0 x1 x2 xf0 xf1 xf2
          refine wpMix3_h rfl fun R' hR' hO => ?_
          have y0 := cell_laid (i := 0) HQ8.out rfl
          have y1 := cell_laid (i := 1) HQ8.out rfl
          have yf0 := free_laid (i := 0) HQ8.out
          have yf1 := free_laid (i := 1) HQ8.out
          obtain ⟨W9, hW9, hq9, hk9', hb9⟩ := put2 HQ8.out (.int .u64 ((x : Nat) : Int)) (.bool d)
          have HS9 : Hid (Sx V X Y Z G wa2 wc2 la2 lc2 M2 ⟨((k : Nat) : Int), cuts, head, pl, key, val, prev, next⟩ W9) := hid (by
            have o := HS8.out.ord
            have hq := HGq.out
            have hm := HS8.out.mem
            refine ⟨hk9' _ _ (by omega) HS8.out.bx, hk9' _ _ (by omega) HS8.out.by_, hk9' _ _ (by omega) HS8.out.bz, hk9' _ _ (by omega) HS8.out.bg, ?_, HS8.out.aw, HS8.out.al, hb9 _ _ (by omega) HS8.out.below, o⟩
            have hap : apartA wa2 q ∧ apartA la2 q := HAPQ.out
            rw [hW9]
            exact ⟨(hm.w.setNe hap.1).setNe hap.1, (hm.l.setNe hap.2).setNe hap.2⟩)
          have HW9 := hid hW9
          have HQ9 := hid hq9
          clear hW9 hq9 hk9' hb9
          go_wp2
          rw [← HW9.out]
          refine hR' _ _ ⟨⟨W9, HS9.out.by_⟩, rfl⟩ ?_
          clear hR' hO R'
          refine wpMix3_done ?_
          simp only [List.drop_succ_cons, List.drop_nil]
          go_wp2
          go_meet
          exact ⟨q, rfl, hid ⟨wa2, wc2, la2, lc2, HS9.out, HQ9.out, HGq.out, HKR.out.1, HKR.out.2⟩⟩
    case rest =>
      obtain ⟨Q, rfl, wa2, wc2, la2, lc2, hS, hQ, hGQ, hka, hkl⟩ := hcut
      obtain ⟨W9, hW9⟩ : ∃ W, W = wc := ⟨_, rfl⟩
      subst hW9
      have HS := hid hS
      have HQ := hid hQ
      have HGQ := hid hGQ
      have HKA : Hid (keptA V wa wa2 ∧ keptA V la la2) := hid ⟨hka, hkl⟩
      have g0 := cell_laid (i := 0) hQ rfl
      have g1 := cell_laid (i := 1) hQ rfl
      have y0 := cell_laid (i := 0) hS.by_ rfl
      have y6 := cell_laid (i := 6) hS.by_ rfl
      have y7 := cell_laid (i := 7) hS.by_ rfl
      have yf0 := free_laid (i := 0) hS.by_
      have yf6 := free_laid (i := 6) hS.by_
      have yf7 := free_laid (i := 7) hS.by_
      have hYQ : Y ≠ Q := by have := hS.ord; omega
      have hQY : Q ≠ Y := Ne.symm hYQ
      clear hS hQ hGQ hka hkl
      cases d
      case' false =>
        have HR : Hid (stepE M ⟨((k : Nat) : Int), cuts, head, pl, key, val, prev, next⟩ = (M2, ⟨10, cuts, head, pl, key, val, prev, next⟩)) := hid (by rw [HR0.out]; unfold nextPh aftE; simp only [if_true, Bool.false_eq_true, if_false]; split <;> rfl)
        obtain ⟨W11, hW11⟩ : ∃ W, W9.setCell ⟨Y, 0, none⟩ (.int .i64 10) = W := ⟨_, rfl⟩
        have HS11 : Hid (Sx V X Y Z G wa2 wc2 la2 lc2 M2 ⟨10, cuts, head, pl, key, val, prev, next⟩ W11) := hid (by rw [← hW11]; exact HS.out.setY rfl)
        have HW11 := hid hW11
        clear hW11 HR0
        try clear hk2
        go_upto_region 6 with (fail)
        rw [HW11.out]
        obtain ⟨D9, hD9⟩ : ∃ DX, (W11).drew = DX := ⟨_, rfl⟩
        have HS9 := hid (HS11.out.grow (Below.refl _ _).drew)
        rw [hD9] at HS9
        have HD9 := hid hD9
        clear hD9
        obtain ⟨V6, V7, hV6, hV7, a1, a2, a3, a4, k6, k7, a5, -⟩ := put_me HS9.out.bz HS9.out.bg (by have := HS9.out.ord; omega) (.slice wa2 M2.W.length wc2) (.slice la2 M2.L.length lc2) (.bool M2.F) (.int .i64 10) (.bool cuts) (.int .u64 ((head : Nat) : Int)) (.int .u64 ((pl : Nat) : Int)) (.int .u64 ((key : Nat) : Int)) (.int .u64 ((val : Nat) : Int)) (.int .u64 ((prev : Nat) : Int)) (.int .u64 ((next : Nat) : Int))
        have A3 := hid a3
        have A4 := hid a4
        have HG6 := hid a2
        have HB7 := hid (a5 V.heap.size V (by have := HS9.out.ord; omega) (by have := HS9.out.ord; omega) HS9.out.below)
        have HX6 := hid (k6 X _ (by have := HS9.out.ord; omega) HS9.out.bx)
        have HY6 := hid (k6 Y _ (by have := HS9.out.ord; omega) HS9.out.by_)
        have HX7 := hid (k7 X _ (by have := HS9.out.ord; omega) (by have := HS9.out.ord; omega) HS9.out.bx)
        have HY7 := hid (k7 Y _ (by have := HS9.out.ord; omega) (by have := HS9.out.ord; omega) HS9.out.by_)
        have HM7 : Hid (MemL V7 wa2 wc2 la2 lc2 M2) := hid (by
          have hz : apartA wa2 Z ∧ apartA la2 Z ∧ apartA wa2 G ∧ apartA la2 G := by have := HS9.out.ord; exact ⟨HS9.out.aw.apart (by omega) (by omega), HS9.out.al.apart (by omega) (by omega), HS9.out.aw.apart (by omega) (by omega), HS9.out.al.apart (by omega) (by omega)⟩
          obtain ⟨z1, z2, z3, z4⟩ := hz
          rw [hV7, hV6]
          have hw := ((HS9.out.mem.w.setNe z1 (i := 0) (v := .slice wa2 M2.W.length wc2)).setNe z1 (i := 1) (v := .slice la2 M2.L.length lc2)).setNe z1 (i := 2) (v := .bool M2.F)
          have hl := ((HS9.out.mem.l.setNe z2 (i := 0) (v := .slice wa2 M2.W.length wc2)).setNe z2 (i := 1) (v := .slice la2 M2.L.length lc2)).setNe z2 (i := 2) (v := .bool M2.F)
          exact ⟨(((((((hw.setNe z3).setNe z3).setNe z3).setNe z3).setNe z3).setNe z3).setNe z3).setNe z3, (((((((hl.setNe z4).setNe z4).setNe z4).setNe z4).setNe z4).setNe z4).setNe z4).setNe z4⟩)
        have HV6 := hid hV6
        have HV7 := hid hV7
        have hZG : Z ≠ G := by have := HS9.out.ord; omega
        have hGZ : G ≠ Z := Ne.symm hZG
        clear hV6 hV7 a1 a2 a3 a4 k6 k7 a5
        obtain ⟨z0, z1, z2⟩ := cells3 HS9.out.bz
        have zf0 := free_laid (i := 0) HS9.out.bz
        have zf1 := free_laid (i := 1) HS9.out.bz
        have zf2 := free_laid (i := 2) HS9.out.bz
        have g0 := cell_laid (i := 0) HG6.out rfl
        have gf0 := free_laid (i := 0) HG6.out
        have g1 := cell_laid (i := 1) HG6.out rfl
        have gf1 := free_laid (i := 1) HG6.out
        have g2 := cell_laid (i := 2) HG6.out rfl
        have gf2 := free_laid (i := 2) HG6.out
        have g3 := cell_laid (i := 3) HG6.out rfl
        have gf3 := free_laid (i := 3) HG6.out
        have g4 := cell_laid (i := 4) HG6.out rfl
        have gf4 := free_laid (i := 4) HG6.out
        have g5 := cell_laid (i := 5) HG6.out rfl
        have gf5 := free_laid (i := 5) HG6.out
        have g6 := cell_laid (i := 6) HG6.out rfl
        have gf6 := free_laid (i := 6) HG6.out
        have g7 := cell_laid (i := 7) HG6.out rfl
        have gf7 := free_laid (i := 7) HG6.out
        haveI : Nonempty (RXY X Y #[.slice wa2 M2.W.length wc2, .slice la2 M2.L.length lc2, .bool M2.F] (ed8 ⟨10, cuts, head, pl, key, val, prev, next⟩)) := ⟨⟨D9, HS9.out.bx, HS9.out.by_⟩⟩
        have q0 : ∀ z : RXY X Y #[.slice wa2 M2.W.length wc2, .slice la2 M2.L.length lc2, .bool M2.F] (ed8 ⟨10, cuts, head, pl, key, val, prev, next⟩), z.w.cell? ⟨X, 0, none⟩ = some (.slice wa2 M2.W.length wc2) := fun z => cell_laid z.bx rfl
        have q1 : ∀ z : RXY X Y #[.slice wa2 M2.W.length wc2, .slice la2 M2.L.length lc2, .bool M2.F] (ed8 ⟨10, cuts, head, pl, key, val, prev, next⟩), z.w.cell? ⟨X, 1, none⟩ = some (.slice la2 M2.L.length lc2) := fun z => cell_laid z.bx rfl
        have q2 : ∀ z : RXY X Y #[.slice wa2 M2.W.length wc2, .slice la2 M2.L.length lc2, .bool M2.F] (ed8 ⟨10, cuts, head, pl, key, val, prev, next⟩), z.w.cell? ⟨X, 2, none⟩ = some (.bool M2.F) := fun z => cell_laid z.bx rfl
        have p0 : ∀ z : RXY X Y #[.slice wa2 M2.W.length wc2, .slice la2 M2.L.length lc2, .bool M2.F] (ed8 ⟨10, cuts, head, pl, key, val, prev, next⟩), z.w.cell? ⟨Y, 0, none⟩ = some (.int .i64 10) := fun z => cell_laid z.by_ rfl
        have p1 : ∀ z : RXY X Y #[.slice wa2 M2.W.length wc2, .slice la2 M2.L.length lc2, .bool M2.F] (ed8 ⟨10, cuts, head, pl, key, val, prev, next⟩), z.w.cell? ⟨Y, 1, none⟩ = some (.bool cuts) := fun z => cell_laid z.by_ rfl
        have p2 : ∀ z : RXY X Y #[.slice wa2 M2.W.length wc2, .slice la2 M2.L.length lc2, .bool M2.F] (ed8 ⟨10, cuts, head, pl, key, val, prev, next⟩), z.w.cell? ⟨Y, 2, none⟩ = some (.int .u64 ((head : Nat) : Int)) := fun z => cell_laid z.by_ rfl
        have p3 : ∀ z : RXY X Y #[.slice wa2 M2.W.length wc2, .slice la2 M2.L.length lc2, .bool M2.F] (ed8 ⟨10, cuts, head, pl, key, val, prev, next⟩), z.w.cell? ⟨Y, 3, none⟩ = some (.int .u64 ((pl : Nat) : Int)) := fun z => cell_laid z.by_ rfl
        have p4 : ∀ z : RXY X Y #[.slice wa2 M2.W.length wc2, .slice la2 M2.L.length lc2, .bool M2.F] (ed8 ⟨10, cuts, head, pl, key, val, prev, next⟩), z.w.cell? ⟨Y, 4, none⟩ = some (.int .u64 ((key : Nat) : Int)) := fun z => cell_laid z.by_ rfl
        have p5 : ∀ z : RXY X Y #[.slice wa2 M2.W.length wc2, .slice la2 M2.L.length lc2, .bool M2.F] (ed8 ⟨10, cuts, head, pl, key, val, prev, next⟩), z.w.cell? ⟨Y, 5, none⟩ = some (.int .u64 ((val : Nat) : Int)) := fun z => cell_laid z.by_ rfl
        have p6 : ∀ z : RXY X Y #[.slice wa2 M2.W.length wc2, .slice la2 M2.L.length lc2, .bool M2.F] (ed8 ⟨10, cuts, head, pl, key, val, prev, next⟩), z.w.cell? ⟨Y, 6, none⟩ = some (.int .u64 ((prev : Nat) : Int)) := fun z => cell_laid z.by_ rfl
        have p7 : ∀ z : RXY X Y #[.slice wa2 M2.W.length wc2, .slice la2 M2.L.length lc2, .bool M2.F] (ed8 ⟨10, cuts, head, pl, key, val, prev, next⟩), z.w.cell? ⟨Y, 7, none⟩ = some (.int .u64 ((next : Nat) : Int)) := fun z => cell_laid z.by_ rfl
        refine wp_region_mix2 (fun W => ∃ z : RXY X Y #[.slice wa2 M2.W.length wc2, .slice la2 M2.L.length lc2, .bool M2.F] (ed8 ⟨10, cuts, head, pl, key, val, prev, next⟩), W = z.w) 4 (.q 0 (.q 1 (.h 2 (.h 3 .done)))) (by kernel_rfl) (by kernel_rfl) (by rw [HD9.out]; exact ⟨⟨D9, HS9.out.bx, HS9.out.by_⟩, rfl⟩) ?_
        rw [HD9.out]
        repeat (refine wpMix2_q rfl rfl ?_; go_big_quiet_step (fail); refine wpQuiet_nil ?_)
        refine wpMix2_h rfl fun R' hR' hO => ?_
        go_wp2
        rw [← HV6.out]
        refine hR' _ _ ⟨⟨V6, HX6.out, HY6.out⟩, rfl⟩ ?_
        clear hR' hO R'
        refine wpMix2_h rfl fun R' hR' hO => ?_
        go_wp2
        rw [← HV7.out]
        refine hR' _ _ ⟨⟨V7, HX7.out, HY7.out⟩, rfl⟩ ?_
        clear hR' hO R'
        refine wpMix2_done ?_
        simp only [List.drop_succ_cons, List.drop_zero]
        go_wp2
        refine bodyPost_ret (rstep_result A3.out A4.out rfl rfl) rfl ?_
        rw [HR.out]
        exact ⟨_, _, _, _, rfl, HM7.out, HB7.out, HKA.out.1, HKA.out.2⟩
      case' true =>
        have hix := nextArr_at k hk9
        obtain ⟨NP, hNP⟩ : ∃ x, nextPh k true = x := ⟨_, rfl⟩
        rw [hNP] at hix
        by_cases hk2 : k = 2
        · skip
          have t2 : (((k : Nat) : Int) == 2) = true := by simp; omega
          have t5 : (((k : Nat) : Int) == 5) = false := by simp; omega
          have t6 : (((k : Nat) : Int) == 6) = false := by simp; omega
          have HR : Hid (stepE M ⟨((k : Nat) : Int), cuts, head, pl, key, val, prev, next⟩ = (M2, ⟨NP, cuts, head, pl, key, val, prev, x⟩)) := hid (by rw [HR0.out]; rw [hNP]; subst hk2; rfl)
          obtain ⟨W11, hW11⟩ : ∃ W, (W9.setCell ⟨Y, 7, none⟩ (.int .u64 ((x : Nat) : Int))).setCell ⟨Y, 0, none⟩ (.int .i64 NP) = W := ⟨_, rfl⟩
          have HS11 : Hid (Sx V X Y Z G wa2 wc2 la2 lc2 M2 ⟨NP, cuts, head, pl, key, val, prev, x⟩ W11) := hid (by rw [← hW11]; exact (HS.out.setY (s' := ⟨((k : Nat) : Int), cuts, head, pl, key, val, prev, x⟩) rfl).setY rfl)
          have HW11 := hid hW11
          clear hW11 HR0
          try clear hk2
          go_upto_region 14 with (fail)
          rw [HW11.out]
          obtain ⟨D9, hD9⟩ : ∃ DX, (W11).drew = DX := ⟨_, rfl⟩
          have HS9 := hid (HS11.out.grow (Below.refl _ _).drew)
          rw [hD9] at HS9
          have HD9 := hid hD9
          clear hD9
          obtain ⟨V6, V7, hV6, hV7, a1, a2, a3, a4, k6, k7, a5, -⟩ := put_me HS9.out.bz HS9.out.bg (by have := HS9.out.ord; omega) (.slice wa2 M2.W.length wc2) (.slice la2 M2.L.length lc2) (.bool M2.F) (.int .i64 NP) (.bool cuts) (.int .u64 ((head : Nat) : Int)) (.int .u64 ((pl : Nat) : Int)) (.int .u64 ((key : Nat) : Int)) (.int .u64 ((val : Nat) : Int)) (.int .u64 ((prev : Nat) : Int)) (.int .u64 ((x : Nat) : Int))
          have A3 := hid a3
          have A4 := hid a4
          have HG6 := hid a2
          have HB7 := hid (a5 V.heap.size V (by have := HS9.out.ord; omega) (by have := HS9.out.ord; omega) HS9.out.below)
          have HX6 := hid (k6 X _ (by have := HS9.out.ord; omega) HS9.out.bx)
          have HY6 := hid (k6 Y _ (by have := HS9.out.ord; omega) HS9.out.by_)
          have HX7 := hid (k7 X _ (by have := HS9.out.ord; omega) (by have := HS9.out.ord; omega) HS9.out.bx)
          have HY7 := hid (k7 Y _ (by have := HS9.out.ord; omega) (by have := HS9.out.ord; omega) HS9.out.by_)
          have HM7 : Hid (MemL V7 wa2 wc2 la2 lc2 M2) := hid (by
            have hz : apartA wa2 Z ∧ apartA la2 Z ∧ apartA wa2 G ∧ apartA la2 G := by have := HS9.out.ord; exact ⟨HS9.out.aw.apart (by omega) (by omega), HS9.out.al.apart (by omega) (by omega), HS9.out.aw.apart (by omega) (by omega), HS9.out.al.apart (by omega) (by omega)⟩
            obtain ⟨z1, z2, z3, z4⟩ := hz
            rw [hV7, hV6]
            have hw := ((HS9.out.mem.w.setNe z1 (i := 0) (v := .slice wa2 M2.W.length wc2)).setNe z1 (i := 1) (v := .slice la2 M2.L.length lc2)).setNe z1 (i := 2) (v := .bool M2.F)
            have hl := ((HS9.out.mem.l.setNe z2 (i := 0) (v := .slice wa2 M2.W.length wc2)).setNe z2 (i := 1) (v := .slice la2 M2.L.length lc2)).setNe z2 (i := 2) (v := .bool M2.F)
            exact ⟨(((((((hw.setNe z3).setNe z3).setNe z3).setNe z3).setNe z3).setNe z3).setNe z3).setNe z3, (((((((hl.setNe z4).setNe z4).setNe z4).setNe z4).setNe z4).setNe z4).setNe z4).setNe z4⟩)
          have HV6 := hid hV6
          have HV7 := hid hV7
          have hZG : Z ≠ G := by have := HS9.out.ord; omega
          have hGZ : G ≠ Z := Ne.symm hZG
          clear hV6 hV7 a1 a2 a3 a4 k6 k7 a5
          obtain ⟨z0, z1, z2⟩ := cells3 HS9.out.bz
          have zf0 := free_laid (i := 0) HS9.out.bz
          have zf1 := free_laid (i := 1) HS9.out.bz
          have zf2 := free_laid (i := 2) HS9.out.bz
          have g0 := cell_laid (i := 0) HG6.out rfl
          have gf0 := free_laid (i := 0) HG6.out
          have g1 := cell_laid (i := 1) HG6.out rfl
          have gf1 := free_laid (i := 1) HG6.out
          have g2 := cell_laid (i := 2) HG6.out rfl
          have gf2 := free_laid (i := 2) HG6.out
          have g3 := cell_laid (i := 3) HG6.out rfl
          have gf3 := free_laid (i := 3) HG6.out
          have g4 := cell_laid (i := 4) HG6.out rfl
          have gf4 := free_laid (i := 4) HG6.out
          have g5 := cell_laid (i := 5) HG6.out rfl
          have gf5 := free_laid (i := 5) HG6.out
          have g6 := cell_laid (i := 6) HG6.out rfl
          have gf6 := free_laid (i := 6) HG6.out
          have g7 := cell_laid (i := 7) HG6.out rfl
          have gf7 := free_laid (i := 7) HG6.out
          haveI : Nonempty (RXY X Y #[.slice wa2 M2.W.length wc2, .slice la2 M2.L.length lc2, .bool M2.F] (ed8 ⟨NP, cuts, head, pl, key, val, prev, x⟩)) := ⟨⟨D9, HS9.out.bx, HS9.out.by_⟩⟩
          have q0 : ∀ z : RXY X Y #[.slice wa2 M2.W.length wc2, .slice la2 M2.L.length lc2, .bool M2.F] (ed8 ⟨NP, cuts, head, pl, key, val, prev, x⟩), z.w.cell? ⟨X, 0, none⟩ = some (.slice wa2 M2.W.length wc2) := fun z => cell_laid z.bx rfl
          have q1 : ∀ z : RXY X Y #[.slice wa2 M2.W.length wc2, .slice la2 M2.L.length lc2, .bool M2.F] (ed8 ⟨NP, cuts, head, pl, key, val, prev, x⟩), z.w.cell? ⟨X, 1, none⟩ = some (.slice la2 M2.L.length lc2) := fun z => cell_laid z.bx rfl
          have q2 : ∀ z : RXY X Y #[.slice wa2 M2.W.length wc2, .slice la2 M2.L.length lc2, .bool M2.F] (ed8 ⟨NP, cuts, head, pl, key, val, prev, x⟩), z.w.cell? ⟨X, 2, none⟩ = some (.bool M2.F) := fun z => cell_laid z.bx rfl
          have p0 : ∀ z : RXY X Y #[.slice wa2 M2.W.length wc2, .slice la2 M2.L.length lc2, .bool M2.F] (ed8 ⟨NP, cuts, head, pl, key, val, prev, x⟩), z.w.cell? ⟨Y, 0, none⟩ = some (.int .i64 NP) := fun z => cell_laid z.by_ rfl
          have p1 : ∀ z : RXY X Y #[.slice wa2 M2.W.length wc2, .slice la2 M2.L.length lc2, .bool M2.F] (ed8 ⟨NP, cuts, head, pl, key, val, prev, x⟩), z.w.cell? ⟨Y, 1, none⟩ = some (.bool cuts) := fun z => cell_laid z.by_ rfl
          have p2 : ∀ z : RXY X Y #[.slice wa2 M2.W.length wc2, .slice la2 M2.L.length lc2, .bool M2.F] (ed8 ⟨NP, cuts, head, pl, key, val, prev, x⟩), z.w.cell? ⟨Y, 2, none⟩ = some (.int .u64 ((head : Nat) : Int)) := fun z => cell_laid z.by_ rfl
          have p3 : ∀ z : RXY X Y #[.slice wa2 M2.W.length wc2, .slice la2 M2.L.length lc2, .bool M2.F] (ed8 ⟨NP, cuts, head, pl, key, val, prev, x⟩), z.w.cell? ⟨Y, 3, none⟩ = some (.int .u64 ((pl : Nat) : Int)) := fun z => cell_laid z.by_ rfl
          have p4 : ∀ z : RXY X Y #[.slice wa2 M2.W.length wc2, .slice la2 M2.L.length lc2, .bool M2.F] (ed8 ⟨NP, cuts, head, pl, key, val, prev, x⟩), z.w.cell? ⟨Y, 4, none⟩ = some (.int .u64 ((key : Nat) : Int)) := fun z => cell_laid z.by_ rfl
          have p5 : ∀ z : RXY X Y #[.slice wa2 M2.W.length wc2, .slice la2 M2.L.length lc2, .bool M2.F] (ed8 ⟨NP, cuts, head, pl, key, val, prev, x⟩), z.w.cell? ⟨Y, 5, none⟩ = some (.int .u64 ((val : Nat) : Int)) := fun z => cell_laid z.by_ rfl
          have p6 : ∀ z : RXY X Y #[.slice wa2 M2.W.length wc2, .slice la2 M2.L.length lc2, .bool M2.F] (ed8 ⟨NP, cuts, head, pl, key, val, prev, x⟩), z.w.cell? ⟨Y, 6, none⟩ = some (.int .u64 ((prev : Nat) : Int)) := fun z => cell_laid z.by_ rfl
          have p7 : ∀ z : RXY X Y #[.slice wa2 M2.W.length wc2, .slice la2 M2.L.length lc2, .bool M2.F] (ed8 ⟨NP, cuts, head, pl, key, val, prev, x⟩), z.w.cell? ⟨Y, 7, none⟩ = some (.int .u64 ((x : Nat) : Int)) := fun z => cell_laid z.by_ rfl
          refine wp_region_mix2 (fun W => ∃ z : RXY X Y #[.slice wa2 M2.W.length wc2, .slice la2 M2.L.length lc2, .bool M2.F] (ed8 ⟨NP, cuts, head, pl, key, val, prev, x⟩), W = z.w) 4 (.q 0 (.q 1 (.h 2 (.h 3 .done)))) (by kernel_rfl) (by kernel_rfl) (by rw [HD9.out]; exact ⟨⟨D9, HS9.out.bx, HS9.out.by_⟩, rfl⟩) ?_
          rw [HD9.out]
          repeat (refine wpMix2_q rfl rfl ?_; go_big_quiet_step (fail); refine wpQuiet_nil ?_)
          refine wpMix2_h rfl fun R' hR' hO => ?_
          go_wp2
          rw [← HV6.out]
          refine hR' _ _ ⟨⟨V6, HX6.out, HY6.out⟩, rfl⟩ ?_
          clear hR' hO R'
          refine wpMix2_h rfl fun R' hR' hO => ?_
          go_wp2
          rw [← HV7.out]
          refine hR' _ _ ⟨⟨V7, HX7.out, HY7.out⟩, rfl⟩ ?_
          clear hR' hO R'
          refine wpMix2_done ?_
          simp only [List.drop_succ_cons, List.drop_zero]
          go_wp2
          refine bodyPost_ret (rstep_result A3.out A4.out rfl rfl) rfl ?_
          rw [HR.out]
          exact ⟨_, _, _, _, rfl, HM7.out, HB7.out, HKA.out.1, HKA.out.2⟩
        · by_cases hk2b : k = 5
          · clear hk2
            have hk2 := hk2b
            clear hk2b
            have t2 : (((k : Nat) : Int) == 2) = false := by simp; omega
            have t5 : (((k : Nat) : Int) == 5) = true := by simp; omega
            have t6 : (((k : Nat) : Int) == 6) = false := by simp; omega
            have HR : Hid (stepE M ⟨((k : Nat) : Int), cuts, head, pl, key, val, prev, next⟩ = (M2, ⟨NP, cuts, head, pl, key, val, prev, x⟩)) := hid (by rw [HR0.out]; rw [hNP]; subst hk2; rfl)
            obtain ⟨W11, hW11⟩ : ∃ W, (W9.setCell ⟨Y, 7, none⟩ (.int .u64 ((x : Nat) : Int))).setCell ⟨Y, 0, none⟩ (.int .i64 NP) = W := ⟨_, rfl⟩
            have HS11 : Hid (Sx V X Y Z G wa2 wc2 la2 lc2 M2 ⟨NP, cuts, head, pl, key, val, prev, x⟩ W11) := hid (by rw [← hW11]; exact (HS.out.setY (s' := ⟨((k : Nat) : Int), cuts, head, pl, key, val, prev, x⟩) rfl).setY rfl)
            have HW11 := hid hW11
            clear hW11 HR0
            try clear hk2
            go_upto_region 14 with (fail)
            rw [HW11.out]
            obtain ⟨D9, hD9⟩ : ∃ DX, (W11).drew = DX := ⟨_, rfl⟩
            have HS9 := hid (HS11.out.grow (Below.refl _ _).drew)
            rw [hD9] at HS9
            have HD9 := hid hD9
            clear hD9
            obtain ⟨V6, V7, hV6, hV7, a1, a2, a3, a4, k6, k7, a5, -⟩ := put_me HS9.out.bz HS9.out.bg (by have := HS9.out.ord; omega) (.slice wa2 M2.W.length wc2) (.slice la2 M2.L.length lc2) (.bool M2.F) (.int .i64 NP) (.bool cuts) (.int .u64 ((head : Nat) : Int)) (.int .u64 ((pl : Nat) : Int)) (.int .u64 ((key : Nat) : Int)) (.int .u64 ((val : Nat) : Int)) (.int .u64 ((prev : Nat) : Int)) (.int .u64 ((x : Nat) : Int))
            have A3 := hid a3
            have A4 := hid a4
            have HG6 := hid a2
            have HB7 := hid (a5 V.heap.size V (by have := HS9.out.ord; omega) (by have := HS9.out.ord; omega) HS9.out.below)
            have HX6 := hid (k6 X _ (by have := HS9.out.ord; omega) HS9.out.bx)
            have HY6 := hid (k6 Y _ (by have := HS9.out.ord; omega) HS9.out.by_)
            have HX7 := hid (k7 X _ (by have := HS9.out.ord; omega) (by have := HS9.out.ord; omega) HS9.out.bx)
            have HY7 := hid (k7 Y _ (by have := HS9.out.ord; omega) (by have := HS9.out.ord; omega) HS9.out.by_)
            have HM7 : Hid (MemL V7 wa2 wc2 la2 lc2 M2) := hid (by
              have hz : apartA wa2 Z ∧ apartA la2 Z ∧ apartA wa2 G ∧ apartA la2 G := by have := HS9.out.ord; exact ⟨HS9.out.aw.apart (by omega) (by omega), HS9.out.al.apart (by omega) (by omega), HS9.out.aw.apart (by omega) (by omega), HS9.out.al.apart (by omega) (by omega)⟩
              obtain ⟨z1, z2, z3, z4⟩ := hz
              rw [hV7, hV6]
              have hw := ((HS9.out.mem.w.setNe z1 (i := 0) (v := .slice wa2 M2.W.length wc2)).setNe z1 (i := 1) (v := .slice la2 M2.L.length lc2)).setNe z1 (i := 2) (v := .bool M2.F)
              have hl := ((HS9.out.mem.l.setNe z2 (i := 0) (v := .slice wa2 M2.W.length wc2)).setNe z2 (i := 1) (v := .slice la2 M2.L.length lc2)).setNe z2 (i := 2) (v := .bool M2.F)
              exact ⟨(((((((hw.setNe z3).setNe z3).setNe z3).setNe z3).setNe z3).setNe z3).setNe z3).setNe z3, (((((((hl.setNe z4).setNe z4).setNe z4).setNe z4).setNe z4).setNe z4).setNe z4).setNe z4⟩)
            have HV6 := hid hV6
            have HV7 := hid hV7
            have hZG : Z ≠ G := by have := HS9.out.ord; omega
            have hGZ : G ≠ Z := Ne.symm hZG
            clear hV6 hV7 a1 a2 a3 a4 k6 k7 a5
            obtain ⟨z0, z1, z2⟩ := cells3 HS9.out.bz
            have zf0 := free_laid (i := 0) HS9.out.bz
            have zf1 := free_laid (i := 1) HS9.out.bz
            have zf2 := free_laid (i := 2) HS9.out.bz
            have g0 := cell_laid (i := 0) HG6.out rfl
            have gf0 := free_laid (i := 0) HG6.out
            have g1 := cell_laid (i := 1) HG6.out rfl
            have gf1 := free_laid (i := 1) HG6.out
            have g2 := cell_laid (i := 2) HG6.out rfl
            have gf2 := free_laid (i := 2) HG6.out
            have g3 := cell_laid (i := 3) HG6.out rfl
            have gf3 := free_laid (i := 3) HG6.out
            have g4 := cell_laid (i := 4) HG6.out rfl
            have gf4 := free_laid (i := 4) HG6.out
            have g5 := cell_laid (i := 5) HG6.out rfl
            have gf5 := free_laid (i := 5) HG6.out
            have g6 := cell_laid (i := 6) HG6.out rfl
            have gf6 := free_laid (i := 6) HG6.out
            have g7 := cell_laid (i := 7) HG6.out rfl
            have gf7 := free_laid (i := 7) HG6.out
            haveI : Nonempty (RXY X Y #[.slice wa2 M2.W.length wc2, .slice la2 M2.L.length lc2, .bool M2.F] (ed8 ⟨NP, cuts, head, pl, key, val, prev, x⟩)) := ⟨⟨D9, HS9.out.bx, HS9.out.by_⟩⟩
            have q0 : ∀ z : RXY X Y #[.slice wa2 M2.W.length wc2, .slice la2 M2.L.length lc2, .bool M2.F] (ed8 ⟨NP, cuts, head, pl, key, val, prev, x⟩), z.w.cell? ⟨X, 0, none⟩ = some (.slice wa2 M2.W.length wc2) := fun z => cell_laid z.bx rfl
            have q1 : ∀ z : RXY X Y #[.slice wa2 M2.W.length wc2, .slice la2 M2.L.length lc2, .bool M2.F] (ed8 ⟨NP, cuts, head, pl, key, val, prev, x⟩), z.w.cell? ⟨X, 1, none⟩ = some (.slice la2 M2.L.length lc2) := fun z => cell_laid z.bx rfl
            have q2 : ∀ z : RXY X Y #[.slice wa2 M2.W.length wc2, .slice la2 M2.L.length lc2, .bool M2.F] (ed8 ⟨NP, cuts, head, pl, key, val, prev, x⟩), z.w.cell? ⟨X, 2, none⟩ = some (.bool M2.F) := fun z => cell_laid z.bx rfl
            have p0 : ∀ z : RXY X Y #[.slice wa2 M2.W.length wc2, .slice la2 M2.L.length lc2, .bool M2.F] (ed8 ⟨NP, cuts, head, pl, key, val, prev, x⟩), z.w.cell? ⟨Y, 0, none⟩ = some (.int .i64 NP) := fun z => cell_laid z.by_ rfl
            have p1 : ∀ z : RXY X Y #[.slice wa2 M2.W.length wc2, .slice la2 M2.L.length lc2, .bool M2.F] (ed8 ⟨NP, cuts, head, pl, key, val, prev, x⟩), z.w.cell? ⟨Y, 1, none⟩ = some (.bool cuts) := fun z => cell_laid z.by_ rfl
            have p2 : ∀ z : RXY X Y #[.slice wa2 M2.W.length wc2, .slice la2 M2.L.length lc2, .bool M2.F] (ed8 ⟨NP, cuts, head, pl, key, val, prev, x⟩), z.w.cell? ⟨Y, 2, none⟩ = some (.int .u64 ((head : Nat) : Int)) := fun z => cell_laid z.by_ rfl
            have p3 : ∀ z : RXY X Y #[.slice wa2 M2.W.length wc2, .slice la2 M2.L.length lc2, .bool M2.F] (ed8 ⟨NP, cuts, head, pl, key, val, prev, x⟩), z.w.cell? ⟨Y, 3, none⟩ = some (.int .u64 ((pl : Nat) : Int)) := fun z => cell_laid z.by_ rfl
            have p4 : ∀ z : RXY X Y #[.slice wa2 M2.W.length wc2, .slice la2 M2.L.length lc2, .bool M2.F] (ed8 ⟨NP, cuts, head, pl, key, val, prev, x⟩), z.w.cell? ⟨Y, 4, none⟩ = some (.int .u64 ((key : Nat) : Int)) := fun z => cell_laid z.by_ rfl
            have p5 : ∀ z : RXY X Y #[.slice wa2 M2.W.length wc2, .slice la2 M2.L.length lc2, .bool M2.F] (ed8 ⟨NP, cuts, head, pl, key, val, prev, x⟩), z.w.cell? ⟨Y, 5, none⟩ = some (.int .u64 ((val : Nat) : Int)) := fun z => cell_laid z.by_ rfl
            have p6 : ∀ z : RXY X Y #[.slice wa2 M2.W.length wc2, .slice la2 M2.L.length lc2, .bool M2.F] (ed8 ⟨NP, cuts, head, pl, key, val, prev, x⟩), z.w.cell? ⟨Y, 6, none⟩ = some (.int .u64 ((prev : Nat) : Int)) := fun z => cell_laid z.by_ rfl
            have p7 : ∀ z : RXY X Y #[.slice wa2 M2.W.length wc2, .slice la2 M2.L.length lc2, .bool M2.F] (ed8 ⟨NP, cuts, head, pl, key, val, prev, x⟩), z.w.cell? ⟨Y, 7, none⟩ = some (.int .u64 ((x : Nat) : Int)) := fun z => cell_laid z.by_ rfl
            refine wp_region_mix2 (fun W => ∃ z : RXY X Y #[.slice wa2 M2.W.length wc2, .slice la2 M2.L.length lc2, .bool M2.F] (ed8 ⟨NP, cuts, head, pl, key, val, prev, x⟩), W = z.w) 4 (.q 0 (.q 1 (.h 2 (.h 3 .done)))) (by kernel_rfl) (by kernel_rfl) (by rw [HD9.out]; exact ⟨⟨D9, HS9.out.bx, HS9.out.by_⟩, rfl⟩) ?_
            rw [HD9.out]
            repeat (refine wpMix2_q rfl rfl ?_; go_big_quiet_step (fail); refine wpQuiet_nil ?_)
            refine wpMix2_h rfl fun R' hR' hO => ?_
            go_wp2
            rw [← HV6.out]
            refine hR' _ _ ⟨⟨V6, HX6.out, HY6.out⟩, rfl⟩ ?_
            clear hR' hO R'
            refine wpMix2_h rfl fun R' hR' hO => ?_
            go_wp2
            rw [← HV7.out]
            refine hR' _ _ ⟨⟨V7, HX7.out, HY7.out⟩, rfl⟩ ?_
            clear hR' hO R'
            refine wpMix2_done ?_
            simp only [List.drop_succ_cons, List.drop_zero]
            go_wp2
            refine bodyPost_ret (rstep_result A3.out A4.out rfl rfl) rfl ?_
            rw [HR.out]
            exact ⟨_, _, _, _, rfl, HM7.out, HB7.out, HKA.out.1, HKA.out.2⟩
          · by_cases hk2c : k = 6
            · clear hk2 hk2b
              have hk2 := hk2c
              clear hk2c
              have t2 : (((k : Nat) : Int) == 2) = false := by simp; omega
              have t5 : (((k : Nat) : Int) == 5) = false := by simp; omega
              have t6 : (((k : Nat) : Int) == 6) = true := by simp; omega
              have HR : Hid (stepE M ⟨((k : Nat) : Int), cuts, head, pl, key, val, prev, next⟩ = (M2, ⟨NP, cuts, head, pl, key, val, x, next⟩)) := hid (by rw [HR0.out]; rw [hNP]; subst hk2; rfl)
              obtain ⟨W11, hW11⟩ : ∃ W, (W9.setCell ⟨Y, 6, none⟩ (.int .u64 ((x : Nat) : Int))).setCell ⟨Y, 0, none⟩ (.int .i64 NP) = W := ⟨_, rfl⟩
              have HS11 : Hid (Sx V X Y Z G wa2 wc2 la2 lc2 M2 ⟨NP, cuts, head, pl, key, val, x, next⟩ W11) := hid (by rw [← hW11]; exact (HS.out.setY (s' := ⟨((k : Nat) : Int), cuts, head, pl, key, val, x, next⟩) rfl).setY rfl)
              have HW11 := hid hW11
              clear hW11 HR0
              try clear hk2
              go_upto_region 14 with (fail)
              rw [HW11.out]
              obtain ⟨D9, hD9⟩ : ∃ DX, (W11).drew = DX := ⟨_, rfl⟩
              have HS9 := hid (HS11.out.grow (Below.refl _ _).drew)
              rw [hD9] at HS9
              have HD9 := hid hD9
              clear hD9
              obtain ⟨V6, V7, hV6, hV7, a1, a2, a3, a4, k6, k7, a5, -⟩ := put_me HS9.out.bz HS9.out.bg (by have := HS9.out.ord; omega) (.slice wa2 M2.W.length wc2) (.slice la2 M2.L.length lc2) (.bool M2.F) (.int .i64 NP) (.bool cuts) (.int .u64 ((head : Nat) : Int)) (.int .u64 ((pl : Nat) : Int)) (.int .u64 ((key : Nat) : Int)) (.int .u64 ((val : Nat) : Int)) (.int .u64 ((x : Nat) : Int)) (.int .u64 ((next : Nat) : Int))
              have A3 := hid a3
              have A4 := hid a4
              have HG6 := hid a2
              have HB7 := hid (a5 V.heap.size V (by have := HS9.out.ord; omega) (by have := HS9.out.ord; omega) HS9.out.below)
              have HX6 := hid (k6 X _ (by have := HS9.out.ord; omega) HS9.out.bx)
              have HY6 := hid (k6 Y _ (by have := HS9.out.ord; omega) HS9.out.by_)
              have HX7 := hid (k7 X _ (by have := HS9.out.ord; omega) (by have := HS9.out.ord; omega) HS9.out.bx)
              have HY7 := hid (k7 Y _ (by have := HS9.out.ord; omega) (by have := HS9.out.ord; omega) HS9.out.by_)
              have HM7 : Hid (MemL V7 wa2 wc2 la2 lc2 M2) := hid (by
                have hz : apartA wa2 Z ∧ apartA la2 Z ∧ apartA wa2 G ∧ apartA la2 G := by have := HS9.out.ord; exact ⟨HS9.out.aw.apart (by omega) (by omega), HS9.out.al.apart (by omega) (by omega), HS9.out.aw.apart (by omega) (by omega), HS9.out.al.apart (by omega) (by omega)⟩
                obtain ⟨z1, z2, z3, z4⟩ := hz
                rw [hV7, hV6]
                have hw := ((HS9.out.mem.w.setNe z1 (i := 0) (v := .slice wa2 M2.W.length wc2)).setNe z1 (i := 1) (v := .slice la2 M2.L.length lc2)).setNe z1 (i := 2) (v := .bool M2.F)
                have hl := ((HS9.out.mem.l.setNe z2 (i := 0) (v := .slice wa2 M2.W.length wc2)).setNe z2 (i := 1) (v := .slice la2 M2.L.length lc2)).setNe z2 (i := 2) (v := .bool M2.F)
                exact ⟨(((((((hw.setNe z3).setNe z3).setNe z3).setNe z3).setNe z3).setNe z3).setNe z3).setNe z3, (((((((hl.setNe z4).setNe z4).setNe z4).setNe z4).setNe z4).setNe z4).setNe z4).setNe z4⟩)
              have HV6 := hid hV6
              have HV7 := hid hV7
              have hZG : Z ≠ G := by have := HS9.out.ord; omega
              have hGZ : G ≠ Z := Ne.symm hZG
              clear hV6 hV7 a1 a2 a3 a4 k6 k7 a5
              obtain ⟨z0, z1, z2⟩ := cells3 HS9.out.bz
              have zf0 := free_laid (i := 0) HS9.out.bz
              have zf1 := free_laid (i := 1) HS9.out.bz
              have zf2 := free_laid (i := 2) HS9.out.bz
              have g0 := cell_laid (i := 0) HG6.out rfl
              have gf0 := free_laid (i := 0) HG6.out
              have g1 := cell_laid (i := 1) HG6.out rfl
              have gf1 := free_laid (i := 1) HG6.out
              have g2 := cell_laid (i := 2) HG6.out rfl
              have gf2 := free_laid (i := 2) HG6.out
              have g3 := cell_laid (i := 3) HG6.out rfl
              have gf3 := free_laid (i := 3) HG6.out
              have g4 := cell_laid (i := 4) HG6.out rfl
              have gf4 := free_laid (i := 4) HG6.out
              have g5 := cell_laid (i := 5) HG6.out rfl
              have gf5 := free_laid (i := 5) HG6.out
              have g6 := cell_laid (i := 6) HG6.out rfl
              have gf6 := free_laid (i := 6) HG6.out
              have g7 := cell_laid (i := 7) HG6.out rfl
              have gf7 := free_laid (i := 7) HG6.out
              haveI : Nonempty (RXY X Y #[.slice wa2 M2.W.length wc2, .slice la2 M2.L.length lc2, .bool M2.F] (ed8 ⟨NP, cuts, head, pl, key, val, x, next⟩)) := ⟨⟨D9, HS9.out.bx, HS9.out.by_⟩⟩
              have q0 : ∀ z : RXY X Y #[.slice wa2 M2.W.length wc2, .slice la2 M2.L.length lc2, .bool M2.F] (ed8 ⟨NP, cuts, head, pl, key, val, x, next⟩), z.w.cell? ⟨X, 0, none⟩ = some (.slice wa2 M2.W.length wc2) := fun z => cell_laid z.bx rfl
              have q1 : ∀ z : RXY X Y #[.slice wa2 M2.W.length wc2, .slice la2 M2.L.length lc2, .bool M2.F] (ed8 ⟨NP, cuts, head, pl, key, val, x, next⟩), z.w.cell? ⟨X, 1, none⟩ = some (.slice la2 M2.L.length lc2) := fun z => cell_laid z.bx rfl
              have q2 : ∀ z : RXY X Y #[.slice wa2 M2.W.length wc2, .slice la2 M2.L.length lc2, .bool M2.F] (ed8 ⟨NP, cuts, head, pl, key, val, x, next⟩), z.w.cell? ⟨X, 2, none⟩ = some (.bool M2.F) := fun z => cell_laid z.bx rfl
              have p0 : ∀ z : RXY X Y #[.slice wa2 M2.W.length wc2, .slice la2 M2.L.length lc2, .bool M2.F] (ed8 ⟨NP, cuts, head, pl, key, val, x, next⟩), z.w.cell? ⟨Y, 0, none⟩ = some (.int .i64 NP) := fun z => cell_laid z.by_ rfl
              have p1 : ∀ z : RXY X Y #[.slice wa2 M2.W.length wc2, .slice la2 M2.L.length lc2, .bool M2.F] (ed8 ⟨NP, cuts, head, pl, key, val, x, next⟩), z.w.cell? ⟨Y, 1, none⟩ = some (.bool cuts) := fun z => cell_laid z.by_ rfl
              have p2 : ∀ z : RXY X Y #[.slice wa2 M2.W.length wc2, .slice la2 M2.L.length lc2, .bool M2.F] (ed8 ⟨NP, cuts, head, pl, key, val, x, next⟩), z.w.cell? ⟨Y, 2, none⟩ = some (.int .u64 ((head : Nat) : Int)) := fun z => cell_laid z.by_ rfl
              have p3 : ∀ z : RXY X Y #[.slice wa2 M2.W.length wc2, .slice la2 M2.L.length lc2, .bool M2.F] (ed8 ⟨NP, cuts, head, pl, key, val, x, next⟩), z.w.cell? ⟨Y, 3, none⟩ = some (.int .u64 ((pl : Nat) : Int)) := fun z => cell_laid z.by_ rfl
              have p4 : ∀ z : RXY X Y #[.slice wa2 M2.W.length wc2, .slice la2 M2.L.length lc2, .bool M2.F] (ed8 ⟨NP, cuts, head, pl, key, val, x, next⟩), z.w.cell? ⟨Y, 4, none⟩ = some (.int .u64 ((key : Nat) : Int)) := fun z => cell_laid z.by_ rfl
              have p5 : ∀ z : RXY X Y #[.slice wa2 M2.W.length wc2, .slice la2 M2.L.length lc2, .bool M2.F] (ed8 ⟨NP, cuts, head, pl, key, val, x, next⟩), z.w.cell? ⟨Y, 5, none⟩ = some (.int .u64 ((val : Nat) : Int)) := fun z => cell_laid z.by_ rfl
              have p6 : ∀ z : RXY X Y #[.slice wa2 M2.W.length wc2, .slice la2 M2.L.length lc2, .bool M2.F] (ed8 ⟨NP, cuts, head, pl, key, val, x, next⟩), z.w.cell? ⟨Y, 6, none⟩ = some (.int .u64 ((x : Nat) : Int)) := fun z => cell_laid z.by_ rfl
              have p7 : ∀ z : RXY X Y #[.slice wa2 M2.W.length wc2, .slice la2 M2.L.length lc2, .bool M2.F] (ed8 ⟨NP, cuts, head, pl, key, val, x, next⟩), z.w.cell? ⟨Y, 7, none⟩ = some (.int .u64 ((next : Nat) : Int)) := fun z => cell_laid z.by_ rfl
              refine wp_region_mix2 (fun W => ∃ z : RXY X Y #[.slice wa2 M2.W.length wc2, .slice la2 M2.L.length lc2, .bool M2.F] (ed8 ⟨NP, cuts, head, pl, key, val, x, next⟩), W = z.w) 4 (.q 0 (.q 1 (.h 2 (.h 3 .done)))) (by kernel_rfl) (by kernel_rfl) (by rw [HD9.out]; exact ⟨⟨D9, HS9.out.bx, HS9.out.by_⟩, rfl⟩) ?_
              rw [HD9.out]
              repeat (refine wpMix2_q rfl rfl ?_; go_big_quiet_step (fail); refine wpQuiet_nil ?_)
              refine wpMix2_h rfl fun R' hR' hO => ?_
              go_wp2
              rw [← HV6.out]
              refine hR' _ _ ⟨⟨V6, HX6.out, HY6.out⟩, rfl⟩ ?_
              clear hR' hO R'
              refine wpMix2_h rfl fun R' hR' hO => ?_
              go_wp2
              rw [← HV7.out]
              refine hR' _ _ ⟨⟨V7, HX7.out, HY7.out⟩, rfl⟩ ?_
              clear hR' hO R'
              refine wpMix2_done ?_
              simp only [List.drop_succ_cons, List.drop_zero]
              go_wp2
              refine bodyPost_ret (rstep_result A3.out A4.out rfl rfl) rfl ?_
              rw [HR.out]
              exact ⟨_, _, _, _, rfl, HM7.out, HB7.out, HKA.out.1, HKA.out.2⟩
            · skip
              have t2 : (((k : Nat) : Int) == 2) = false := by simp; omega
              have t5 : (((k : Nat) : Int) == 5) = false := by simp; omega
              have t6 : (((k : Nat) : Int) == 6) = false := by simp; omega
              have HR : Hid (stepE M ⟨((k : Nat) : Int), cuts, head, pl, key, val, prev, next⟩ = (M2, ⟨NP, cuts, head, pl, key, val, prev, next⟩)) := hid (by rw [HR0.out]; rw [hNP]; unfold aftE; split <;> first | rfl | omega)
              obtain ⟨W11, hW11⟩ : ∃ W, W9.setCell ⟨Y, 0, none⟩ (.int .i64 NP) = W := ⟨_, rfl⟩
              have HS11 : Hid (Sx V X Y Z G wa2 wc2 la2 lc2 M2 ⟨NP, cuts, head, pl, key, val, prev, next⟩ W11) := hid (by rw [← hW11]; exact HS.out.setY rfl)
              have HW11 := hid hW11
              clear hW11 HR0
              try clear hk2
              go_upto_region 14 with (fail)
              rw [HW11.out]
              obtain ⟨D9, hD9⟩ : ∃ DX, (W11).drew = DX := ⟨_, rfl⟩
              have HS9 := hid (HS11.out.grow (Below.refl _ _).drew)
              rw [hD9] at HS9
              have HD9 := hid hD9
              clear hD9
              obtain ⟨V6, V7, hV6, hV7, a1, a2, a3, a4, k6, k7, a5, -⟩ := put_me HS9.out.bz HS9.out.bg (by have := HS9.out.ord; omega) (.slice wa2 M2.W.length wc2) (.slice la2 M2.L.length lc2) (.bool M2.F) (.int .i64 NP) (.bool cuts) (.int .u64 ((head : Nat) : Int)) (.int .u64 ((pl : Nat) : Int)) (.int .u64 ((key : Nat) : Int)) (.int .u64 ((val : Nat) : Int)) (.int .u64 ((prev : Nat) : Int)) (.int .u64 ((next : Nat) : Int))
              have A3 := hid a3
              have A4 := hid a4
              have HG6 := hid a2
              have HB7 := hid (a5 V.heap.size V (by have := HS9.out.ord; omega) (by have := HS9.out.ord; omega) HS9.out.below)
              have HX6 := hid (k6 X _ (by have := HS9.out.ord; omega) HS9.out.bx)
              have HY6 := hid (k6 Y _ (by have := HS9.out.ord; omega) HS9.out.by_)
              have HX7 := hid (k7 X _ (by have := HS9.out.ord; omega) (by have := HS9.out.ord; omega) HS9.out.bx)
              have HY7 := hid (k7 Y _ (by have := HS9.out.ord; omega) (by have := HS9.out.ord; omega) HS9.out.by_)
              have HM7 : Hid (MemL V7 wa2 wc2 la2 lc2 M2) := hid (by
                have hz : apartA wa2 Z ∧ apartA la2 Z ∧ apartA wa2 G ∧ apartA la2 G := by have := HS9.out.ord; exact ⟨HS9.out.aw.apart (by omega) (by omega), HS9.out.al.apart (by omega) (by omega), HS9.out.aw.apart (by omega) (by omega), HS9.out.al.apart (by omega) (by omega)⟩
                obtain ⟨z1, z2, z3, z4⟩ := hz
                rw [hV7, hV6]
                have hw := ((HS9.out.mem.w.setNe z1 (i := 0) (v := .slice wa2 M2.W.length wc2)).setNe z1 (i := 1) (v := .slice la2 M2.L.length lc2)).setNe z1 (i := 2) (v := .bool M2.F)
                have hl := ((HS9.out.mem.l.setNe z2 (i := 0) (v := .slice wa2 M2.W.length wc2)).setNe z2 (i := 1) (v := .slice la2 M2.L.length lc2)).setNe z2 (i := 2) (v := .bool M2.F)
                exact ⟨(((((((hw.setNe z3).setNe z3).setNe z3).setNe z3).setNe z3).setNe z3).setNe z3).setNe z3, (((((((hl.setNe z4).setNe z4).setNe z4).setNe z4).setNe z4).setNe z4).setNe z4).setNe z4⟩)
              have HV6 := hid hV6
              have HV7 := hid hV7
              have hZG : Z ≠ G := by have := HS9.out.ord; omega
              have hGZ : G ≠ Z := Ne.symm hZG
              clear hV6 hV7 a1 a2 a3 a4 k6 k7 a5
              obtain ⟨z0, z1, z2⟩ := cells3 HS9.out.bz
              have zf0 := free_laid (i := 0) HS9.out.bz
              have zf1 := free_laid (i := 1) HS9.out.bz
              have zf2 := free_laid (i := 2) HS9.out.bz
              have g0 := cell_laid (i := 0) HG6.out rfl
              have gf0 := free_laid (i := 0) HG6.out
              have g1 := cell_laid (i := 1) HG6.out rfl
              have gf1 := free_laid (i := 1) HG6.out
              have g2 := cell_laid (i := 2) HG6.out rfl
              have gf2 := free_laid (i := 2) HG6.out
              have g3 := cell_laid (i := 3) HG6.out rfl
              have gf3 := free_laid (i := 3) HG6.out
              have g4 := cell_laid (i := 4) HG6.out rfl
              have gf4 := free_laid (i := 4) HG6.out
              have g5 := cell_laid (i := 5) HG6.out rfl
              have gf5 := free_laid (i := 5) HG6.out
              have g6 := cell_laid (i := 6) HG6.out rfl
              have gf6 := free_laid (i := 6) HG6.out
              have g7 := cell_laid (i := 7) HG6.out rfl
              have gf7 := free_laid (i := 7) HG6.out
              haveI : Nonempty (RXY X Y #[.slice wa2 M2.W.length wc2, .slice la2 M2.L.length lc2, .bool M2.F] (ed8 ⟨NP, cuts, head, pl, key, val, prev, next⟩)) := ⟨⟨D9, HS9.out.bx, HS9.out.by_⟩⟩
              have q0 : ∀ z : RXY X Y #[.slice wa2 M2.W.length wc2, .slice la2 M2.L.length lc2, .bool M2.F] (ed8 ⟨NP, cuts, head, pl, key, val, prev, next⟩), z.w.cell? ⟨X, 0, none⟩ = some (.slice wa2 M2.W.length wc2) := fun z => cell_laid z.bx rfl
              have q1 : ∀ z : RXY X Y #[.slice wa2 M2.W.length wc2, .slice la2 M2.L.length lc2, .bool M2.F] (ed8 ⟨NP, cuts, head, pl, key, val, prev, next⟩), z.w.cell? ⟨X, 1, none⟩ = some (.slice la2 M2.L.length lc2) := fun z => cell_laid z.bx rfl
              have q2 : ∀ z : RXY X Y #[.slice wa2 M2.W.length wc2, .slice la2 M2.L.length lc2, .bool M2.F] (ed8 ⟨NP, cuts, head, pl, key, val, prev, next⟩), z.w.cell? ⟨X, 2, none⟩ = some (.bool M2.F) := fun z => cell_laid z.bx rfl
              have p0 : ∀ z : RXY X Y #[.slice wa2 M2.W.length wc2, .slice la2 M2.L.length lc2, .bool M2.F] (ed8 ⟨NP, cuts, head, pl, key, val, prev, next⟩), z.w.cell? ⟨Y, 0, none⟩ = some (.int .i64 NP) := fun z => cell_laid z.by_ rfl
              have p1 : ∀ z : RXY X Y #[.slice wa2 M2.W.length wc2, .slice la2 M2.L.length lc2, .bool M2.F] (ed8 ⟨NP, cuts, head, pl, key, val, prev, next⟩), z.w.cell? ⟨Y, 1, none⟩ = some (.bool cuts) := fun z => cell_laid z.by_ rfl
              have p2 : ∀ z : RXY X Y #[.slice wa2 M2.W.length wc2, .slice la2 M2.L.length lc2, .bool M2.F] (ed8 ⟨NP, cuts, head, pl, key, val, prev, next⟩), z.w.cell? ⟨Y, 2, none⟩ = some (.int .u64 ((head : Nat) : Int)) := fun z => cell_laid z.by_ rfl
              have p3 : ∀ z : RXY X Y #[.slice wa2 M2.W.length wc2, .slice la2 M2.L.length lc2, .bool M2.F] (ed8 ⟨NP, cuts, head, pl, key, val, prev, next⟩), z.w.cell? ⟨Y, 3, none⟩ = some (.int .u64 ((pl : Nat) : Int)) := fun z => cell_laid z.by_ rfl
              have p4 : ∀ z : RXY X Y #[.slice wa2 M2.W.length wc2, .slice la2 M2.L.length lc2, .bool M2.F] (ed8 ⟨NP, cuts, head, pl, key, val, prev, next⟩), z.w.cell? ⟨Y, 4, none⟩ = some (.int .u64 ((key : Nat) : Int)) := fun z => cell_laid z.by_ rfl
              have p5 : ∀ z : RXY X Y #[.slice wa2 M2.W.length wc2, .slice la2 M2.L.length lc2, .bool M2.F] (ed8 ⟨NP, cuts, head, pl, key, val, prev, next⟩), z.w.cell? ⟨Y, 5, none⟩ = some (.int .u64 ((val : Nat) : Int)) := fun z => cell_laid z.by_ rfl
              have p6 : ∀ z : RXY X Y #[.slice wa2 M2.W.length wc2, .slice la2 M2.L.length lc2, .bool M2.F] (ed8 ⟨NP, cuts, head, pl, key, val, prev, next⟩), z.w.cell? ⟨Y, 6, none⟩ = some (.int .u64 ((prev : Nat) : Int)) := fun z => cell_laid z.by_ rfl
              have p7 : ∀ z : RXY X Y #[.slice wa2 M2.W.length wc2, .slice la2 M2.L.length lc2, .bool M2.F] (ed8 ⟨NP, cuts, head, pl, key, val, prev, next⟩), z.w.cell? ⟨Y, 7, none⟩ = some (.int .u64 ((next : Nat) : Int)) := fun z => cell_laid z.by_ rfl
              refine wp_region_mix2 (fun W => ∃ z : RXY X Y #[.slice wa2 M2.W.length wc2, .slice la2 M2.L.length lc2, .bool M2.F] (ed8 ⟨NP, cuts, head, pl, key, val, prev, next⟩), W = z.w) 4 (.q 0 (.q 1 (.h 2 (.h 3 .done)))) (by kernel_rfl) (by kernel_rfl) (by rw [HD9.out]; exact ⟨⟨D9, HS9.out.bx, HS9.out.by_⟩, rfl⟩) ?_
              rw [HD9.out]
              repeat (refine wpMix2_q rfl rfl ?_; go_big_quiet_step (fail); refine wpQuiet_nil ?_)
              refine wpMix2_h rfl fun R' hR' hO => ?_
              go_wp2
              rw [← HV6.out]
              refine hR' _ _ ⟨⟨V6, HX6.out, HY6.out⟩, rfl⟩ ?_
              clear hR' hO R'
              refine wpMix2_h rfl fun R' hR' hO => ?_
              go_wp2
              rw [← HV7.out]
              refine hR' _ _ ⟨⟨V7, HX7.out, HY7.out⟩, rfl⟩ ?_
              clear hR' hO R'
              refine wpMix2_done ?_
              simp only [List.drop_succ_cons, List.drop_zero]
              go_wp2
              refine bodyPost_ret (rstep_result A3.out A4.out rfl rfl) rfl ?_
              rw [HR.out]
              exact ⟨_, _, _, _, rfl, HM7.out, HB7.out, HKA.out.1, HKA.out.2⟩
end Go.Proofs.Ytoihjmdpbbcbjaa
