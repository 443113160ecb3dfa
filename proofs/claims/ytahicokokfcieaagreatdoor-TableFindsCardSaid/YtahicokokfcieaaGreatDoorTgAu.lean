/- Several texts in one. -/
import Derived.Test.YtahicokokfcieaaGreatDoorTgAq
import Derived.Laws.StructEq
import Derived.DeepKeys
import Derived.Test.YtahicokokfcieaaGreatDoorTgAt
import Derived.Test.YtahicokokfcieaaGreatDoorTgAn
namespace Go.Proofs.YtahicokokfcieaaGreatDoor
open Go.RowKit
open Go.Proofs
set_option linter.unusedVariables false
attribute [local go_sem] Oper.semAt_some
theorem wf_u64 {x : Nat} (h : x < 18446744073709551616) : (Lit.int .u64 ((x : Nat) : Int)).wf = true := by
  simp [Lit.wf, IntKind.min, IntKind.max, IntKind.signed, IntKind.bits]
  omega
theorem wf_i64 {x : Int} (h : -9223372036854775808 ≤ x ∧ x ≤ 9223372036854775807) : (Lit.int .i64 x).wf = true := by
  simp [Lit.wf, IntKind.min, IntKind.max, IntKind.signed, IntKind.bits]
  omega
theorem key_u64 (d : Nat) {x : Nat} (h : x < 18446744073709551616) : Tryz.prog.keyLits (d + 1) 26 [.int .u64 ((x : Nat) : Int)] = some [.int .u64 ((x : Nat) : Int)] := by
  simp [Program.keyLits, Tryz.underlying26, wf_u64 h]
theorem key_i64 (d : Nat) {x : Int} (h : -9223372036854775808 ≤ x ∧ x ≤ 9223372036854775807) : Tryz.prog.keyLits (d + 1) 3 [.int .i64 x] = some [.int .i64 x] := by
  simp [Program.keyLits, Tryz.underlying3, wf_i64 h]
theorem Sk.ext_iff' (s t : Sk) : s = t ↔ s.ph = t.ph ∧ s.hash = t.hash ∧ s.key = t.key ∧ s.link = t.link ∧ s.node = t.node ∧ s.val = t.val ∧ s.found = t.found := by
  cases s; cases t; simp
instance : DecidableEq Sk := fun s t => decidable_of_iff _ (Sk.ext_iff' s t).symm
theorem Ede.ext_iff' (s t : Ede) : s = t ↔ s.ph = t.ph ∧ s.cuts = t.cuts ∧ s.link = t.link ∧ s.at_ = t.at_ ∧ s.key = t.key ∧ s.val = t.val ∧ s.hash = t.hash ∧ s.next = t.next := by
  cases s; cases t; simp
instance : DecidableEq Ede := fun s t => decidable_of_iff _ (Ede.ext_iff' s t).symm
/-- A node of a row. -/
theorem Leads.nd {w : World} {a : Option Addr} {n cap k : Nat} {xs : List Nd} {x : Nd} (h : Leads w a n cap (ndcells xs)) (hk : k < n) (hx : xs[k]? = some x) : ∃ b off, a = some ⟨b, off, none⟩ ∧ b < w.heap.size ∧ ∀ w', Below w.heap.size w w' → w'.cell? ⟨b, off + k * 4, none⟩ = some (.int .u64 ((x.1 : Nat) : Int)) ∧ w'.cell? ⟨b, off + k * 4 + 1, none⟩ = some (.int .u64 ((x.2.1 : Nat) : Int)) ∧ w'.cell? ⟨b, off + k * 4 + 2, none⟩ = some (.int .u64 ((x.2.2.1 : Nat) : Int)) ∧ w'.cell? ⟨b, off + k * 4 + 3, none⟩ = some (.int .u64 ((x.2.2.2 : Nat) : Int)) := by
  obtain ⟨_, _, ⟨q, _⟩ | ⟨b, off, rfl, hb, hc⟩⟩ := h
  · omega
  · have hat : ∀ i, i < 4 → (ndcells xs)[k * 4 + i]? = (nd4 x)[i]? := fun i hi => flat_at nd4 4 (fun _ => rfl) xs k i _ hx hi
    refine ⟨b, off, rfl, hb, fun w' hw => ⟨?_, ?_, ?_, ?_⟩⟩
    · exact (hw.cell (p := ⟨b, off + k * 4, none⟩) hb).trans (hc (k * 4 + 0) _ (hat 0 (by decide)))
    · exact (hw.cell (p := ⟨b, off + k * 4 + 1, none⟩) hb).trans (hc (k * 4 + 1) _ (hat 1 (by decide)))
    · exact (hw.cell (p := ⟨b, off + k * 4 + 2, none⟩) hb).trans (hc (k * 4 + 2) _ (hat 2 (by decide)))
    · exact (hw.cell (p := ⟨b, off + k * 4 + 3, none⟩) hb).trans (hc (k * 4 + 3) _ (hat 3 (by decide)))
end Go.Proofs.YtahicokokfcieaaGreatDoor
namespace Go.Proofs.YtahicokokfcieaaGreatDoor
open Go.RowKit
open Go.Proofs
set_option linter.unusedVariables false
attribute [local go_sem] Oper.semAt_some
section
variable {T : TypeId} {z cs cs' mc : Array Value} {V W W' : World} {X Y Z G : Nat} {wa la wa' la' : Option Addr} {wc lc wc' lc' : Nat} {M M' : Mem}
theorem Sq.putY (h : Sq T z V X Y Z G wa wc la lc M cs W) (a1 : W'.heap[Y]? = some (.cells cs' T (0, 0))) (a2 : ∀ (k : Nat) (o : Obj), k ≠ Y → W.heap[k]? = some o → W'.heap[k]? = some o) (a3 : ∀ (B : Nat) (w0 : World), B ≤ Y → Below B w0 W → Below B w0 W') : Sq T z V X Y Z G wa wc la lc M cs' W' := by
  obtain ⟨o1, o2, o3, o4⟩ := h.ord
  exact ⟨a2 _ _ (by omega) h.bx, a1, a2 _ _ (by omega) h.bz, a2 _ _ (by omega) h.bg, ⟨h.mem.w.keepNe (h.aw.apart (by omega) (by omega)) a2, h.mem.l.keepNe (h.al.apart (by omega) (by omega)) a2⟩, h.aw, h.al, a3 _ _ (by omega) h.below, h.ord⟩
theorem Sq.putM (h : Sq T z V X Y Z G wa wc la lc M cs W) (hm : MemL W wa' wc' la' lc' M') (hw : apB wa' X G) (hl : apB la' X G) (a1 : W'.heap[X]? = some (.cells #[.slice wa' M'.W.length wc', .slice la' M'.L.length lc', .bool M'.F] 25 (0, 0))) (a2 : ∀ (k : Nat) (o : Obj), k ≠ X → W.heap[k]? = some o → W'.heap[k]? = some o) (a3 : ∀ (B : Nat) (w0 : World), B ≤ X → Below B w0 W → Below B w0 W') : Sq T z V X Y Z G wa' wc' la' lc' M' cs W' := by
  obtain ⟨o1, o2, o3, o4⟩ := h.ord
  exact ⟨a1, a2 _ _ (by omega) h.by_, a2 _ _ (by omega) h.bz, a2 _ _ (by omega) h.bg, ⟨hm.w.keepNe (hw.apart (by omega) (by omega)) a2, hm.l.keepNe (hl.apart (by omega) (by omega)) a2⟩, hw, hl, a3 _ _ (by omega) h.below, h.ord⟩
/-- What was reached, and the first result. -/
structure Sz (T : TypeId) (z : Array Value) (V : World) (X Y Z G : Nat) (wa : Option Addr) (wc : Nat) (la : Option Addr) (lc : Nat) (M : Mem) (cs : Array Value) (W : World) : Prop where
  bx : W.heap[X]? = some (.cells #[.slice wa M.W.length wc, .slice la M.L.length lc, .bool M.F] 25 (0, 0))
  by_ : W.heap[Y]? = some (.cells cs T (0, 0))
  bz : W.heap[Z]? = some (.cells #[.slice wa M.W.length wc, .slice la M.L.length lc, .bool M.F] 25 (0, 0))
  bg : W.heap[G]? = some (.cells z T (0, 0))
  mem : MemL W wa wc la lc M
  ap : apartA wa G ∧ apartA la G
  below : Below V.heap.size V W
  ord : V.heap.size ≤ G ∧ Z < G ∧ X < G ∧ Y < G
theorem Sq.putZ (h : Sq T z V X Y Z G wa wc la lc M cs W) (a1 : W'.heap[Z]? = some (.cells #[.slice wa M.W.length wc, .slice la M.L.length lc, .bool M.F] 25 (0, 0))) (a2 : ∀ (k : Nat) (o : Obj), k ≠ Z → W.heap[k]? = some o → W'.heap[k]? = some o) (a3 : ∀ (B : Nat) (w0 : World), B ≤ Z → Below B w0 W → Below B w0 W') : Sz T z V X Y Z G wa wc la lc M cs W' := by
  obtain ⟨o1, o2, o3, o4⟩ := h.ord
  exact ⟨a2 _ _ (by omega) h.bx, a2 _ _ (by omega) h.by_, a1, a2 _ _ (by omega) h.bg, ⟨h.mem.w.keepNe (h.aw.apart (by omega) (by omega)) a2, h.mem.l.keepNe (h.al.apart (by omega) (by omega)) a2⟩, ⟨h.aw.apart (by omega) (by omega), h.al.apart (by omega) (by omega)⟩, a3 _ _ (by omega) h.below, by omega, by omega, by omega, by omega⟩
theorem Sz.putG (h : Sz T z V X Y Z G wa wc la lc M cs W) (a1 : W'.heap[G]? = some (.cells cs' T (0, 0))) (a2 : ∀ (k : Nat) (o : Obj), k ≠ G → W.heap[k]? = some o → W'.heap[k]? = some o) (a3 : ∀ (B : Nat) (w0 : World), B ≤ G → Below B w0 W → Below B w0 W') :
    W'.heap[Z]? = some (.cells #[.slice wa M.W.length wc, .slice la M.L.length lc, .bool M.F] 25 (0, 0)) ∧ W'.heap[G]? = some (.cells cs' T (0, 0)) ∧ MemL W' wa wc la lc M ∧ Below V.heap.size V W' ∧ W'.heap[X]? = some (.cells #[.slice wa M.W.length wc, .slice la M.L.length lc, .bool M.F] 25 (0, 0)) ∧ W'.heap[Y]? = some (.cells cs T (0, 0)) :=
  ⟨a2 _ _ (by have := h.ord; omega) h.bz, a1, ⟨h.mem.w.keepNe h.ap.1 a2, h.mem.l.keepNe h.ap.2 a2⟩, a3 _ _ h.ord.1 h.below, a2 _ _ (by have := h.ord; omega) h.bx, a2 _ _ (by have := h.ord; omega) h.by_⟩
end
theorem MemL.low' {W : World} {wa la : Option Addr} {wc lc : Nat} {M : Mem} (h : MemL W wa wc la lc M) (hp : 1 ≤ M.W.length ∧ 1 ≤ M.L.length) {E : Nat} (hE : W.heap.size ≤ E) : apartA wa E ∧ apartA la E := by
  constructor
  · rintro b off rfl
    obtain ⟨_, _, ⟨q, _⟩ | ⟨b', o', q, q2, _⟩⟩ := h.w
    · omega
    · cases q; omega
  · rintro b off rfl
    obtain ⟨_, _, ⟨q, _⟩ | ⟨b', o', q, q2, _⟩⟩ := h.l
    · omega
    · cases q; omega
theorem SeekStep_result {W : World} {b4 b5 : Nat} {v4 v5 : Array Value} {tmps : Array Value} (h4 : W.heap[b4]? = some (.cells v4 25 (0, 0))) (q4 : tmps[4]?.getD undef = .pointer (some ⟨b4, 0, none⟩)) (h5 : W.heap[b5]? = some (.cells v5 41 (0, 0))) (q5 : tmps[5]?.getD undef = .pointer (some ⟨b5, 0, none⟩)) (s4 : v4.size = 3 := by rfl) (s5 : v5.size = 7 := by rfl) :
    (results Tryz.f56 tmps).run Tryz.prog W = .ok (.tuple #[.agg v4, .agg v5]) W := by
  have l4 := run_loadVar_row (P := Tryz.prog) W b4 25 25 v4 (0, 0) _ h4 Tryz.underlying25 rfl (by rw [s4]; kernel_rfl)
  have l5 := run_loadVar_row (P := Tryz.prog) W b5 41 41 v5 (0, 0) _ h5 Tryz.underlying41 rfl (by rw [s5]; kernel_rfl)
  have ha : ∀ b : Nat, (asAddr (.pointer (some ⟨b, 0, none⟩))).run Tryz.prog W = .ok ⟨b, 0, none⟩ W := fun b => rfl
  simp [results, Tryz.results56, q4, q5, ha, l4, l5]
def GivesRQ (wa0 la0 : Option Addr) (R : Mem × Sk) (w : World) (e : Ending) (W : World) : Prop := ∃ wa wc la lc, e = .returned (.tuple #[memV wa wc la lc R.1, skV R.2]) ∧ MemL W wa wc la lc R.1 ∧ Below w.heap.size w W ∧ keptA w wa0 wa ∧ keptA w la0 la
def wantS (s : Sk) : Nat → Nat
  | 1 => s.hash
  | 2 => s.key
  | _ => 0
theorem need_ix {s : Sk} {a b c d : Nat} (ha : posL s.link 0 = a) (hb : posL s.node 3 = b) (hc : posL s.node 0 = c) (hd : posL s.node 1 = d) : ∀ k, k < 4 → ∀ W, (Instr.index 153 (.agg #[.int .i64 ((a : Nat) : Int), .int .i64 ((b : Nat) : Int), .int .i64 ((c : Nat) : Int), .int .i64 ((d : Nat) : Int)]) (.int .i64 ((k : Nat) : Int))).run Tryz.prog W = .ok (.int .i64 ((needS s k : Nat) : Int)) W
  | 0, _, W => by rw [show needS s 0 = a from ha]; kernel_rfl
  | 1, _, W => by rw [show needS s 1 = b from hb]; kernel_rfl
  | 2, _, W => by rw [show needS s 2 = c from hc]; kernel_rfl
  | 3, _, W => by rw [show needS s 3 = d from hd]; kernel_rfl
theorem want_ix {s : Sk} {a b : Nat} (ha : s.hash = a) (hb : s.key = b) : ∀ k, k < 4 → ∀ W, (Instr.index 154 (.agg #[.int .u64 0, .int .u64 ((a : Nat) : Int), .int .u64 ((b : Nat) : Int), .int .u64 0]) (.int .i64 ((k : Nat) : Int))).run Tryz.prog W = .ok (.int .u64 ((wantS s k : Nat) : Int)) W
  | 0, _, W => by kernel_rfl
  | 1, _, W => by rw [show wantS s 1 = a from ha]; kernel_rfl
  | 2, _, W => by rw [show wantS s 2 = b from hb]; kernel_rfl
  | 3, _, W => by kernel_rfl
set_option maxRecDepth 100000 in
set_option maxHeartbeats 16000000 in
theorem rSeekStep_any (M : Mem) (s : Sk) (wa la : Option Addr) (wc lc : Nat) (V : World) (h : MemL V wa wc la lc M) (hok : okM M = true) (hs : s.Ok) (h0 : 0 ≤ s.ph) :
    Calls Tryz.prog 56 #[memV wa wc la lc M, skV s] V (GivesRQ wa la ((seekE M s).1, (seekE M s).2.1) V) := by
  obtain ⟨ph, hash, key, link, node, val, found⟩ := s
  dsimp only at h0
  obtain ⟨k, rfl⟩ : ∃ k : Nat, ph = ((k : Nat) : Int) := ⟨ph.toNat, by omega⟩
  obtain ⟨V1, hV1, hbV1, hsV1, hlV1⟩ := laid V #[.slice wa M.W.length wc, .slice la M.L.length lc, .bool M.F] 25
  obtain ⟨V2, hV2, hbV2, hsV2, hlV2⟩ := laid V1 #[.int .i64 ((k : Nat) : Int), .int .u64 ((hash : Nat) : Int), .int .u64 ((key : Nat) : Int), .int .u64 ((link : Nat) : Int), .int .u64 ((node : Nat) : Int), .int .u64 ((val : Nat) : Int), .bool found] 41
  obtain ⟨V3, hV3, hbV3, hsV3, hlV3⟩ := laid V2 #[.slice none 0 0, .slice none 0 0, .bool false] 25
  obtain ⟨V4, hV4, hbV4, hsV4, hlV4⟩ := laid V3 #[.int .i64 0, .int .u64 0, .int .u64 0, .int .u64 0, .int .u64 0, .int .u64 0, .bool false] 41
  obtain ⟨X, hX⟩ : ∃ X, V.heap.size = X := ⟨_, rfl⟩
  rw [hX] at hlV1
  obtain ⟨Y, hY⟩ : ∃ X, V1.heap.size = X := ⟨_, rfl⟩
  rw [hY] at hlV2
  obtain ⟨Z, hZ⟩ : ∃ X, V2.heap.size = X := ⟨_, rfl⟩
  rw [hZ] at hlV3
  obtain ⟨G, hG⟩ : ∃ X, V3.heap.size = X := ⟨_, rfl⟩
  rw [hG] at hlV4
  obtain ⟨aw, al⟩ := h.low hok (X := X) (G := G) (by omega)
  have HB := step (step (step hbV1 hbV2) hbV3) hbV4
  have HS : Hid (Sq 41 #[.int .i64 0, .int .u64 0, .int .u64 0, .int .u64 0, .int .u64 0, .int .u64 0, .bool false] V X Y Z G wa wc la lc M #[.int .i64 ((k : Nat) : Int), .int .u64 ((hash : Nat) : Int), .int .u64 ((key : Nat) : Int), .int .u64 ((link : Nat) : Int), .int .u64 ((node : Nat) : Int), .int .u64 ((val : Nat) : Int), .bool found] V4) := hid ⟨keep_laid hlV1 (step (step hbV2 hbV3) hbV4), keep_laid hlV2 (step hbV3 hbV4), keep_laid hlV3 hbV4, hlV4, h.grow HB, aw, al, HB, by omega, by omega, by omega, by omega⟩
  have hVY : V.heap.size ≤ Y := by omega
  have hwl := h.w.len
  have hll := h.l.len
  have HSO := hid hs
  have HOK := hid hok
  have hk63 : k ≤ 9223372036854775807 := by have := hs.ph.2; dsimp only at this; omega
  unfold memV skV
  dsimp only
  have y0 := cell_laid (i := 0) HS.out.by_ rfl
  clear h hok hs aw al HB hbV1 hsV1 hlV1 hbV2 hsV2 hlV2 hbV3 hsV3 hlV3 hbV4 hsV4 hlV4
  go_enter Tryz.func56, Tryz.ntmps56
  by_cases hk4 : 4 ≤ k
  · have t0 : decide (((k : Nat) : Int) > 3) = true := decide_eq_true (by omega)
    have t1 : decide ((3 : Int) < ((k : Nat) : Int)) = true := decide_eq_true (by omega)
    have t2 : decide (3 < k) = true := decide_eq_true (by omega)
    have HR : Hid (seekE M ⟨((k : Nat) : Int), hash, key, link, node, val, found⟩ = (M, ⟨((k : Nat) : Int), hash, key, link, node, val, found⟩, false)) := hid (by unfold seekE; rw [if_pos (by dsimp only; omega)])
    go_upto_region 2 with (fail)
    clear y0 t0 t1 t2 hV1 hV2 hV3 hV4 hX hY hZ hG
    obtain ⟨D, hD⟩ : ∃ DX, World.drew V4 = DX := ⟨_, rfl⟩
    have hbD : Below (V4).heap.size V4 D := by rw [← hD]; exact (Below.refl _ _).drew
    have HSD := hid (HS.out.grow hbD)
    have HD := hid hD
    clear hD hbD HS
    haveI : Nonempty (RYX 41 X Y #[.slice wa M.W.length wc, .slice la M.L.length lc, .bool M.F] #[.int .i64 ((k : Nat) : Int), .int .u64 ((hash : Nat) : Int), .int .u64 ((key : Nat) : Int), .int .u64 ((link : Nat) : Int), .int .u64 ((node : Nat) : Int), .int .u64 ((val : Nat) : Int), .bool found]) := ⟨⟨D, HSD.out.bx, HSD.out.by_⟩⟩
    refine wp_region_mix2 (fun W => ∃ z : RYX 41 X Y #[.slice wa M.W.length wc, .slice la M.L.length lc, .bool M.F] #[.int .i64 ((k : Nat) : Int), .int .u64 ((hash : Nat) : Int), .int .u64 ((key : Nat) : Int), .int .u64 ((link : Nat) : Int), .int .u64 ((node : Nat) : Int), .int .u64 ((val : Nat) : Int), .bool found], W = z.w) 4 (.q 0 (.q 1 (.h 2 (.h 3 (.done))))) (by kernel_rfl) (by kernel_rfl) (by rw [HD.out]; exact ⟨⟨D, HSD.out.bx, HSD.out.by_⟩, rfl⟩) ?_
    rw [HD.out]
    refine wpMix2_q rfl rfl ?_
    refine wpQuiet_loadW rfl 25 (.tmp 2) rfl X _ rfl _ (by rintro _ ⟨z, rfl⟩; exact z.bx) _ Tryz.underlying25 rfl (by kernel_rfl) ?_
    intro v hv
    subst hv
    refine wpQuiet_nil ?_
    refine wpMix2_q rfl rfl ?_
    refine wpQuiet_loadW rfl 41 (.tmp 3) rfl Y _ rfl _ (by rintro _ ⟨z, rfl⟩; exact z.by_) _ Tryz.underlying41 rfl (by kernel_rfl) ?_
    intro v hv
    subst hv
    refine wpQuiet_nil ?_
    simp only [Act.put, List.setIfInBounds_toArray, List.set_cons_succ, List.set_cons_zero]
    refine wpMix2_h rfl fun R' hR' hO => ?_
    go_wp2_with (refine wp_storeP rfl 25 (.tmp 4) (.tmp 12) rfl Z 0 _ #[.slice wa M.W.length wc, .slice la M.L.length lc, .bool M.F] _ rfl rfl _ HSD.out.bz (by kernel_rfl) (Nat.le_of_ble_eq_true rfl) (by kernel_rfl) rfl ?_; intro v1 a1 a2 a3 a4; have HSZ := hid (HSD.out.putZ a1 a2 a3); clear a1 a2 a3 a4; (try simp only [Act.put]))
    refine hR' _ _ ⟨⟨v1, HSZ.out.bx, HSZ.out.by_⟩, rfl⟩ ?_
    clear hR' hO R'
    refine wpMix2_h rfl fun R' hR' hO => ?_
    go_wp2_with (refine wp_storeP rfl 41 (.tmp 5) (.tmp 13) rfl G 0 _ #[.int .i64 ((k : Nat) : Int), .int .u64 ((hash : Nat) : Int), .int .u64 ((key : Nat) : Int), .int .u64 ((link : Nat) : Int), .int .u64 ((node : Nat) : Int), .int .u64 ((val : Nat) : Int), .bool found] _ rfl rfl _ HSZ.out.bg (by kernel_rfl) (Nat.le_of_ble_eq_true rfl) (by kernel_rfl) rfl ?_; intro v2 a1 a2 a3 a4; have HSF := hid (HSZ.out.putG a1 a2 a3); clear a1 a2 a3 a4; (try simp only [Act.put]))
    refine hR' _ _ ⟨⟨v2, HSF.out.2.2.2.2.1, HSF.out.2.2.2.2.2⟩, rfl⟩ ?_
    clear hR' hO R'
    refine wpMix2_done ?_
    simp only [List.drop_succ_cons, List.drop_nil]
    go_wp2
    refine bodyPost_ret (SeekStep_result HSF.out.1 rfl HSF.out.2.1 rfl) rfl ?_
    rw [HR.out]
    exact ⟨wa, wc, la, lc, rfl, HSF.out.2.2.1, HSF.out.2.2.2.1, keptA.refl _ _, keptA.refl _ _⟩
  · have t0 : decide (((k : Nat) : Int) > 3) = false := decide_eq_false (by omega)
    have t1 : decide ((3 : Int) < ((k : Nat) : Int)) = false := decide_eq_false (by omega)
    have t2 : decide (3 < k) = false := decide_eq_false (by omega)
    have hk3 : k < 4 := by omega
    obtain ⟨P, hP⟩ : ∃ q, needS ⟨((k : Nat) : Int), hash, key, link, node, val, found⟩ k = q := ⟨_, rfl⟩
    obtain ⟨wn, hwn⟩ : ∃ q, wantS ⟨((k : Nat) : Int), hash, key, link, node, val, found⟩ k = q := ⟨_, rfl⟩
    obtain ⟨⟨M2, x, d⟩, hM2⟩ : ∃ X, stepM M false ((P : Nat) : Int) 0 = X := ⟨_, rfl⟩
    have HSE : Hid (seekE M ⟨((k : Nat) : Int), hash, key, link, node, val, found⟩ = (M2, (if d = true then thenS ⟨((k : Nat) : Int), hash, key, link, node, val, found⟩ x k else ⟨5, hash, key, link, node, val, found⟩), true)) := hid (by
      unfold seekE
      rw [if_neg (by dsimp only; omega)]
      dsimp only
      rw [Int.toNat_natCast, hP, hM2])
    have hP5 : P ≤ 5000 := by rw [← hP]; exact needS_le k hk3
    obtain ⟨P0, hP0⟩ : ∃ q, posL link 0 = q := ⟨_, rfl⟩
    obtain ⟨P1, hP1⟩ : ∃ q, posL node 3 = q := ⟨_, rfl⟩
    obtain ⟨P2, hP2⟩ : ∃ q, posL node 0 = q := ⟨_, rfl⟩
    obtain ⟨P3, hP3⟩ : ∃ q, posL node 1 = q := ⟨_, rfl⟩
    have HA0 := hid (fun W => rat_any link 0 W HSO.out.link (by decide))
    have HA1 := hid (fun W => rat_any node 3 W HSO.out.node (by decide))
    have HA2 := hid (fun W => rat_any node 0 W HSO.out.node (by decide))
    have HA3 := hid (fun W => rat_any node 1 W HSO.out.node (by decide))
    rw [hP0] at HA0
    rw [hP1] at HA1
    rw [hP2] at HA2
    rw [hP3] at HA3
    have hix := need_ix (s := ⟨((k : Nat) : Int), hash, key, link, node, val, found⟩) hP0 hP1 hP2 hP3 k hk3
    rw [hP] at hix
    have hjx := want_ix (s := ⟨((k : Nat) : Int), hash, key, link, node, val, found⟩) rfl rfl k hk3
    rw [hwn] at hjx
    dsimp only at hjx
    have HST := hid (fun W (hm : MemL W wa wc la lc M) => RefStep_any M wa la wc lc false 1 ((P : Nat) : Int) 0 0 W hm HOK.out (by omega) rfl)
    rw [hM2] at HST
    unfold memV at HST
    have HPL : Hid (1 ≤ M2.W.length ∧ 1 ≤ M2.L.length) := hid (by have e1 := stepM_len M false ((P : Nat) : Int) 0; have e2 := stepM_L M false ((P : Nat) : Int) 0; rw [hM2] at e1 e2; dsimp only at e1 e2; obtain ⟨a, b, d, -⟩ := okM_spec HOK.out; rw [e2]; omega)
    have HKE := hid hwn
    clear hP hP0 hP1 hP2 hP3 hM2 hwn
    go_upto_region 3 with (fail)
    clear hV1 hV2 hV3 hV4 hX hY hZ hG t0 t1 t2 y0
    obtain ⟨D, hD⟩ : ∃ DX, World.drew V4 = DX := ⟨_, rfl⟩
    have hbD : Below V4.heap.size V4 D := by rw [← hD]; exact (Below.refl _ _).drew
    have HSD := hid (HS.out.grow hbD)
    have HD := hid hD
    clear hD hbD HS
    haveI HNE : Nonempty (RYX 41 X Y #[.slice wa M.W.length wc, .slice la M.L.length lc, .bool M.F] #[.int .i64 ((k : Nat) : Int), .int .u64 ((hash : Nat) : Int), .int .u64 ((key : Nat) : Int), .int .u64 ((link : Nat) : Int), .int .u64 ((node : Nat) : Int), .int .u64 ((val : Nat) : Int), .bool found]) := ⟨⟨D, HSD.out.bx, HSD.out.by_⟩⟩
    have q0 := ryx_y HNE 0 (.int .i64 ((k : Nat) : Int)) rfl
    have q3 := ryx_y HNE 3 (.int .u64 ((link : Nat) : Int)) rfl
    have q4 := ryx_y HNE 4 (.int .u64 ((node : Nat) : Int)) rfl
    refine wp_region_mix2 (fun W => ∃ z : RYX 41 X Y #[.slice wa M.W.length wc, .slice la M.L.length lc, .bool M.F] #[.int .i64 ((k : Nat) : Int), .int .u64 ((hash : Nat) : Int), .int .u64 ((key : Nat) : Int), .int .u64 ((link : Nat) : Int), .int .u64 ((node : Nat) : Int), .int .u64 ((val : Nat) : Int), .bool found], W = z.w) 17 (.q 0 (.q 1 (.q 3 (.q 4 (.q 6 (.q 7 (.q 9 (.q 10 (.q 13 (.q 14 (.h 2 (.h 5 (.h 8 (.h 11 (.q 12 (.q 15 (.q 16 (.done)))))))))))))))))) (by kernel_rfl) (by kernel_rfl) (by rw [HD.out]; exact ⟨⟨D, HSD.out.bx, HSD.out.by_⟩, rfl⟩) ?_
    rw [HD.out]
    iterate 10 (refine wpMix2_q rfl rfl ?_; go_big_quiet_step (fail); refine wpQuiet_nil ?_)
    refine wpMix2_h rfl fun R' hR' hO => ?_
    go_wp2_with fail
    refine (HA0.out _).mono ?_
    rintro e wq ⟨rfl, hwq⟩
    rw [hwq]
    clear hwq wq
    go_wp2
    refine hR' _ _ ⟨⟨D, HSD.out.bx, HSD.out.by_⟩, rfl⟩ ?_
    clear hR' hO R'
    refine wpMix2_h rfl fun R' hR' hO => ?_
    go_wp2_with fail
    refine (HA1.out _).mono ?_
    rintro e wq ⟨rfl, hwq⟩
    rw [hwq]
    clear hwq wq
    go_wp2
    refine hR' _ _ ⟨⟨D, HSD.out.bx, HSD.out.by_⟩, rfl⟩ ?_
    clear hR' hO R'
    refine wpMix2_h rfl fun R' hR' hO => ?_
    go_wp2_with fail
    refine (HA2.out _).mono ?_
    rintro e wq ⟨rfl, hwq⟩
    rw [hwq]
    clear hwq wq
    go_wp2
    refine hR' _ _ ⟨⟨D, HSD.out.bx, HSD.out.by_⟩, rfl⟩ ?_
    clear hR' hO R'
    refine wpMix2_h rfl fun R' hR' hO => ?_
    go_wp2_with fail
    refine (HA3.out _).mono ?_
    rintro e wq ⟨rfl, hwq⟩
    rw [hwq]
    clear hwq wq
    go_wp2
    refine hR' _ _ ⟨⟨D, HSD.out.bx, HSD.out.by_⟩, rfl⟩ ?_
    clear hR' hO R'
    iterate 3 (refine wpMix2_q rfl rfl ?_; go_big_quiet_step (fail); refine wpQuiet_nil ?_)
    refine wpMix2_done ?_
    simp only [List.drop_succ_cons, List.drop_nil]
    clear q0 q3 q4 hix HNE HA0 HA1 HA2 HA3
    go_wp2_with (refine wp_loadW rfl 25 (.tmp 2) rfl X _ rfl _ HSD.out.bx _ Tryz.underlying25 rfl (by kernel_rfl) ?_; intro v hv; subst hv)
    refine (HST.out D HSD.out.mem).mono ?_
    rintro e w5 ⟨wa2, wc2, la2, lc2, rfl, hm5, hb5, kw, kl⟩
    unfold memV
    have HS5 := hid (HSD.out.grow hb5)
    have hGD := lt_laid HSD.out.bg
    have aw5 := HSD.out.aw.kept kw hGD
    have al5 := HSD.out.al.kept kl hGD
    have KWV := hid (kw.mono HSD.out.below.size)
    have KLV := hid (kl.mono HSD.out.below.size)
    have HM5 := hid hm5
    obtain ⟨w6, hw6, hb6, hs6, hl6⟩ := laid w5 #[.int .u64 0, .bool false] 111
    obtain ⟨Q, hQ⟩ : ∃ X, w5.heap.size = X := ⟨_, rfl⟩
    rw [hQ] at hl6
    have HS6 := hid (HS5.out.grow hb6)
    have HM6 := hid (HM5.out.grow hb6)
    have KQ6 := hid hl6
    have hGQ : G < Q := by have := HS5.out.bg; have := lt_laid this; omega
    have apQ : apartA wa2 Q ∧ apartA la2 Q := by
      obtain ⟨a, b⟩ := HM5.out.low' HPL.out (E := Q) (by omega)
      exact ⟨a, b⟩
    clear hm5 hb5 kw kl hb6 hs6 hl6 HSD HS5 HM5 HST hGD
    have hVX := HS6.out.ord
    go_upto_region 5 with (first
      | (refine wp_storeP rfl 25 (.tmp 2) (.tmp 35) rfl X 0 _ #[.slice wa2 M2.W.length wc2, .slice la2 M2.L.length lc2, .bool M2.F] _ rfl rfl _ HS6.out.bx (by kernel_rfl) (Nat.le_of_ble_eq_true rfl) (by kernel_rfl) rfl ?_; intro w7 a1 a2 a3 a4; have HS7 := hid (HS6.out.putM HM6.out aw5 al5 a1 a2 a3); have KQ7 := hid (a2 Q _ (by omega) KQ6.out); clear a1 a2 a3 a4 HS6 HM6 KQ6; (try simp only [Act.put]))
      | (refine wp_storeP rfl 111 (.tmp 7) (.tmp 36) rfl Q 0 _ #[.int .u64 ((x : Nat) : Int), .bool d] _ rfl rfl _ KQ7.out (by kernel_rfl) (Nat.le_of_ble_eq_true rfl) (by kernel_rfl) rfl ?_; intro w8 a1 a2 a3 a4; have HY := hid (HS7.out.keep hGQ apQ.1 apQ.2 a2 (a3 _ _ (by omega) HS7.out.below)); have KQ := hid a1; clear a1 a2 a3 a4 HS7 KQ7; (try simp only [Act.put])))
    clear hw6 hQ hVX apQ aw5 al5
    have y0 := cell_laid (i := 0) HY.out.by_ rfl
    have y1 := cell_laid (i := 1) HY.out.by_ rfl
    have y2 := cell_laid (i := 2) HY.out.by_ rfl
    go_upto_block 0 with (fail)
    clear y0 y1 y2 hjx
    go_cut [] (fun W => ∃ s' : Sk, Hid (s' = if d = true then thenS ⟨((k : Nat) : Int), hash, key, link, node, val, found⟩ x k else ⟨5, hash, key, link, node, val, found⟩) ∧ Hid (Sq 41 #[.int .i64 0, .int .u64 0, .int .u64 0, .int .u64 0, .int .u64 0, .int .u64 0, .bool false] V X Y Z G wa2 wc2 la2 lc2 M2 (sk7 s') W))
    case first =>
      have g1 := cell_laid (i := 1) KQ.out rfl
      have g0 := cell_laid (i := 0) KQ.out rfl
      have y0 := cell_laid (i := 0) HY.out.by_ rfl
      have y4 := cell_laid (i := 4) HY.out.by_ rfl
      cases d with
      | false =>
        go_wp2_with ((refine wp_storeP rfl 3 (.tmp 53) (.const (.int .i64 5)) rfl Y 0 _ #[.int .i64 5, .int .u64 ((hash : Nat) : Int), .int .u64 ((key : Nat) : Int), .int .u64 ((link : Nat) : Int), .int .u64 ((node : Nat) : Int), .int .u64 ((val : Nat) : Int), .bool found] _ rfl rfl _ HY.out.by_ (by kernel_rfl) (Nat.le_of_ble_eq_true rfl) (by kernel_rfl) rfl ?_; intro uy a1 a2 a3 a4; replace HY := hid (HY.out.putY a1 a2 a3); clear a1 a2 a3 a4; (try simp only [Act.put])))
        go_meet
        exact ⟨⟨5, hash, key, link, node, val, found⟩, hid (by rw [if_neg (by simp)]), HY⟩
      | true =>
        rcases (by omega : k = 0 ∨ k = 1 ∨ k = 2 ∨ k = 3) with rfl | rfl | rfl | rfl
        · skip
          by_cases hx0 : x = 0
          · subst hx0
            go_wp2_with (first | (refine wp_storeP rfl 26 (.tmp 63) (.const (.int .u64 0)) rfl Y 4 _ #[.int .i64 0, .int .u64 ((hash : Nat) : Int), .int .u64 ((key : Nat) : Int), .int .u64 ((link : Nat) : Int), .int .u64 0, .int .u64 ((val : Nat) : Int), .bool found] _ rfl rfl _ HY.out.by_ (by kernel_rfl) (Nat.le_of_ble_eq_true rfl) (by kernel_rfl) rfl ?_; intro uy a1 a2 a3 a4; replace HY := hid (HY.out.putY a1 a2 a3); clear a1 a2 a3 a4; (try simp only [Act.put])) | (refine wp_storeP rfl 3 (.tmp 64) (.const (.int .i64 4)) rfl Y 0 _ #[.int .i64 4, .int .u64 ((hash : Nat) : Int), .int .u64 ((key : Nat) : Int), .int .u64 ((link : Nat) : Int), .int .u64 0, .int .u64 ((val : Nat) : Int), .bool found] _ rfl rfl _ HY.out.by_ (by kernel_rfl) (Nat.le_of_ble_eq_true rfl) (by kernel_rfl) rfl ?_; intro uy a1 a2 a3 a4; replace HY := hid (HY.out.putY a1 a2 a3); clear a1 a2 a3 a4; (try simp only [Act.put])))
            go_meet
            exact ⟨⟨4, hash, key, link, 0, val, found⟩, hid rfl, HY⟩
          · have t3 : (((x : Nat) : Int) == 0) = false := by simp; omega
            go_wp2_with (first | (refine wp_storeP rfl 26 (.tmp 71) (.tmp 70) rfl Y 4 _ #[.int .i64 0, .int .u64 ((hash : Nat) : Int), .int .u64 ((key : Nat) : Int), .int .u64 ((link : Nat) : Int), .int .u64 ((x : Nat) : Int), .int .u64 ((val : Nat) : Int), .bool found] _ rfl rfl _ HY.out.by_ (by kernel_rfl) (Nat.le_of_ble_eq_true rfl) (by kernel_rfl) rfl ?_; intro uy a1 a2 a3 a4; replace HY := hid (HY.out.putY a1 a2 a3); clear a1 a2 a3 a4; (try simp only [Act.put])) | (refine wp_storeP rfl 3 (.tmp 72) (.const (.int .i64 1)) rfl Y 0 _ #[.int .i64 1, .int .u64 ((hash : Nat) : Int), .int .u64 ((key : Nat) : Int), .int .u64 ((link : Nat) : Int), .int .u64 ((x : Nat) : Int), .int .u64 ((val : Nat) : Int), .bool found] _ rfl rfl _ HY.out.by_ (by kernel_rfl) (Nat.le_of_ble_eq_true rfl) (by kernel_rfl) rfl ?_; intro uy a1 a2 a3 a4; replace HY := hid (HY.out.putY a1 a2 a3); clear a1 a2 a3 a4; (try simp only [Act.put])))
            go_meet
            exact ⟨⟨1, hash, key, link, x, val, found⟩, hid (by rw [if_pos (by trivial)]; show _ = (⟨if x = 0 then 4 else 1, hash, key, link, x, val, found⟩ : Sk); rw [if_neg hx0]), HY⟩
        · skip
          obtain rfl : hash = wn := HKE.out
          by_cases hlt : x < hash
          · have u0 : decide (((x : Nat) : Int) < ((hash : Nat) : Int)) = true := decide_eq_true (by omega)
            have u1 : decide (x < hash) = true := decide_eq_true hlt
            go_wp2_with (first | (refine wp_storeP rfl 26 (.tmp 90) (.tmp 89) rfl Y 3 _ #[.int .i64 1, .int .u64 ((hash : Nat) : Int), .int .u64 ((key : Nat) : Int), .int .u64 ((((node + 2) % 18446744073709551616) : Nat) : Int), .int .u64 ((node : Nat) : Int), .int .u64 ((val : Nat) : Int), .bool found] _ rfl rfl _ HY.out.by_ (by kernel_rfl) (Nat.le_of_ble_eq_true rfl) (by kernel_rfl) rfl ?_; intro uy a1 a2 a3 a4; replace HY := hid (HY.out.putY a1 a2 a3); clear a1 a2 a3 a4; (try simp only [Act.put])) | (refine wp_storeP rfl 3 (.tmp 91) (.const (.int .i64 0)) rfl Y 0 _ #[.int .i64 0, .int .u64 ((hash : Nat) : Int), .int .u64 ((key : Nat) : Int), .int .u64 ((((node + 2) % 18446744073709551616) : Nat) : Int), .int .u64 ((node : Nat) : Int), .int .u64 ((val : Nat) : Int), .bool found] _ rfl rfl _ HY.out.by_ (by kernel_rfl) (Nat.le_of_ble_eq_true rfl) (by kernel_rfl) rfl ?_; intro uy a1 a2 a3 a4; replace HY := hid (HY.out.putY a1 a2 a3); clear a1 a2 a3 a4; (try simp only [Act.put])))
            go_meet
            exact ⟨⟨0, hash, key, (node + 2) % 18446744073709551616, node, val, found⟩, hid (by rw [if_pos (by trivial)]; show _ = cmpS _ x hash _; unfold cmpS; rw [if_pos hlt]), HY⟩
          · have u0 : decide (((x : Nat) : Int) < ((hash : Nat) : Int)) = false := decide_eq_false (by omega)
            have u1 : decide (x < hash) = false := decide_eq_false hlt
            by_cases hgt : hash < x
            · have u2 : decide (((x : Nat) : Int) > ((hash : Nat) : Int)) = true := decide_eq_true (by omega)
              have u3 : decide (((hash : Nat) : Int) < ((x : Nat) : Int)) = true := decide_eq_true (by omega)
              have u4 : decide (hash < x) = true := decide_eq_true hgt
              go_wp2_with ((refine wp_storeP rfl 3 (.tmp 97) (.const (.int .i64 4)) rfl Y 0 _ #[.int .i64 4, .int .u64 ((hash : Nat) : Int), .int .u64 ((key : Nat) : Int), .int .u64 ((link : Nat) : Int), .int .u64 ((node : Nat) : Int), .int .u64 ((val : Nat) : Int), .bool found] _ rfl rfl _ HY.out.by_ (by kernel_rfl) (Nat.le_of_ble_eq_true rfl) (by kernel_rfl) rfl ?_; intro uy a1 a2 a3 a4; replace HY := hid (HY.out.putY a1 a2 a3); clear a1 a2 a3 a4; (try simp only [Act.put])))
              go_meet
              exact ⟨⟨4, hash, key, link, node, val, found⟩, hid (by rw [if_pos (by trivial)]; show _ = cmpS _ x hash _; unfold cmpS; rw [if_neg hlt, if_pos hgt]), HY⟩
            · have u2 : decide (((x : Nat) : Int) > ((hash : Nat) : Int)) = false := decide_eq_false (by omega)
              have u3 : decide (((hash : Nat) : Int) < ((x : Nat) : Int)) = false := decide_eq_false (by omega)
              have u4 : decide (hash < x) = false := decide_eq_false hgt
              go_wp2_with ((refine wp_storeP rfl 3 (.tmp 48) (.tmp 47) rfl Y 0 _ #[.int .i64 2, .int .u64 ((hash : Nat) : Int), .int .u64 ((key : Nat) : Int), .int .u64 ((link : Nat) : Int), .int .u64 ((node : Nat) : Int), .int .u64 ((val : Nat) : Int), .bool found] _ rfl rfl _ HY.out.by_ (by kernel_rfl) (Nat.le_of_ble_eq_true rfl) (by kernel_rfl) rfl ?_; intro uy a1 a2 a3 a4; replace HY := hid (HY.out.putY a1 a2 a3); clear a1 a2 a3 a4; (try simp only [Act.put])))
              go_meet
              exact ⟨⟨2, hash, key, link, node, val, found⟩, hid (by rw [if_pos (by trivial)]; show _ = cmpS _ x hash _; unfold cmpS; rw [if_neg hlt, if_neg hgt]), HY⟩
        · skip
          obtain rfl : key = wn := HKE.out
          by_cases hlt : x < key
          · have u0 : decide (((x : Nat) : Int) < ((key : Nat) : Int)) = true := decide_eq_true (by omega)
            have u1 : decide (x < key) = true := decide_eq_true hlt
            go_wp2_with (first | (refine wp_storeP rfl 26 (.tmp 90) (.tmp 89) rfl Y 3 _ #[.int .i64 2, .int .u64 ((hash : Nat) : Int), .int .u64 ((key : Nat) : Int), .int .u64 ((((node + 2) % 18446744073709551616) : Nat) : Int), .int .u64 ((node : Nat) : Int), .int .u64 ((val : Nat) : Int), .bool found] _ rfl rfl _ HY.out.by_ (by kernel_rfl) (Nat.le_of_ble_eq_true rfl) (by kernel_rfl) rfl ?_; intro uy a1 a2 a3 a4; replace HY := hid (HY.out.putY a1 a2 a3); clear a1 a2 a3 a4; (try simp only [Act.put])) | (refine wp_storeP rfl 3 (.tmp 91) (.const (.int .i64 0)) rfl Y 0 _ #[.int .i64 0, .int .u64 ((hash : Nat) : Int), .int .u64 ((key : Nat) : Int), .int .u64 ((((node + 2) % 18446744073709551616) : Nat) : Int), .int .u64 ((node : Nat) : Int), .int .u64 ((val : Nat) : Int), .bool found] _ rfl rfl _ HY.out.by_ (by kernel_rfl) (Nat.le_of_ble_eq_true rfl) (by kernel_rfl) rfl ?_; intro uy a1 a2 a3 a4; replace HY := hid (HY.out.putY a1 a2 a3); clear a1 a2 a3 a4; (try simp only [Act.put])))
            go_meet
            exact ⟨⟨0, hash, key, (node + 2) % 18446744073709551616, node, val, found⟩, hid (by rw [if_pos (by trivial)]; show _ = cmpS _ x key _; unfold cmpS; rw [if_pos hlt]), HY⟩
          · have u0 : decide (((x : Nat) : Int) < ((key : Nat) : Int)) = false := decide_eq_false (by omega)
            have u1 : decide (x < key) = false := decide_eq_false hlt
            by_cases hgt : key < x
            · have u2 : decide (((x : Nat) : Int) > ((key : Nat) : Int)) = true := decide_eq_true (by omega)
              have u3 : decide (((key : Nat) : Int) < ((x : Nat) : Int)) = true := decide_eq_true (by omega)
              have u4 : decide (key < x) = true := decide_eq_true hgt
              go_wp2_with ((refine wp_storeP rfl 3 (.tmp 97) (.const (.int .i64 4)) rfl Y 0 _ #[.int .i64 4, .int .u64 ((hash : Nat) : Int), .int .u64 ((key : Nat) : Int), .int .u64 ((link : Nat) : Int), .int .u64 ((node : Nat) : Int), .int .u64 ((val : Nat) : Int), .bool found] _ rfl rfl _ HY.out.by_ (by kernel_rfl) (Nat.le_of_ble_eq_true rfl) (by kernel_rfl) rfl ?_; intro uy a1 a2 a3 a4; replace HY := hid (HY.out.putY a1 a2 a3); clear a1 a2 a3 a4; (try simp only [Act.put])))
              go_meet
              exact ⟨⟨4, hash, key, link, node, val, found⟩, hid (by rw [if_pos (by trivial)]; show _ = cmpS _ x key _; unfold cmpS; rw [if_neg hlt, if_pos hgt]), HY⟩
            · have u2 : decide (((x : Nat) : Int) > ((key : Nat) : Int)) = false := decide_eq_false (by omega)
              have u3 : decide (((key : Nat) : Int) < ((x : Nat) : Int)) = false := decide_eq_false (by omega)
              have u4 : decide (key < x) = false := decide_eq_false hgt
              go_wp2_with ((refine wp_storeP rfl 3 (.tmp 48) (.tmp 47) rfl Y 0 _ #[.int .i64 3, .int .u64 ((hash : Nat) : Int), .int .u64 ((key : Nat) : Int), .int .u64 ((link : Nat) : Int), .int .u64 ((node : Nat) : Int), .int .u64 ((val : Nat) : Int), .bool found] _ rfl rfl _ HY.out.by_ (by kernel_rfl) (Nat.le_of_ble_eq_true rfl) (by kernel_rfl) rfl ?_; intro uy a1 a2 a3 a4; replace HY := hid (HY.out.putY a1 a2 a3); clear a1 a2 a3 a4; (try simp only [Act.put])))
              go_meet
              exact ⟨⟨3, hash, key, link, node, val, found⟩, hid (by rw [if_pos (by trivial)]; show _ = cmpS _ x key _; unfold cmpS; rw [if_neg hlt, if_neg hgt]), HY⟩
        · skip
          go_wp2_with (first | (refine wp_storeP rfl 26 (.tmp 79) (.tmp 78) rfl Y 5 _ #[.int .i64 3, .int .u64 ((hash : Nat) : Int), .int .u64 ((key : Nat) : Int), .int .u64 ((link : Nat) : Int), .int .u64 ((node : Nat) : Int), .int .u64 ((x : Nat) : Int), .bool found] _ rfl rfl _ HY.out.by_ (by kernel_rfl) (Nat.le_of_ble_eq_true rfl) (by kernel_rfl) rfl ?_; intro uy a1 a2 a3 a4; replace HY := hid (HY.out.putY a1 a2 a3); clear a1 a2 a3 a4; (try simp only [Act.put])) | (refine wp_storeP rfl 4 (.tmp 80) (.const (.bool true)) rfl Y 6 _ #[.int .i64 3, .int .u64 ((hash : Nat) : Int), .int .u64 ((key : Nat) : Int), .int .u64 ((link : Nat) : Int), .int .u64 ((node : Nat) : Int), .int .u64 ((x : Nat) : Int), .bool true] _ rfl rfl _ HY.out.by_ (by kernel_rfl) (Nat.le_of_ble_eq_true rfl) (by kernel_rfl) rfl ?_; intro uy a1 a2 a3 a4; replace HY := hid (HY.out.putY a1 a2 a3); clear a1 a2 a3 a4; (try simp only [Act.put])) | (refine wp_storeP rfl 3 (.tmp 81) (.const (.int .i64 4)) rfl Y 0 _ #[.int .i64 4, .int .u64 ((hash : Nat) : Int), .int .u64 ((key : Nat) : Int), .int .u64 ((link : Nat) : Int), .int .u64 ((node : Nat) : Int), .int .u64 ((x : Nat) : Int), .bool true] _ rfl rfl _ HY.out.by_ (by kernel_rfl) (Nat.le_of_ble_eq_true rfl) (by kernel_rfl) rfl ?_; intro uy a1 a2 a3 a4; replace HY := hid (HY.out.putY a1 a2 a3); clear a1 a2 a3 a4; (try simp only [Act.put])))
          go_meet
          exact ⟨⟨4, hash, key, link, node, x, true⟩, hid rfl, HY⟩
    case rest =>
      obtain ⟨s', hs', hS⟩ := hcut
      obtain ⟨ph', hash', key', link', node', val', found'⟩ := s'
      unfold sk7 at hS
      dsimp only at hS
      have HRE := hid hs'.out
      clear hs' HY KQ
      go_upto_region 19 with (fail)
      obtain ⟨D, hD⟩ : ∃ DX, World.drew wc = DX := ⟨_, rfl⟩
      have hbD : Below (wc).heap.size wc D := by rw [← hD]; exact (Below.refl _ _).drew
      have HSD := hid (hS.out.grow hbD)
      have HD := hid hD
      clear hD hbD hS
      haveI : Nonempty (RYX 41 X Y #[.slice wa2 M2.W.length wc2, .slice la2 M2.L.length lc2, .bool M2.F] #[.int .i64 ph', .int .u64 ((hash' : Nat) : Int), .int .u64 ((key' : Nat) : Int), .int .u64 ((link' : Nat) : Int), .int .u64 ((node' : Nat) : Int), .int .u64 ((val' : Nat) : Int), .bool found']) := ⟨⟨D, HSD.out.bx, HSD.out.by_⟩⟩
      refine wp_region_mix2 (fun W => ∃ z : RYX 41 X Y #[.slice wa2 M2.W.length wc2, .slice la2 M2.L.length lc2, .bool M2.F] #[.int .i64 ph', .int .u64 ((hash' : Nat) : Int), .int .u64 ((key' : Nat) : Int), .int .u64 ((link' : Nat) : Int), .int .u64 ((node' : Nat) : Int), .int .u64 ((val' : Nat) : Int), .bool found'], W = z.w) 4 (.q 0 (.q 1 (.h 2 (.h 3 (.done))))) (by kernel_rfl) (by kernel_rfl) (by rw [HD.out]; exact ⟨⟨D, HSD.out.bx, HSD.out.by_⟩, rfl⟩) ?_
      rw [HD.out]
      refine wpMix2_q rfl rfl ?_
      refine wpQuiet_loadW rfl 25 (.tmp 2) rfl X _ rfl _ (by rintro _ ⟨z, rfl⟩; exact z.bx) _ Tryz.underlying25 rfl (by kernel_rfl) ?_
      intro v hv
      subst hv
      refine wpQuiet_nil ?_
      refine wpMix2_q rfl rfl ?_
      refine wpQuiet_loadW rfl 41 (.tmp 3) rfl Y _ rfl _ (by rintro _ ⟨z, rfl⟩; exact z.by_) _ Tryz.underlying41 rfl (by kernel_rfl) ?_
      intro v hv
      subst hv
      refine wpQuiet_nil ?_
      simp only [Act.put, List.setIfInBounds_toArray, List.set_cons_succ, List.set_cons_zero]
      refine wpMix2_h rfl fun R' hR' hO => ?_
      go_wp2_with (refine wp_storeP rfl 25 (.tmp 4) (.tmp 98) rfl Z 0 _ #[.slice wa2 M2.W.length wc2, .slice la2 M2.L.length lc2, .bool M2.F] _ rfl rfl _ HSD.out.bz (by kernel_rfl) (Nat.le_of_ble_eq_true rfl) (by kernel_rfl) rfl ?_; intro v1 a1 a2 a3 a4; have HSZ := hid (HSD.out.putZ a1 a2 a3); clear a1 a2 a3 a4; (try simp only [Act.put]))
      refine hR' _ _ ⟨⟨v1, HSZ.out.bx, HSZ.out.by_⟩, rfl⟩ ?_
      clear hR' hO R'
      refine wpMix2_h rfl fun R' hR' hO => ?_
      go_wp2_with (refine wp_storeP rfl 41 (.tmp 5) (.tmp 99) rfl G 0 _ #[.int .i64 ph', .int .u64 ((hash' : Nat) : Int), .int .u64 ((key' : Nat) : Int), .int .u64 ((link' : Nat) : Int), .int .u64 ((node' : Nat) : Int), .int .u64 ((val' : Nat) : Int), .bool found'] _ rfl rfl _ HSZ.out.bg (by kernel_rfl) (Nat.le_of_ble_eq_true rfl) (by kernel_rfl) rfl ?_; intro v2 a1 a2 a3 a4; have HSF := hid (HSZ.out.putG a1 a2 a3); clear a1 a2 a3 a4; (try simp only [Act.put]))
      refine hR' _ _ ⟨⟨v2, HSF.out.2.2.2.2.1, HSF.out.2.2.2.2.2⟩, rfl⟩ ?_
      clear hR' hO R'
      refine wpMix2_done ?_
      simp only [List.drop_succ_cons, List.drop_nil]
      go_wp2
      refine bodyPost_ret (SeekStep_result HSF.out.1 rfl HSF.out.2.1 rfl) rfl ?_
      rw [HSE.out, ← HRE.out]
      exact ⟨wa2, wc2, la2, lc2, rfl, HSF.out.2.2.1, HSF.out.2.2.2.1, KWV.out, KLV.out⟩
end Go.Proofs.YtahicokokfcieaaGreatDoor
namespace Go.Proofs.YtahicokokfcieaaGreatDoor
open Go.RowKit
open Go.Proofs
set_option linter.unusedVariables false
attribute [local go_sem] Oper.semAt_some
end Go.Proofs.YtahicokokfcieaaGreatDoor
namespace Go.Proofs.YtahicokokfcieaaGreatDoor
open Go.RowKit
open Go.Proofs
set_option linter.unusedVariables false
attribute [local go_sem] Oper.semAt_some
structure Wd (V : World) (tk : List Nat) (v5 : Value) (W : World) : Prop where
  r5 : W.ownsRow V.heap.size 3 1 v5 tk.length (ncells tk)
  below : Below V.heap.size V W
theorem Wd.grow {V W W' : World} {tk : List Nat} {v5 : Value} (h : Wd V tk v5 W) (hb : Below W.heap.size W W') : Wd V tk v5 W' := ⟨own_grow h.r5 hb, h.below.trans (hb.mono h.below.size)⟩
theorem Wd.app {V W W' : World} {q : Nat} {tk : List Nat} {v5 v5' : Value} (h : Wd V tk v5 W) (ho : W'.ownsRow V.heap.size 3 1 v5' (tk.length + 1) (ncells tk ++ [.int .i64 ((q : Nat) : Int)])) (hg : W.grownBy W' v5.ownBlock) : Wd V (tk ++ [q]) v5' W' := by
  refine ⟨?_, h.below.trans (own_below h.r5 hg h.below.size)⟩
  rw [List.length_append, ncells_app]
  exact ho
set_option maxRecDepth 100000 in
set_option maxHeartbeats 8000000 in
theorem Words_any (head : Nat) (xs : List Nd) (a : Option Addr) (n cap : Nat) (V : World) (hh : head < 18446744073709551616) (hl : Leads V a n cap (ndcells xs)) (hn : xs.length = n) (hn5 : n ≤ 5000) (hx : ∀ x ∈ xs, x.1 < 18446744073709551616) :
    Calls Tryz.prog 37 #[.int .u64 ((head : Nat) : Int), .slice a n cap] V (Fresh 3 1 (wordsL head xs).length (ncells (wordsL head xs)) V) := by
  have HN := hid hn
  have HL := hid hl
  have HXS := hid hx
  have hnl := hl.len
  obtain ⟨H0, hH0⟩ : ∃ q, posL head 0 = q := ⟨_, rfl⟩
  have HH0 := hid hH0
  have HAH := hid (rat_any head 0 V hh (by decide))
  rw [hH0] at HAH
  clear hl hn hx hH0
  go_enter Tryz.func37, Tryz.ntmps37
  go_wp2_with fail
  refine HAH.out.mono ?_
  rintro e wq ⟨rfl, hwq⟩
  rw [hwq]
  clear hwq wq HAH
  obtain ⟨w3, hw3, hb3, hs3, hl3⟩ := laid V #[.int .i64 ((H0 : Nat) : Int)] 3
  obtain ⟨Z, hZ⟩ : ∃ X, V.heap.size = X := ⟨_, rfl⟩
  rw [hZ] at hl3
  have HF4 : Hid (Wd V [H0] (.slice (some ⟨Z, 0, none⟩) 1 1) w3) := hid ⟨row_new hl3 rfl (by decide) (by omega), hb3⟩
  clear hb3 hs3 hl3
  go_upto_region 2 with (fail)
  clear hZ
  go_wp2
  go_loopg [5, 14] n (fun g t5 t14 wr => ∃ (k : Nat) (v5 : Value), g + k = n ∧ t14 = .int .i64 ((k : Nat) : Int) ∧ v5 = t5 ∧ Hid (Wd V (wordsL head (xs.take k)) v5 wr))
  case atStart => exact ⟨0, _, rfl, rfl, rfl, hid (by have := HF4.out; unfold wordsL; rw [HH0.out]; exact this)⟩
  case round =>
    clear HF4
    obtain ⟨k, v5, hk, rfl, rfl, hF⟩ := hrel
    have HK := hid hk
    clear hk
    by_cases hlt : k < n
    · obtain ⟨⟨p0, p1, p2, p3⟩, hp⟩ : ∃ x, xs[k]? = some x := ⟨_, List.getElem?_eq_getElem (by rw [HN.out]; exact hlt)⟩
      obtain ⟨b, off, rfl, -, hcc⟩ := HL.out.nd hlt hp
      obtain ⟨c0, c1, c2, c3⟩ := hcc wr hF.out.below
      have hp0 : p0 < 18446744073709551616 := HXS.out _ (List.mem_of_getElem? hp)
      obtain ⟨w5, hw5, hb5, hs5, hl5⟩ := laid wr #[.int .u64 0, .int .u64 0, .int .u64 0, .int .u64 0] 50
      obtain ⟨B, hB⟩ : ∃ X, wr.heap.size = X := ⟨_, rfl⟩
      rw [hB] at hl5
      obtain ⟨w6, hw6, a1, a2, a3⟩ := put4 hl5 (.int .u64 ((p0 : Nat) : Int)) (.int .u64 ((p1 : Nat) : Int)) (.int .u64 ((p2 : Nat) : Int)) (.int .u64 ((p3 : Nat) : Int))
      obtain ⟨z0, zf0, z1, zf1, z2, zf2, z3, zf3⟩ := fcl4 hl5
      have HB6 := hid a1
      have HF6 : Hid (Wd V (wordsL head (xs.take k)) v5 w6) := hid (by
        have g := hF.out.grow hb5
        exact ⟨own_keep g.r5 fun j o hj ho => a2 j o (by have := own_lt hF.out.r5 j hj; omega) ho, a3 _ _ (by have := hF.out.below.size; omega) g.below⟩)
      have HW6 := hid hw6
      have HTK : Hid (wordsL head (xs.take (k + 1)) = wordsL head (xs.take k) ++ [posL p0 0, posL p0 1, posL p0 2, posL p0 3]) := hid (by unfold wordsL; rw [take_snoc hp, List.flatMap_append]; simp)
      have hlen : Hid ((wordsL head (xs.take k)).length ≤ 30000) := hid (by unfold wordsL; rw [List.length_cons, flat4_len, List.length_take, HN.out]; omega)
      clear hw6 a1 a2 a3 hb5 hs5 hl5 hcc hp hF
      obtain ⟨G, hG⟩ : ∃ G, G = gk - 1 := ⟨_, rfl⟩
      have HG := hid hG
      clear hG
      go_upto_region 5 with (fail)
      rw [← HW6.out]
      clear c0 c1 c2 c3 z0 z1 z2 z3 zf0 zf1 zf2 zf3 HW6
      go_wp2
      go_loopg [5, 18] 4 (fun g t5 t18 wr => ∃ (j : Nat) (v5 : Value), g + j = 4 ∧ t18 = .int .i64 ((j : Nat) : Int) ∧ v5 = t5 ∧ Hid (Wd V (wordsL head (xs.take k) ++ [posL p0 0, posL p0 1, posL p0 2, posL p0 3].take j) v5 wr) ∧ Hid (wr.heap[B]? = some (.cells #[.int .u64 ((p0 : Nat) : Int), .int .u64 ((p1 : Nat) : Int), .int .u64 ((p2 : Nat) : Int), .int .u64 ((p3 : Nat) : Int)] 50 (0, 0))))
      case atStart => exact ⟨0, _, rfl, rfl, rfl, hid (by have := HF6.out; simpa using this), HB6⟩
      case round =>
        clear HF6 HB6
        obtain ⟨j, v5, hj, rfl, rfl, hF, hBB⟩ := hrel
        have HJ := hid hj
        clear hj
        by_cases hjt : j < 4
        · obtain ⟨m, hm⟩ : ∃ m, (wordsL head (xs.take k) ++ [posL p0 0, posL p0 1, posL p0 2, posL p0 3].take j).length = m := ⟨_, rfl⟩
          have hm6 : m ≤ 40000 := by rw [← hm, List.length_append, List.length_take]; have := hlen.out; omega
          obtain ⟨x9, y9, e9, -⟩ := Leads.of_own hF.out.r5
          rw [hm] at e9
          subst e9
          have b0 := cell_laid (i := 0) hBB.out rfl
          obtain ⟨P, hP⟩ : ∃ q, posL p0 j = q := ⟨_, rfl⟩
          have HAP := hid (fun W => rat_any p0 j W hp0 (by omega))
          rw [hP] at HAP
          have HPJ := hid (four_snoc p0 j hjt)
          rw [hP] at HPJ
          have HM := hid hm
          clear hP hm
          go_wp2_with fail
          refine (HAP.out _).mono ?_
          rintro e wq ⟨rfl, hwq⟩
          rw [hwq]
          clear hwq wq HAP
          obtain ⟨w7, hw7, hb7, hs7, hl7⟩ := laid wr #[.int .i64 ((P : Nat) : Int)] 3
          obtain ⟨Z, hZ⟩ : ∃ X, wr.heap.size = X := ⟨_, rfl⟩
          rw [hZ] at hl7
          have HLZ := hid hl7
          have HFZ := hid (hF.out.grow hb7)
          have HBZ := hid (keep_laid hBB.out hb7)
          have HOW : Hid (w7.ownsRow V.heap.size 3 1 (.slice x9 m y9) m (ncells (wordsL head (xs.take k) ++ [posL p0 0, posL p0 1, posL p0 2, posL p0 3].take j))) := hid (by have := HFZ.out.r5; rw [HM.out] at this; exact this)
          clear hb7 hs7 hl7 b0
          go_wp2_with ((with_reducible show wpList _ _ _ _ _ _); refine wp_appendM elemInts rfl (.tmp 21) (.tmp 26) rfl V.heap.size (.slice x9 m y9) m (ncells (wordsL head (xs.take k) ++ [posL p0 0, posL p0 1, posL p0 2, posL p0 3].take j)) rfl HOW.out ⟨Z, 0, none⟩ 1 1 [.int .i64 ((P : Nat) : Int)] rfl rfl ?c1 ?c2 ?c3 ?c4 ?c5)
          case c1 => intro j u hj; refine cell_add (o := 0) (by rw [Nat.zero_add]; exact cell_laid HLZ.out (by simpa using hj))
          case c2 => first | (intro u hu; simp at hu; subst hu; rfl) | omega
          try (case c3 => omega)
          try (case c4 => exact HFZ.out.below.size)
          case c5 =>
            intro v' w8 ho hg hmv
            have HF8 := hid (HFZ.out.app (q := P) (v5' := v') (by rw [HM.out]; exact ho) hg)
            have HB8 := hid (keep_grown HBZ.out hg (own_ne HOW.out HBZ.out (by decide)))
            obtain ⟨x9', y9', e9, -⟩ := Leads.of_own ho
            subst e9
            clear ho hg hmv HFZ HLZ HOW HBZ hF hBB
            go_wp2
            go_roundg (gk - 1)
            case measure => have := HJ.out; omega
            case rel => exact ⟨j + 1, _, by have := HJ.out; omega, by go_num, rfl, hid (by have := HF8.out; rw [HPJ.out, ← List.append_assoc]; exact this), HB8⟩
        · have e4 : j = 4 := by have := HJ.out; omega
          subst e4
          have HF9 : Hid (Wd V (wordsL head (xs.take (k + 1))) v5 wr) := hid (by have := hF.out; rw [HTK.out]; exact this)
          clear hF
          go_wp2
          go_roundg G
          case measure => have := HK.out; have := HG.out; omega
          case rel => exact ⟨k + 1, _, by have := HK.out; have := HG.out; omega, by go_num, rfl, HF9⟩
    · have e := HK.out
      obtain rfl : k = n := by omega
      have HF5 : Hid (Wd V (wordsL head xs) v5 wr) := hid (by have := hF.out; rw [List.take_of_length_le (by rw [HN.out]; exact Nat.le_refl _)] at this; exact this)
      clear hF e HK
      go_wp2
      go_ret
      exact ⟨_, rfl, HF5.out.r5, HF5.out.below⟩
end Go.Proofs.YtahicokokfcieaaGreatDoor
