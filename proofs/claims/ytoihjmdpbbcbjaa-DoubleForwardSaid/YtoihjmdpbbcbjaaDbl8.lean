/- Lists linked both ways: who changes a list. -/
import Derived.Test.YtoihjmdpbbcbjaaDbl7
namespace Go.Proofs.Ytoihjmdpbbcbjaa
open Go.RowKit
open Go.Proofs
set_option linter.unusedVariables false
attribute [local go_sem] Oper.semAt_some

/-- Who changes a list. -/
structure Ed where
  ph : Int
  cuts : Bool
  head : Nat
  pl : Nat
  key : Nat
  val : Nat
  prev : Nat
  next : Nat
/-- Its numbers are words. -/
structure Ed.Ok (s : Ed) : Prop where
  ph : -9223372036854775808 ≤ s.ph ∧ s.ph ≤ 9223372036854775807
  head : s.head < 18446744073709551616
  pl : s.pl < 18446744073709551616
  key : s.key < 18446744073709551616
  val : s.val < 18446744073709551616
  prev : s.prev < 18446744073709551616
  next : s.next < 18446744073709551616
def edV (s : Ed) : Value := .agg #[.int .i64 s.ph, .bool s.cuts, .int .u64 ((s.head : Nat) : Int), .int .u64 ((s.pl : Nat) : Int), .int .u64 ((s.key : Nat) : Int), .int .u64 ((s.val : Nat) : Int), .int .u64 ((s.prev : Nat) : Int), .int .u64 ((s.next : Nat) : Int)]
abbrev edCells (s : Ed) (lost : Bool) (wa : Option Addr) (n wc : Nat) (la : Option Addr) (m lc : Nat) (F : Bool) : Array Value :=
  #[.int .i64 s.ph, .bool s.cuts, .int .u64 ((s.head : Nat) : Int), .int .u64 ((s.pl : Nat) : Int), .int .u64 ((s.key : Nat) : Int), .int .u64 ((s.val : Nat) : Int), .int .u64 ((s.prev : Nat) : Int), .int .u64 ((s.next : Nat) : Int), .slice wa n wc, .slice la m lc, .bool F, .bool lost]
def apartA (a : Option Addr) (E : Nat) : Prop := ∀ b off, a = some ⟨b, off, none⟩ → b ≠ E
def lowA (a : Option Addr) (B : Nat) : Prop := ∀ b off, a = some ⟨b, off, none⟩ → b < B
structure EdC (B : Nat) (fr : Bool) (E : Nat) (wa : Option Addr) (wc : Nat) (la : Option Addr) (lc : Nat) (s : Ed) (lost : Bool) (M : Mem) (V : World) : Prop where
  blk : V.heap[E]? = some (.cells (edCells s lost wa M.W.length wc la M.L.length lc M.F) 89 (0, 0))
  mem : MemL V wa wc la lc M
  nw : apartA wa E
  nl : apartA la E
  ow : fr = true → MemO B wa wc la lc M V
  lo : fr = false → lowA wa B ∧ lowA la B
def EdL (B : Nat) (fr : Bool) (E : Nat) (s : Ed) (lost : Bool) (M : Mem) (V : World) : Prop := ∃ wa wc la lc, EdC B fr E wa wc la lc s lost M V
theorem Leads.grownNe {V V' : World} {a : Option Addr} {n cap E : Nat} {cs : List Value} (h : Leads V a n cap cs) (ha : apartA a E) (hg : V.grownBy V' (some E)) : Leads V' a n cap cs := by
  obtain ⟨h1, h2, ⟨h3, h4⟩ | ⟨b, off, h3, h4, h5⟩⟩ := h
  · exact ⟨h1, h2, .inl ⟨h3, h4⟩⟩
  · refine ⟨h1, h2, .inr ⟨b, off, h3, Nat.lt_of_lt_of_le h4 hg.size, fun i v hv => ?_⟩⟩
    have hc := h5 i v hv
    have := hg.block b h4 (fun e' => ha b off h3 (Option.some.inj e'))
    unfold World.cell? at hc ⊢
    rw [this]
    exact hc
theorem grownBy_put {V : World} {E i : Nat} (v : Value) : V.grownBy (V.setCell ⟨E, i, none⟩ v) (some E) := grownBy_setCell V E i v
theorem EdC.grow {B : Nat} {fr : Bool} {E : Nat} {wa la : Option Addr} {wc lc : Nat} {s : Ed} {lost : Bool} {M : Mem} {V V' : World} (h : EdC B fr E wa wc la lc s lost M V) (hb : Below V.heap.size V V') : EdC B fr E wa wc la lc s lost M V' := ⟨keep_laid h.blk hb, h.mem.grow hb, h.nw, h.nl, fun e => (h.ow e).grow hb, h.lo⟩
theorem EdL.grow {B : Nat} {fr : Bool} {E : Nat} {s : Ed} {lost : Bool} {M : Mem} {V V' : World} (h : EdL B fr E s lost M V) (hb : Below V.heap.size V V') : EdL B fr E s lost M V' := let ⟨wa, wc, la, lc, k⟩ := h; ⟨wa, wc, la, lc, k.grow hb⟩
theorem MemO.apart {E base : Nat} {wa la : Option Addr} {wc lc : Nat} {M : Mem} {V : World} (h : MemO base wa wc la lc M V) (hE : E < base) : apartA wa E ∧ apartA la E := by
  constructor
  · rintro b off rfl rfl
    have := (h.w.lt b rfl).1; omega
  · rintro b off rfl rfl
    have := (h.l.lt b rfl).1; omega
theorem put5 {V : World} {Y : Nat} {z0 z1 z2 z3 z4 z5 z6 z7 z8 z9 z10 z11 : Value} {T : TypeId} (h : V.heap[Y]? = some (.cells #[z0, z1, z2, z3, z4, z5, z6, z7, z8, z9, z10, z11] T (0, 0))) (v8 v9 v10 : Value) :
    ∃ V', V' = ((V.setCell ⟨Y, 8, none⟩ v8).setCell ⟨Y, 9, none⟩ v9).setCell ⟨Y, 10, none⟩ v10 ∧ V'.heap[Y]? = some (.cells #[z0, z1, z2, z3, z4, z5, z6, z7, v8, v9, v10, z11] T (0, 0)) ∧ (∀ (k : Nat) (o : Obj), k ≠ Y → V.heap[k]? = some o → V'.heap[k]? = some o) ∧ V.grownBy V' (some Y) := by
  have h0 := set_laid (i := 8) h v8
  have h1 := set_laid (i := 9) h0 v9
  exact ⟨_, rfl, set_laid (i := 10) h1 v10, fun k o hk ho => other_laid (other_laid (other_laid ho hk _) hk _) hk _, grownBy_trans (grownBy_trans (grownBy_put _) (grownBy_put _)) (grownBy_put _)⟩

/-- What does reads behind its access. -/
structure RD (Y Q : Nat) (v0 v1 v2 u0 u1 : Value) where
  w : World
  y0 : w.cell? ⟨Y, 0, none⟩ = some v0
  y1 : w.cell? ⟨Y, 1, none⟩ = some v1
  y2 : w.cell? ⟨Y, 2, none⟩ = some v2
  q0 : w.cell? ⟨Q, 0, none⟩ = some u0
  q1 : w.cell? ⟨Q, 1, none⟩ = some u1

set_option maxRecDepth 100000 in
set_option maxHeartbeats 4000000 in
theorem edoes_any {B : Nat} {fr : Bool} (E : Nat) (s : Ed) (lost : Bool) (M : Mem) (st : Bool) (K at_ : Int) (new : Nat) (V : World) (h : EdL B fr E s lost M V) (hB : B ≤ V.heap.size) (hok : okM M = true) (hat : -9223372036854775808 ≤ at_ ∧ at_ ≤ 9223372036854775807) (hK : K = if st = true then 2 else 1) :
    Calls Try.prog 81 #[.pointer (some ⟨E, 0, none⟩), .int .i64 K, .int .i64 at_, .int .u64 ((new : Nat) : Int)] V (fun e W =>
      e = .returned (.int .u64 (((stepM M st at_ new).2.1 : Nat) : Int)) ∧ EdL B true E s (!(stepM M st at_ new).2.2) (stepM M st at_ new).1 W ∧ V.grownBy W (some E)) := by
  obtain ⟨wa, wc, la, lc, h⟩ := h
  obtain ⟨⟨M', x, d⟩, hR⟩ : ∃ R, stepM M st at_ new = R := ⟨_, rfl⟩
  have HS := hid (Step_any M wa la wc lc st K at_ 0 new V h.mem hok hat hK)
  rw [hR] at HS
  rw [hR]
  dsimp only at HS ⊢
  unfold memV at HS
  obtain ⟨ph, cuts, head, pl, key, val, prev, next⟩ := s
  have hblk := h.blk
  obtain ⟨n, hn⟩ : ∃ n, M.W.length = n := ⟨_, rfl⟩
  obtain ⟨m, hm⟩ : ∃ n, M.L.length = n := ⟨_, rfl⟩
  obtain ⟨F, hF⟩ : ∃ n, M.F = n := ⟨_, rfl⟩
  have hwl := h.mem.w.len
  have hll := h.mem.l.len
  rw [hn, hm, hF] at hblk HS
  rw [hn] at hwl
  rw [hm] at hll
  have HBLK := hid hblk
  have e8 := cell_laid (i := 8) hblk rfl
  have e9 := cell_laid (i := 9) hblk rfl
  have e10 := cell_laid (i := 10) hblk rfl
  have HEV := hid (lt_laid hblk)
  clear hok hat hK hR h hn hm hF hblk
  go_enter Try.func81, Try.ntmps81
  go_wp2_with fail
  refine HS.out.mono ?_
  rintro e V1 ⟨wa', wc', la', lc', rfl, hO, hb1⟩
  obtain ⟨V2, hV2, hb2, hs2, hl2⟩ := laid V1 #[.slice none 0 0, .slice none 0 0, .bool false] 25
  obtain ⟨V3, hV3, hb3, hs3, hl3⟩ := laid V2 #[.int .u64 0, .bool false] 91
  obtain ⟨Z, hZ⟩ : ∃ Z, V1.heap.size = Z := ⟨_, rfl⟩
  obtain ⟨G, hG⟩ : ∃ G, V2.heap.size = G := ⟨_, rfl⟩
  rw [hZ] at hl2
  rw [hG] at hl3
  have HZ := hid (keep_laid hl2 hb3)
  have HG := hid hl3
  have HE3 := hid (keep_laid (keep_laid (keep_laid HBLK.out hb1) hb2) hb3)
  have hEZ : E < Z := by have := HEV.out; have := hb1.size; omega
  have hZG : Z < G := by omega
  have HB3 := hid (step (step hb1 hb2) hb3)
  have HO := hid (hO.grow (step hb2 hb3))
  have HZV : Hid (V.heap.size ≤ Z) := hid (by have := hb1.size; omega)
  have HGV : Hid (V.heap.size ≤ G) := hid (by have := hb1.size; omega)
  clear hb1 hb2 hb3 hs2 hs3 hl2 hl3 hO e8 e9 e10
  unfold memV
  obtain ⟨z0, z1, z2⟩ := cells3 HZ.out
  have zf0 := free_laid (i := 0) HZ.out
  have zf1 := free_laid (i := 1) HZ.out
  have zf2 := free_laid (i := 2) HZ.out
  have g0 := cell_laid (i := 0) HG.out rfl
  have g1 := cell_laid (i := 1) HG.out rfl
  have gf0 := free_laid (i := 0) HG.out
  have gf1 := free_laid (i := 1) HG.out
  have hne1 : G ≠ Z := by omega
  have hne2 : Z ≠ G := by omega
  obtain ⟨V4, hV4, hz4, hg4, hb4, hm4⟩ := put_both HZ.out HG.out hne1 (.slice wa' M'.W.length wc') (.slice la' M'.L.length lc') (.bool M'.F) (.int .u64 ((x : Nat) : Int)) (.bool d)
  have HV4 := hid hV4
  clear hV4
  go_upto_region 2 with (fail)
  rw [← HV4.out]
  have HZ4 := hid (keep_laid hz4 (Below.refl _ _).drew)
  have HG4 := hid (keep_laid hg4 (Below.refl _ _).drew)
  have k4 : V4.heap[E]? = some (.cells #[.int .i64 ph, .bool cuts, .int .u64 ((head : Nat) : Int), .int .u64 ((pl : Nat) : Int), .int .u64 ((key : Nat) : Int), .int .u64 ((val : Nat) : Int), .int .u64 ((prev : Nat) : Int), .int .u64 ((next : Nat) : Int), .slice wa n wc, .slice la m lc, .bool F, .bool lost] 89 (0, 0)) := by rw [HV4.out]; exact other_laid (other_laid (other_laid (other_laid (other_laid HE3.out (by omega) _) (by omega) _) (by omega) _) (by omega) _) (by omega) _
  have HE4 := hid (keep_laid k4 (Below.refl _ _).drew)
  have HB4 := hid ((hb4 _ _ HZV.out HGV.out HB3.out).trans ((Below.refl _ V4).drew.mono (by have := (hb4 _ _ HZV.out HGV.out HB3.out).size; exact this)))
  have HO4 := hid ((hm4 _ _ _ _ _ _ HO.out).grow (Below.refl _ _).drew)
  obtain ⟨D4, hD4⟩ : ∃ D, V4.drew = D := ⟨_, rfl⟩
  rw [hD4] at HZ4 HG4 HE4 HB4 HO4
  have HD4 := hid hD4
  clear hD4
  obtain ⟨V5, hV5, hl5, hk5, hg5⟩ := put5 HE4.out (.slice wa' M'.W.length wc') (.slice la' M'.L.length lc') (.bool M'.F)
  have HZ5 := hid (hk5 _ _ (by omega) HZ4.out)
  have HG5 := hid (hk5 _ _ (by omega) HG4.out)
  have HE5 := hid hl5
  have HV5 := hid hV5
  obtain ⟨V6, hV6⟩ : ∃ V6, V5.setCell ⟨E, 11, none⟩ (.bool (!d)) = V6 := ⟨_, rfl⟩
  have HE6 := hid (set_laid (i := 11) HE5.out (.bool (!d)))
  rw [hV6] at HE6
  have HZ6 : Hid (V6.heap[Z]? = some (.cells #[.slice wa' M'.W.length wc', .slice la' M'.L.length lc', .bool M'.F] 25 (0, 0))) := hid (by rw [← hV6]; exact other_laid HZ5.out (by omega) _)
  have HG6 : Hid (V6.heap[G]? = some (.cells #[.int .u64 ((x : Nat) : Int), .bool d] 91 (0, 0))) := hid (by rw [← hV6]; exact other_laid HG5.out (by omega) _)
  have hg6 : D4.grownBy V6 (some E) := by rw [← hV6]; exact grownBy_trans hg5 (grownBy_put _)
  have HAP := hid (HO4.out.apart HEV.out)
  have HFIN : Hid (EdL B true E ⟨ph, cuts, head, pl, key, val, prev, next⟩ (!d) M' V6 ∧ V.grownBy V6 (some E)) := hid ⟨⟨wa', wc', la', lc', HE6.out, ⟨HO4.out.memL.w.grownNe HAP.out.1 hg6, HO4.out.memL.l.grownNe HAP.out.2 hg6⟩, HAP.out.1, HAP.out.2, fun _ => (HO4.out.keep HE4.out (by decide) (by decide) (fun k o hk ho => by rw [← hV6]; exact other_laid (hk5 k o hk ho) hk _)).base hB, fun e => by cases e⟩, grownBy_trans (grownBy_below HB4.out _) hg6⟩
  have HV6 := hid hV6
  have cls : ∀ W : World, W.heap[Z]? = some (.cells #[.slice wa' M'.W.length wc', .slice la' M'.L.length lc', .bool M'.F] 25 (0, 0)) → W.heap[G]? = some (.cells #[.int .u64 ((x : Nat) : Int), .bool d] 91 (0, 0)) →
      ∃ z : RD Z G (.slice wa' M'.W.length wc') (.slice la' M'.L.length lc') (.bool M'.F) (.int .u64 ((x : Nat) : Int)) (.bool d), W = z.w := fun W h h' => ⟨⟨W, cell_laid h rfl, cell_laid h rfl, cell_laid h rfl, cell_laid h' rfl, cell_laid h' rfl⟩, rfl⟩
  have hdr := cls _ HZ4.out HG4.out
  have HC5 := hid (cls _ HZ5.out HG5.out)
  have HC6 := hid (cls _ HZ6.out HG6.out)
  haveI : Nonempty (RD Z G (.slice wa' M'.W.length wc') (.slice la' M'.L.length lc') (.bool M'.F) (.int .u64 ((x : Nat) : Int)) (.bool d)) := hdr.elim fun z _ => ⟨z⟩
  have r0 : ∀ z : RD Z G (.slice wa' M'.W.length wc') (.slice la' M'.L.length lc') (.bool M'.F) (.int .u64 ((x : Nat) : Int)) (.bool d), z.w.cell? ⟨Z, 0, none⟩ = some (.slice wa' M'.W.length wc') := fun z => z.y0
  have r1 : ∀ z : RD Z G (.slice wa' M'.W.length wc') (.slice la' M'.L.length lc') (.bool M'.F) (.int .u64 ((x : Nat) : Int)) (.bool d), z.w.cell? ⟨Z, 1, none⟩ = some (.slice la' M'.L.length lc') := fun z => z.y1
  have r2 : ∀ z : RD Z G (.slice wa' M'.W.length wc') (.slice la' M'.L.length lc') (.bool M'.F) (.int .u64 ((x : Nat) : Int)) (.bool d), z.w.cell? ⟨Z, 2, none⟩ = some (.bool M'.F) := fun z => z.y2
  have r3 : ∀ z : RD Z G (.slice wa' M'.W.length wc') (.slice la' M'.L.length lc') (.bool M'.F) (.int .u64 ((x : Nat) : Int)) (.bool d), z.w.cell? ⟨G, 1, none⟩ = some (.bool d) := fun z => z.q1
  have e8 := cell_laid (i := 8) HE4.out rfl
  have e9 := cell_laid (i := 9) HE4.out rfl
  have e10 := cell_laid (i := 10) HE4.out rfl
  have ef8 := free_laid (i := 8) HE4.out
  have ef9 := free_laid (i := 9) HE4.out
  have ef10 := free_laid (i := 10) HE4.out
  have e11 := cell_laid (i := 11) HE5.out rfl
  have ef11 := free_laid (i := 11) HE5.out
  clear hz4 hg4 k4 hb4 hm4 hV5 hV6 hl5 hk5 hg5 hg6 cls z0 z1 z2 zf0 zf1 zf2 g0 g1 gf0 gf1
  refine wp_region_mix2 (fun V => ∃ z : RD Z G (.slice wa' M'.W.length wc') (.slice la' M'.L.length lc') (.bool M'.F) (.int .u64 ((x : Nat) : Int)) (.bool d), V = z.w) 12 (.q 0 (.q 1 (.q 2 (.q 3 (.q 4 (.q 5 (.q 6 (.q 7 (.h 8 (.q 9 (.q 10 (.h 11 .done)))))))))))) (by kernel_rfl) (by kernel_rfl) (by rw [HD4.out]; exact hdr) ?_
  clear hdr
  rw [HD4.out]
  repeat (refine wpMix2_q rfl rfl ?_; go_big_quiet_step (fail); refine wpQuiet_nil ?_)
  refine wpMix2_h rfl fun R' hR' hO => ?_
  go_wp2
  rw [← HV5.out]
  refine hR' _ _ HC5.out ?_
  clear hR' hO R'
  repeat (refine wpMix2_q rfl rfl ?_; go_big_quiet_step (fail); refine wpQuiet_nil ?_)
  refine wpMix2_h rfl fun R' hR' hO => ?_
  go_wp2
  rw [HV6.out]
  refine hR' _ _ HC6.out ?_
  clear hR' hO R'
  refine wpMix2_done ?_
  simp only [List.drop_succ_cons, List.drop_zero]
  have g0 := cell_laid (i := 0) HG6.out rfl
  go_wp2
  go_ret
  exact ⟨rfl, HFIN.out⟩
end Go.Proofs.Ytoihjmdpbbcbjaa
