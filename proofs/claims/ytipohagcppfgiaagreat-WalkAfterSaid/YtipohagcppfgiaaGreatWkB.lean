/- Layer 17, several texts in one. -/
import Derived.Test.YtipohagcppfgiaaGreatWkA
import Derived.Test.YtipohagcppfgiaaGreatLsZ
namespace Go.Proofs.YtipohagcppfgiaaGreat
open Go.RowKit
open Go.Proofs
set_option linter.unusedVariables false
attribute [local go_sem] Oper.semAt_some
def pickG (J : List Jb) (head : Nat) (g : Gst) (n : Int) : Gst :=
 if n = 0 then writeG J head g
 else if 1 ≤ n ∧ n ≤ g.R.length then (match g.R[(n - 1).toNat]? with
  | none => g
  | some s => { g with M := (sseekP g.M s).1, R := g.R.set (n - 1).toNat (sseekP g.M s).2.1 })
 else g
/-- What its numbers are. -/
structure GOk (J : List Jb) (g : Gst) : Prop where
 d : g.done ≤ J.length
 e : g.ed.Ok
 s : g.wr.Ok
 r : ∀ x ∈ g.R, x.Ok
 w : ∀ x ∈ g.M.W, x < 18446744073709551616
theorem skcells_set {R : List Sk} {i : Nat} (hi : i < R.length) (s : Sk) : skcells (R.set i s) = (skcells R).take (i * 7) ++ sk7l s ++ (skcells R).drop (i * 7 + 7) := by
 have h1 : ∀ (R : List Sk) (i : Nat), (skcells R).take (i * 7) = skcells (R.take i) := by
  intro R
  induction R with
  | nil => intro i; simp [skcells]
  | cons x xs ih =>
   intro i
   cases i with
   | zero => simp [skcells]
   | succ i =>
    have e : (i + 1) * 7 = (sk7l x).length + i * 7 := by show _ = 7 + i * 7; omega
    show (sk7l x ++ skcells xs).take _ = sk7l x ++ skcells (xs.take i)
    rw [e, List.take_append, List.take_of_length_le (by omega), Nat.add_sub_cancel_left, ih]
 have h2 : ∀ (R : List Sk) (i : Nat), (skcells R).drop (i * 7) = skcells (R.drop i) := by
  intro R
  induction R with
  | nil => intro i; simp [skcells]
  | cons x xs ih =>
   intro i
   cases i with
   | zero => simp [skcells]
   | succ i =>
    have e : (i + 1) * 7 = (sk7l x).length + i * 7 := by show _ = 7 + i * 7; omega
    show (sk7l x ++ skcells xs).drop _ = skcells (xs.drop i)
    rw [e, List.drop_append, List.drop_eq_nil_of_le (by omega), Nat.add_sub_cancel_left, ih]
    rfl
 rw [h1, show i * 7 + 7 = (i + 1) * 7 by omega, h2, List.set_eq_take_append_cons_drop, if_pos hi]
 simp [skcells]
set_option maxRecDepth 100000 in
set_option maxHeartbeats 4000000 in
theorem write_any (V0 U : World) (P : Nat → Prop) (G : Nat) (ja : Option Addr) (nj jc head : Nat) (J : List Jb) (g : Gst) (V : World) (hG : V0.heap.size ≤ G) (hP : P G) (hj : Leads V0 ja nj jc (jbcells J)) (hn : J.length = nj) (h : GoC V0 U P G ja nj jc head g V) (hJ : J.length ≤ 1000) (hjo : ∀ x ∈ J, x.2.Ok) (ho : GOk J g) :
  Calls Tryz.prog 58 #[.pointer (some ⟨G, 0, none⟩)] V (GivesGo V0 U P G ja nj jc head (writeG J head g)) := by
 obtain ⟨M, d, eb, e, s, R⟩ := g
 obtain ⟨hd, he, hs, hr, hw⟩ := ho
 have hgc := h
 obtain ⟨wa, wc, la, lc, ra, rc, hK, hR⟩ := h
 dsimp only at hK hR hd he hs hr hw
 obtain ⟨D, hD⟩ := nm (World.drew V)
 have hbD : Below V.heap.size V D := by rw [← hD]; exact (Below.refl _ _).drew
 have HD := hid hD
 clear hD
 have K4 := hid (klD hK hbD)
 have R4 := hid (hR.grow hbD)
 have HSK := hid (fun (hlt : d < J.length) => seek_any' V0 U P G ja nj jc head J ⟨M, d, eb, e, s, R⟩ D hG hP hj hn (hgc.grow hbD) hlt (by show d ≤ 1000; omega) hs hjo)
 have HED := hid (edit_any' V0 U P G ja nj jc head J ⟨M, d, eb, e, s, R⟩ D hG hP hj hn (hgc.grow hbD) (by show d ≤ 1000; omega) he)
 have HN := hid hn
 have HMF := hid (fun (fn : Fn) (first cap : Array Value) (w : World) => (rfl : (Instr.makeFunc fn first cap).run Tryz.prog w = .ok (.func fn first cap) w))
 have hmf : ∀ (fn : Fn) (first cap : Array Value) (w : World), (Instr.makeFunc fn first cap).run Tryz.prog w = .ok (.func fn first cap) w := fun _ _ _ _ => rfl
 have HGC := hid (hgc.grow hbD)
 rw [hn] at hd
 clear hK hR hbD hgc hj hn hjo he hs hr hw HMF
 haveI : Nonempty (RG G (g23 wa M.W.length wc la M.L.length lc M.F d eb e s ra R.length rc ja nj jc head)) := ⟨⟨D, K4.out⟩⟩
 have q3 : ∀ z : RG G (g23 wa M.W.length wc la M.L.length lc M.F d eb e s ra R.length rc ja nj jc head), z.w.cell? ⟨G, 3, none⟩ = some (.int .i64 d) := fun z => clD (i := 3) z.bg rfl
 have q21 : ∀ z : RG G (g23 wa M.W.length wc la M.L.length lc M.F d eb e s ra R.length rc ja nj jc head), z.w.cell? ⟨G, 21, none⟩ = some (.slice ja nj jc) := fun z => clD (i := 21) z.bg rfl
 go_enter Tryz.func58, Tryz.ntmps58
 go_wp2
 refine rgm2 (fun W => ∃ z : RG G (g23 wa M.W.length wc la M.L.length lc M.F d eb e s ra R.length rc ja nj jc head), W = z.w) 11 (.q 0 (.q 1 (.q 2 (.q 3 (.q 4 (.q 5 (.q 6 (.q 7 (.q 8 (.q 9 (.q 10 (.done)))))))))))) (by kernel_rfl) (by kernel_rfl) (by rw [HD.out]; exact ⟨⟨D, K4.out⟩, rfl⟩) ?_
 rw [HD.out]
 iterate 11 (refine m2q rfl rfl ?_; go_big_quiet_step (fail); refine wpQuiet_nil ?_)
 refine m2d ?_
 simp only [List.drop_succ_cons, List.drop_nil]
 clear q3 q21 HD
 by_cases hdn : d = nj
 ·have tq : (((d : Nat) : Int) == ((nj : Nat) : Int)) = true := by simp [hdn]
  have tn : (d == nj) = true := by simp [hdn]
  have HR2 : Hid (writeG J head ⟨M, d, eb, e, s, R⟩ = ⟨M, d, eb, e, s, R⟩) := hid (by unfold writeG; rw [if_pos (by rw [HN.out]; exact hdn)])
  clear hdn
  go_wp2
  go_end0
  exact ⟨rfl, by rw [HR2.out]; exact HGC.out⟩
 ·have tq : (((d : Nat) : Int) == ((nj : Nat) : Int)) = false := by simp; omega
  have tn : (d == nj) = false := by simp; omega
  have HR1 : Hid (writeG J head ⟨M, d, eb, e, s, R⟩ = if eb = true then editG J head ⟨M, d, eb, e, s, R⟩ else seekG J head ⟨M, d, eb, e, s, R⟩) := hid (by unfold writeG; rw [if_neg (by rw [HN.out]; exact hdn)])
  have HLT : Hid (d < J.length) := hid (by rw [HN.out]; omega)
  clear hdn
  have x4 : D.cell? ⟨G, 4, none⟩ = some (.bool eb) := clD (i := 4) K4.out rfl
  cases eb
  case' true =>
   have hix : ∀ W, (Instr.index 127 (.agg #[.func (.func 69) #[.pointer (some ⟨G, 0, none⟩)] #[], .func (.func 70) #[.pointer (some ⟨G, 0, none⟩)] #[]]) (.int .i64 1)).run Tryz.prog W = .ok (.func (.func 70) #[.pointer (some ⟨G, 0, none⟩)] #[]) W := fun W => by kernel_rfl
   have HR2 := hid (HR1.out.trans (if_pos rfl))
   clear HSK HR1
   go_wp2_with fail
   refine HED.out.mono ?_
   rintro e9 W ⟨rfl, hW⟩
   have HW := hid hW
   clear hW HED
   go_wp2
   go_end0
   exact ⟨rfl, by rw [HR2.out]; exact HW.out⟩
  case' false =>
   have hix : ∀ W, (Instr.index 127 (.agg #[.func (.func 69) #[.pointer (some ⟨G, 0, none⟩)] #[], .func (.func 70) #[.pointer (some ⟨G, 0, none⟩)] #[]]) (.int .i64 0)).run Tryz.prog W = .ok (.func (.func 69) #[.pointer (some ⟨G, 0, none⟩)] #[]) W := fun W => by kernel_rfl
   have HR2 := hid (HR1.out.trans (if_neg (by decide)))
   have HSK2 := hid (HSK.out HLT.out)
   clear HED HR1 HSK
   go_wp2_with fail
   refine HSK2.out.mono ?_
   rintro e9 W ⟨rfl, hW⟩
   have HW := hid hW
   clear hW HSK2
   go_wp2
   go_end0
   exact ⟨rfl, by rw [HR2.out]; exact HW.out⟩
theorem own_room {W : World} {base size n b cap i : Nat} {e : TypeId} {xs : List Value} {cur : Array Value} (h : W.ownsRow base e size (.slice (some ⟨b, 0, none⟩) n cap) n xs) (hi : i < n) (hc : W.heap[b]? = some (.cells cur e (0, 0))) : i * size + size ≤ cur.size := by
 obtain ⟨hl, ⟨h0, -⟩ | ⟨g, cap', cur', hv', hg, hh, r1, r2, r3, r4⟩⟩ := h
 ·cases h0
 ·cases hv'
  rw [hc] at hh
  cases hh
  have h1 := Nat.mul_le_mul_right size (Nat.le_trans (Nat.succ_le_of_lt hi) r1)
  rw [Nat.succ_mul] at h1
  omega
theorem own_base_le {W : World} {base size n b cap : Nat} {e : TypeId} {xs : List Value} (h : W.ownsRow base e size (.slice (some ⟨b, 0, none⟩) n cap) n xs) : base ≤ b := by
 obtain ⟨hl, ⟨h0, -⟩ | ⟨g, cap', cur', hv', hg, hh, r1, r2, r3, r4⟩⟩ := h
 ·cases h0
 ·cases hv'; exact hg
theorem MemO.far2 {B : Nat} {wa : Option Addr} {wc : Nat} {la : Option Addr} {lc : Nat} {M : Mem} {W W' : World} {b : Nat} {cs : Array Value} {T : TypeId} (h : MemO B wa wc la lc M W) (K : W.heap[b]? = some (.cells cs T (0, 0))) (h1 : 26 ≠ T) (h2 : 4 ≠ T) (a2 : ∀ (k : Nat) (o : Obj), k ≠ b → W.heap[k]? = some o → W'.heap[k]? = some o) : MemO B wa wc la lc M W' :=
 ⟨okp h.w fun k o hk ho => a2 k o (own_neT h.w K h1 k hk) ho, okp h.l fun k o hk ho => a2 k o (own_neT h.l K h2 k hk) ho⟩
structure RR (V0 : World) (G : Nat) (cs : Array Value) (rb rn rc : Nat) (R : List Sk) where
 w : World
 bg : w.heap[G]? = some (.cells cs 88 (0, 0))
 rds : w.ownsRow V0.heap.size 46 7 (.slice (some ⟨rb, 0, none⟩) rn rc) rn (skcells R)
set_option maxRecDepth 100000 in
set_option maxHeartbeats 8000000 in
theorem pick_any (V0 U : World) (P : Nat → Prop) (G : Nat) (ja : Option Addr) (nj jc head : Nat) (J : List Jb) (g : Gst) (V : World) (hG : V0.heap.size ≤ G) (hP : P G) (hj : Leads V0 ja nj jc (jbcells J)) (hn : J.length = nj) (h : GoC V0 U P G ja nj jc head g V) (hJ : J.length ≤ 1000) (hjo : ∀ x ∈ J, x.2.Ok) (ho : GOk J g) (hP2 : ∀ k, V0.heap.size ≤ k → P k) (n : Int) (hn63 : -9223372036854775808 ≤ n ∧ n ≤ 9223372036854775807) :
  Calls Tryz.prog 44 #[.pointer (some ⟨G, 0, none⟩), .int .i64 n] V (GivesGo V0 U P G ja nj jc head (pickG J head g n)) := by
 by_cases h0 : n = 0
 ·have HWR := hid (write_any V0 U P G ja nj jc head J g V hG hP hj hn h hJ hjo ho)
  have HR2 : Hid (pickG J head g n = writeG J head g) := hid (by unfold pickG; rw [if_pos h0])
  subst h0
  clear h hj hn hJ hjo ho
  go_enter Tryz.func44, Tryz.ntmps44
  go_wp2_with fail
  refine HWR.out.mono ?_
  rintro e9 W ⟨rfl, hW⟩
  have HW := hid hW
  clear hW HWR
  go_wp2
  go_end0
  exact ⟨rfl, by rw [HR2.out]; exact HW.out⟩
 ·have tz : (n == 0) = false := by simp [h0]
  obtain ⟨M, d, eb, e, s, R⟩ := g
  obtain ⟨hd, he, hs, hr, hw⟩ := ho
  have hgc := h
  obtain ⟨wa, wc, la, lc, ra, rc, hK, hR⟩ := h
  dsimp only at hK hR hd he hs hr hw
  have x20 : V.cell? ⟨G, 20, none⟩ = some (.slice ra R.length rc) := clD (i := 20) hK rfl
  obtain ⟨rn, hrn⟩ := nm (R.length)
  have HRN := hid hrn
  rw [hrn] at x20
  by_cases hin1 : 1 ≤ n ∧ n ≤ rn
  ·obtain ⟨i, hi⟩ : ∃ i : Nat, n = ((i + 1 : Nat) : Int) := ⟨(n - 1).toNat, by omega⟩
   have hin : i < rn := by omega
   have hit : (n - 1).toNat = i := by omega
   obtain ⟨t, ht⟩ : ∃ x, R[i]? = some x := ⟨_, List.getElem?_eq_getElem (by omega)⟩
   have hto : t.Ok := hr _ (List.mem_of_getElem? ht)
   obtain ⟨⟨M', t', er⟩, hX⟩ : ∃ X, sseekP M t = X := ⟨_, rfl⟩
   have HR2 : Hid (pickG J head ⟨M, d, eb, e, s, R⟩ n = ⟨M', d, eb, e, s, R.set i t'⟩) := hid (by
    unfold pickG
    dsimp only
    rw [if_neg h0, hrn, if_pos hin1, hit, ht]
    dsimp only
    rw [hX])
   have hli := hR.rds
   rw [hrn] at hli
   obtain ⟨rb, rfl⟩ : ∃ rb, ra = some ⟨rb, 0, none⟩ := by
    obtain ⟨hl, ⟨q0, q1⟩ | ⟨g, cap', cur', hv', -⟩⟩ := hli
    ·omega
    ·cases hv'; exact ⟨g, rfl⟩
   rw [hrn] at hK
   have K0 := hid hK
   have R0 := hid hR
   obtain ⟨D, hD⟩ := nm (World.drew V)
   have hbD : Below V.heap.size V D := by rw [← hD]; exact (Below.refl _ _).drew
   have HD := hid hD
   clear hD
   have K4 := hid (klD K0.out hbD)
   have R4 := hid (R0.out.grow hbD)
   have HCL := hid (StepSeek_any M t wa la wc lc D R4.out.mem.memL hto)
   rw [hX] at HCL
   unfold memV skV at HCL
   have HTT := hid ht
   have HLI := hid (ogr hli hbD)
   have HRA : Hid (∀ z : RR V0 G (g23 wa M.W.length wc la M.L.length lc M.F d eb e s (some ⟨rb, 0, none⟩) rn rc ja nj jc head) rb rn rc R, z.w.rangeAt rb (i * 7) [.int .i64 t.ph, .int .u64 t.hash, .int .u64 t.key, .int .u64 t.link, .int .u64 t.node, .int .u64 t.val, .bool t.found]) := hid (fun z j v hv => by
    have hj7 : j < 7 := (List.getElem?_eq_some_iff.1 hv).1
    obtain ⟨_, _, ⟨q, _⟩ | ⟨b, off, e', h3, h4⟩⟩ := Leads.of_own1 z.rds
    ·omega
    ·cases e'
     have := h4 (i * 7 + j) v (by rw [skcell_at HTT.out j hj7]; exact hv)
     rw [Nat.zero_add] at this
     exact this)
   have t1 : decide ((1 : Int) ≤ n) = true := decide_eq_true hin1.1
   have t1' : decide (n ≥ (1 : Int)) = true := decide_eq_true hin1.1
   have t2 : decide (n ≤ ((rn : Nat) : Int)) = true := decide_eq_true hin1.2
   have hni : IntKind.i64.wrap (n - 1) = ((i : Nat) : Int) := by rw [IntKind.wrap_i64]; omega
   clear K0 R0 hK hR hbD hj hn hX ht hli hi hit hrn h0 hgc he hs hr hw hjo hin1
   haveI : Nonempty (RR V0 G (g23 wa M.W.length wc la M.L.length lc M.F d eb e s (some ⟨rb, 0, none⟩) rn rc ja nj jc head) rb rn rc R) := ⟨⟨D, K4.out, HLI.out⟩⟩
   have q20 : ∀ z : RR V0 G (g23 wa M.W.length wc la M.L.length lc M.F d eb e s (some ⟨rb, 0, none⟩) rn rc ja nj jc head) rb rn rc R, z.w.cell? ⟨G, 20, none⟩ = some (.slice (some ⟨rb, 0, none⟩) rn rc) := fun z => clD (i := 20) z.bg rfl
   go_enter Tryz.func44, Tryz.ntmps44
   go_wp2
   clear x20
   refine wp_region_turn (fun W => ∃ z : RR V0 G (g23 wa M.W.length wc la M.L.length lc M.F d eb e s (some ⟨rb, 0, none⟩) rn rc ja nj jc head) rb rn rc R, W = z.w) 30 (.p 0 (.p 1 (.p 2 (.p 3 (.p 4 (.q 5 (.p 6 (.p 7 (.p 8 (.p 9 (.p 10 (.p 11 (.q 12 (.p 13 (.p 14 (.p 15 (.p 16 (.q 17 (.p 18 (.p 19 (.p 20 (.q 21 (.h 22 (.p 23 (.p 24 (.p 25 (.p 26 (.p 27 (.p 28 (.p 29 (.h 30 (.p 31 (.h 32 (.done)))))))))))))))))))))))))))))))))) (by kernel_rfl) (by kernel_rfl) (by rw [HD.out]; exact ⟨⟨D, K4.out, HLI.out⟩, rfl⟩) ?_
   rw [HD.out]
   iterate 5 (refine wpTurn_p rfl rfl ?_; go_big_quiet_step (fail); refine wpQuiet_nil ?_)
   (refine wpTurn_q rfl rfl ?_; go_big_quiet_step (fail); refine wpQuiet_nil ?_)
   iterate 6 (refine wpTurn_p rfl rfl ?_; go_big_quiet_step (fail); refine wpQuiet_nil ?_)
   refine wpTurn_q rfl rfl ?_
   refine wpQuiet_loadP rfl 25 (.tmp 34) rfl G 0 [.slice wa M.W.length wc, .slice la M.L.length lc, .bool M.F] rfl (by rintro _ ⟨z, rfl⟩; exact rangeAt_part z.bg rfl) _ Tryz.underlying25 rfl (by kernel_rfl) ?_
   intro v hv
   subst hv
   refine wpQuiet_nil ?_
   simp only [Act.put, List.setIfInBounds_toArray, List.set_cons_succ, List.set_cons_zero]
   iterate 4 (refine wpTurn_p rfl rfl ?_; go_big_quiet_step (fail); refine wpQuiet_nil ?_)
   (refine wpTurn_q rfl rfl ?_; go_big_quiet_step (fail); refine wpQuiet_nil ?_)
   iterate 3 (refine wpTurn_p rfl rfl ?_; go_big_quiet_step (fail); refine wpQuiet_nil ?_)
   refine wpTurn_q rfl rfl ?_
   refine wpQuiet_loadP rfl 46 (.tmp 43) rfl _ _ [.int .i64 t.ph, .int .u64 t.hash, .int .u64 t.key, .int .u64 t.link, .int .u64 t.node, .int .u64 t.val, .bool t.found] rfl (by rintro _ ⟨z, rfl⟩; exact HRA.out z) _ Tryz.underlying46 rfl (by kernel_rfl) ?_
   intro v hv
   subst hv
   refine wpQuiet_nil ?_
   simp only [Act.put, List.setIfInBounds_toArray, List.set_cons_succ, List.set_cons_zero]
   refine wpTurn_h rfl rfl fun R' hR' hO => ?_
   go_wp2_with fail
   refine HCL.out.mono ?_
   rintro e9 w5 ⟨wa', wc', la', lc', rfl, hmo, hb5⟩
   have K9 := hid (klD K4.out hb5)
   have R9 := hid (R4.out.mem' hmo hb5)
   clear K4 R4 hb5 hmo HCL
   have hrw := R9.out.rds
   rw [HRN.out] at hrw
   have HRW := hid hrw
   clear hrw
   unfold memV skV
   go_wp2
   refine hR' _ _ ⟨⟨w5, K9.out, HRW.out⟩, rfl⟩ ?_
   clear hR' hO R'
   iterate 7 (refine wpTurn_p rfl rfl ?_; go_big_quiet_step (fail); refine wpQuiet_nil ?_)
   refine wpTurn_m rfl fun R' hR' hO => ?_
   go_wp2_with (refine wsP rfl 25 (.tmp 51) (.tmp 46) rfl G 0 _ (g23 wa' M'.W.length wc' la' M'.L.length lc' M'.F d eb e s (some ⟨rb, 0, none⟩) rn rc ja nj jc head) _ rfl rfl _ K9.out (by kernel_rfl) (Nat.le_of_ble_eq_true rfl) (by kernel_rfl) rfl ?_; intro u1 a1 a2 a3 a4; have K1 := hid a1; have R1 := hid (R9.out.put K9.out (by decide) (by decide) (by decide) a2 a3 hG a4 (.inl hP)); clear a1 a2 a3 a4 K9 R9 HRW; (try simp only [Act.put]))
   refine hR' _ _ ?_
   clear hR' hO R'
   (refine wpTurn_p rfl rfl ?_; go_big_quiet_step (fail); refine wpQuiet_nil ?_)
   refine wpTurn_b rfl fun R' hR' hO => ?_
   have hrw := R1.out.rds
   rw [HRN.out] at hrw
   obtain ⟨cur, hcur⟩ := own_type hrw rb rfl
   have hcz : i * 7 + 7 ≤ cur.size := own_room hrw hin hcur
   have HRW := hid hrw
   have HCUR := hid hcur
   have hVB : V0.heap.size ≤ rb := own_base_le hrw
   have hbG : rb ≠ G := tyN hcur K1.out (by decide)
   clear hrw hcur
   go_wp2_with (refine wsP rfl 46 (.tmp 52) (.tmp 47) rfl rb (i * 7) cur (patch cur (i * 7) (sk7l t')) _ rfl rfl _ HCUR.out (by kernel_rfl) hcz (by kernel_rfl) rfl ?_; intro u2 a1 a2 a3 a4; have K2 := hid (a2 G _ (Ne.symm hbG) K1.out); have RW2 := hid (own_patch HRW.out (sk7l t') rfl hin cur HCUR.out a1); have RM2 := hid (MemO.far2 R1.out.mem HCUR.out (by decide) (by decide) a2); have RB2 := hid (a3 _ _ hVB R1.out.below); have RT2 := hid (R1.out.tch.by a4 (.inl (hP2 rb hVB))); clear a1 a2 a3 a4 K1 R1 HRW; (try simp only [Act.put]))
   refine hR' _ _ ?_
   clear hR' hO R'
   refine wpTurn_done ?_
   go_wp2
   go_end0
   refine ⟨rfl, ?_⟩
   rw [HR2.out]
   refine ⟨wa', wc', la', lc', some ⟨rb, 0, none⟩, rc, ?_, RM2.out, ?_, RB2.out, RT2.out⟩
   ·have := K2.out
    dsimp only
    rw [List.length_set, HRN.out]
    exact this
   ·have := RW2.out
    dsimp only
    rw [List.length_set, HRN.out, skcells_set (by rw [HRN.out]; exact hin)]
    exact this
  ·have HR2 : Hid (pickG J head ⟨M, d, eb, e, s, R⟩ n = ⟨M, d, eb, e, s, R⟩) := hid (by unfold pickG; dsimp only; rw [if_neg h0, hrn, if_neg hin1])
   have HGC := hid hgc
   clear hgc hK hR hj hn hrn h0 hr hw he hs hjo
   by_cases h1 : (1 : Int) ≤ n
   ·have t1 : decide ((1 : Int) ≤ n) = true := decide_eq_true h1
    have t1' : decide (n ≥ (1 : Int)) = true := decide_eq_true h1
    have t2 : decide (n ≤ ((rn : Nat) : Int)) = false := decide_eq_false (fun h => hin1 ⟨h1, h⟩)
    clear hin1
    go_enter Tryz.func44, Tryz.ntmps44
    go_wp2
    go_end0
    exact ⟨rfl, by rw [HR2.out]; exact HGC.out⟩
   ·have t1 : decide ((1 : Int) ≤ n) = false := decide_eq_false h1
    have t1' : decide (n ≥ (1 : Int)) = false := decide_eq_false h1
    clear hin1
    go_enter Tryz.func44, Tryz.ntmps44
    go_wp2
    go_end0
    exact ⟨rfl, by rw [HR2.out]; exact HGC.out⟩
end Go.Proofs.YtipohagcppfgiaaGreat
namespace Go.Proofs.YtipohagcppfgiaaGreat
open Go.RowKit
open Go.Proofs
set_option linter.unusedVariables false
attribute [local go_sem] Oper.semAt_some
def seeksK (head : Nat) (ks : List (Nat × Nat)) : List Sk := ks.map fun k => seekK head k.1 k.2
def ofG (w : Wal) : Gst := beginsG w.J w.head ⟨⟨w.M.W, w.M.L, false⟩, 0, false, zeroEd, zeroSk, seeksK w.head w.K⟩
theorem elemSk : Elem Tryz.prog 47 46 7 56 := Elem.mk' (z := .agg #[.int .i64 0, .int .u64 0, .int .u64 0, .int .u64 0, .int .u64 0, .int .u64 0, .bool false]) Tryz.underlying47 (by kernel_rfl) rfl (by decide) (by decide)
theorem kycell_at {ks : List (Nat × Nat)} {k : Nat} {x : Nat × Nat} (h : ks[k]? = some x) (i : Nat) (hi : i < 2) : (kycells ks)[k * 2 + i]? = (ky2 x)[i]? := flat_at ky2 2 (fun _ => rfl) ks k i x h hi
theorem own_neS {W : World} {base n size : Nat} {e e' : TypeId} {v v' : Value} {base' n' size' : Nat} {xs xs' : List Value} (h : W.ownsRow base e size v n xs) (h' : W.ownsRow base' e' size' v' n' xs') (hne : e ≠ e') (k : Nat) (hk : v.ownBlock = some k) : v'.ownBlock ≠ some k := by
 intro hk'
 obtain ⟨c, hc⟩ := own_type h' k hk'
 exact own_neT h hc hne k hk rfl
/-- A seek is appended to the readers. -/
theorem GoR.app {V0 U : World} {P : Nat → Prop} {wa : Option Addr} {wc : Nat} {la : Option Addr} {lc : Nat} {M : Mem} {ra : Option Addr} {rc k : Nat} {R : List Sk} {W W' : World} {s : Sk} {v' : Value} (h : GoR V0 U P wa wc la lc M ra rc R W) (hk : R.length = k) (ho : W'.ownsRow V0.heap.size 46 7 v' (k + 1) (skcells R ++ sk7l s)) (hg : W.grownBy W' (.slice ra k rc : Value).ownBlock) (hU : U.heap.size ≤ V0.heap.size) :
  ∃ ra' rc', v' = .slice ra' (k + 1) rc' ∧ GoR V0 U P wa wc la lc M ra' rc' (R ++ [s]) W' := by
 obtain ⟨ra', rc', rfl, -⟩ := Leads.of_own ho
 have hr := h.rds
 rw [hk] at hr
 refine ⟨ra', rc', rfl, ⟨okp h.mem.w fun j o hj hob => kgr hob hg (own_neS h.mem.w hr (by decide) j hj), okp h.mem.l fun j o hj hob => kgr hob hg (own_neS h.mem.l hr (by decide) j hj)⟩, ?_, h.below.trans (own_below hr hg h.below.size), h.tch.by_below (own_below hr hg h.below.size) hU⟩
 rw [List.length_append, List.length_singleton, hk, skcells_snoc]
 exact ho
structure RX (X : Nat) (cs : Array Value) where
 w : World
 bx : w.heap[X]? = some (.cells cs 30 (0, 0))
structure RO (G X B : Nat) (cs xs bs : Array Value) where
 w : World
 bg : w.heap[G]? = some (.cells cs 88 (0, 0))
 bx : w.heap[X]? = some (.cells xs 30 (0, 0))
 bb : w.heap[B]? = some (.cells bs 68 (0, 0))
set_option maxRecDepth 100000 in
set_option maxHeartbeats 8000000 in
theorem of_any (w : Wal) (wa la ja ka : Option Addr) (wc lc jc kc nj nk : Nat) (V : World) (h : WalL V wa wc la lc ja nj jc ka nk kc w) (hwl : w.M.W.length ≤ 5000) (hll : w.M.L.length ≤ 5000) (hnj : nj ≤ 1000) (hnk : nk ≤ 1000) :
  Calls Tryz.prog 36 #[walV wa wc la lc ja nj jc ka nk kc w] V (fun e W => ∃ G, e = .returned (.pointer (some ⟨G, 0, none⟩)) ∧ V.heap.size ≤ G ∧ GoC V V (V.heap.size ≤ ·) G ja nj jc w.head (ofG w) W) := by
 obtain ⟨hd, hhd⟩ := nm (w.head)
 obtain ⟨wl, hwl'⟩ := nm (w.M.W.length)
 obtain ⟨ll, hll'⟩ := nm (w.M.L.length)
 obtain ⟨F, hf⟩ := nm (w.M.F)
 have HH1 := hid hhd
 have HW1 := hid hwl'
 have HL1 := hid hll'
 have HHW := hid h
 have hmw := h.mem.w
 have hml := h.mem.l
 have hjl := h.j.len
 have hkl := h.k.len
 unfold walV
 rw [hwl'] at hmw hwl
 rw [hll'] at hml hll
 rw [hhd, hwl', hll', hf]
 obtain ⟨V1, hV1, hb1, hs1, hl1⟩ := laid V (wal8 wa wl wc la ll lc F hd ja nj jc ka nk kc) 30
 obtain ⟨X, hX⟩ := nm (V.heap.size)
 rw [hX] at hl1
 obtain ⟨V2, hV2, hb2, hs2, hl2⟩ := laid V1 (g23 none 0 0 none 0 0 false 0 false zeroEd zeroSk none 0 0 ja nj jc hd) 88
 obtain ⟨G, hG⟩ := nm (V1.heap.size)
 rw [hG] at hl2
 have hXG : X < G := by omega
 have hVG : V.heap.size ≤ G := by omega
 have KX2 := hid (klD hl1 hb2)
 have KG2 := hid hl2
 have HB2 := hid (step hb1 hb2)
 have HLW := hid hmw
 have HLL := hid hml
 have hV2' : V1.alloc (.cells #[.slice none 0 0, .slice none 0 0, .bool false, .int .i64 0, .bool false, .int .i64 0, .bool false, .int .u64 0, .int .u64 0, .int .u64 0, .int .u64 0, .int .u64 0, .int .u64 0, .int .i64 0, .int .u64 0, .int .u64 0, .int .u64 0, .int .u64 0, .int .u64 0, .bool false, .slice none 0 0, .slice ja nj jc, .int .u64 hd] 88) = V2 := hV2
 clear hV2 h hb1 hs1 hl1 hb2 hs2 hl2 hmw hml hhd hwl' hll' hf
 have x3 : V1.cell? ⟨X, 3, none⟩ = some (.int .u64 hd) := by rw [← hV1, ← hX]; exact clD (i := 3) (heap_alloc_new V _) rfl
 have x4 : V1.cell? ⟨X, 4, none⟩ = some (.slice ja nj jc) := by rw [← hV1, ← hX]; exact clD (i := 4) (heap_alloc_new V _) rfl
 go_enter Tryz.func36, Tryz.ntmps36
 go_upto_region 2 with (fail)
 obtain ⟨D, hD⟩ := nm (World.drew V2)
 have hbD : Below V2.heap.size V2 D := by rw [← hD]; exact (Below.refl _ _).drew
 have HD := hid hD
 clear hD
 have KX4 := hid (klD KX2.out hbD)
 have KG4 := hid (klD KG2.out hbD)
 have HB4 := hid (step HB2.out hbD)
 have HCW := hid (CopiedW_any wa wl wc (wcells w.M.W) D (HLW.out.grow HB4.out) (by rw [wcells_len, HW1.out]; omega) (by omega) (wcells_one _))
 clear KX2 KG2 HB2 hbD x3 x4 hV1 hX hG hV2'
 haveI : Nonempty (RX X (wal8 wa wl wc la ll lc F hd ja nj jc ka nk kc)) := ⟨⟨D, KX4.out⟩⟩
 have q0 : ∀ z : RX X (wal8 wa wl wc la ll lc F hd ja nj jc ka nk kc), z.w.cell? ⟨X, 0, none⟩ = some (.slice wa wl wc) := fun z => clD (i := 0) z.bx rfl
 have q1 : ∀ z : RX X (wal8 wa wl wc la ll lc F hd ja nj jc ka nk kc), z.w.cell? ⟨X, 1, none⟩ = some (.slice la ll lc) := fun z => clD (i := 1) z.bx rfl
 refine wp_region_turn (fun W => ∃ z : RX X (wal8 wa wl wc la ll lc F hd ja nj jc ka nk kc), W = z.w) 13 (.p 0 (.p 1 (.p 2 (.q 3 (.p 5 (.p 6 (.q 7 (.h 4 (.h 8 (.p 9 (.p 10 (.p 11 (.p 12 (.h 13 (.done))))))))))))))) (by kernel_rfl) (by kernel_rfl) (by rw [HD.out]; exact ⟨⟨D, KX4.out⟩, rfl⟩) ?_
 rw [HD.out]
 iterate 3 (refine wpTurn_p rfl rfl ?_; go_big_quiet_step (fail); refine wpQuiet_nil ?_)
 (refine wpTurn_q rfl rfl ?_; go_big_quiet_step (fail); refine wpQuiet_nil ?_)
 iterate 2 (refine wpTurn_p rfl rfl ?_; go_big_quiet_step (fail); refine wpQuiet_nil ?_)
 (refine wpTurn_q rfl rfl ?_; go_big_quiet_step (fail); refine wpQuiet_nil ?_)
 refine wpTurn_h rfl rfl fun R' hR' hO => ?_
 go_wp2_with fail
 refine HCW.out.mono ?_
 rintro e9 w5 ⟨vw, rfl, hwo, hb5⟩
 obtain ⟨wa', wc', rfl, -⟩ := Leads.of_own hwo
 have KG5 := hid (klD KG4.out hb5)
 have KX5 := hid (klD KX4.out hb5)
 have HB5 := hid (step HB4.out hb5)
 have HWO := hid (own_base hwo HB4.out.size)
 have HCB := hid (CopiedB_any la ll lc (bcells w.M.L) w5 (HLL.out.grow HB5.out) (by rw [bcells_len, HL1.out]; omega) (by omega) (bcells_one _))
 clear hb5 hwo HCW KG4 KX4 HB4
 go_wp2
 refine hR' _ _ ⟨⟨w5, KX5.out⟩, rfl⟩ ?_
 clear hR' hO R'
 refine wpTurn_h rfl rfl fun R' hR' hO => ?_
 go_wp2_with fail
 refine HCB.out.mono ?_
 rintro e9 w6 ⟨vl, rfl, hlo, hb6⟩
 obtain ⟨la', lc', rfl, -⟩ := Leads.of_own hlo
 have KG6 := hid (klD KG5.out hb6)
 have KX6 := hid (klD KX5.out hb6)
 have HB6 := hid (step HB5.out hb6)
 have HLO := hid (own_base hlo HB5.out.size)
 have HWO2 := hid (ogr HWO.out hb6)
 clear hb6 hlo HCB KG5 KX5 HB5 HWO
 go_wp2
 refine hR' _ _ ⟨⟨w6, KX6.out⟩, rfl⟩ ?_
 clear hR' hO R'
 iterate 4 (refine wpTurn_p rfl rfl ?_; go_big_quiet_step (fail); refine wpQuiet_nil ?_)
 refine wpTurn_m rfl fun R' hR' hO => ?_
 go_wp2_with (refine wsP rfl 25 (.tmp 24) (.tmp 21) rfl G 0 _ (g23 wa' wl wc' la' ll lc' false 0 false zeroEd zeroSk none 0 0 ja nj jc hd) _ rfl rfl _ KG6.out (by kernel_rfl) (Nat.le_of_ble_eq_true rfl) (by kernel_rfl) rfl ?_; intro u7 a1 a2 a3 a4; have KG7 := hid a1; have KX7 := hid (a2 X _ (by omega) KX6.out); have RM := hid (MemO.far2 (M := ⟨w.M.W, w.M.L, false⟩) ⟨by rw [HW1.out]; exact HWO2.out, by rw [HL1.out]; exact HLO.out⟩ KG6.out (by decide) (by decide) a2); have RB7 := hid (a3 _ _ hVG HB6.out); clear a1 a2 a3 a4 KG6 KX6 HB6 HWO2 HLO; (try simp only [Act.put]))
 refine hR' _ _ ?_
 clear hR' hO R'
 refine wpTurn_done ?_
 clear HD q0 q1
 have R7 : Hid (GoR V V (V.heap.size ≤ ·) wa' wc' la' lc' ⟨w.M.W, w.M.L, false⟩ none 0 [] u7) := hid ⟨RM.out, World.ownsRow_nil _ _ _ _, RB7.out, Tch.of_below RB7.out⟩
 have x5 := clD (i := 5) KX7.out rfl
 clear RM RB7
 have HNK := hid HHW.out.nk
 go_upto_region 4 with (fail)
 clear x5
 go_loopg [28] nk (fun g i wr => ∃ (k : Nat) (ra : Option Addr) (rc : Nat), g + k = nk ∧ i = .int .i64 k ∧ Hid (wr.heap[G]? = some (.cells (g23 wa' wl wc' la' ll lc' false 0 false zeroEd zeroSk ra k rc ja nj jc hd) 88 (0, 0))) ∧ Hid (wr.heap[X]? = some (.cells (wal8 wa wl wc la ll lc F hd ja nj jc ka nk kc) 30 (0, 0))) ∧ Hid (GoR V V (V.heap.size ≤ ·) wa' wc' la' lc' ⟨w.M.W, w.M.L, false⟩ ra rc (seeksK hd (w.K.take k)) wr))
 case atStart => exact ⟨0, none, 0, rfl, rfl, KG7, KX7, R7⟩
 case round =>
  clear KG7 KX7 R7
  obtain ⟨k, ra, rc, hk, rfl, hKG, hKX, hR⟩ := hrel
  have HK := hid hk
  clear hk
  by_cases hlt : k < nk
  ·have tl : decide (((k : Nat) : Int) < ((nk : Nat) : Int)) = true := decide_eq_true (by omega)
   obtain ⟨⟨h0, h1⟩, hp⟩ : ∃ x, w.K[k]? = some x := ⟨_, List.getElem?_eq_getElem (by rw [HNK.out]; exact hlt)⟩
   have HP := hid hp
   obtain ⟨kb, ko, rfl, hcc⟩ : ∃ b o, ka = some ⟨b, o, none⟩ ∧ ∀ i v, (kycells w.K)[i]? = some v → wr.cell? ⟨b, o + i, none⟩ = some v := by
    obtain ⟨_, _, ⟨q, _⟩ | ⟨b, off, e, _, h4⟩⟩ := HHW.out.k.grow hR.out.below
    ·omega
    ·exact ⟨b, off, e, h4⟩
   have c0 : wr.cell? ⟨kb, ko + k * 2, none⟩ = some (.int .u64 h0) := hcc (k * 2 + 0) _ (kycell_at hp 0 (by decide))
   have c1 : wr.cell? ⟨kb, ko + k * 2 + 1, none⟩ = some (.int .u64 h1) := hcc (k * 2 + 1) _ (kycell_at hp 1 (by decide))
   obtain ⟨u1, hu1, hbu, hsu, hlu⟩ := laid wr #[.int .u64 0, .int .u64 0] 68
   obtain ⟨B, hB⟩ := nm (wr.heap.size)
   rw [hB] at hlu
   have hXB : X < B := by have := llD hKX.out; omega
   have hGB : G < B := by have := llD hKG.out; omega
   obtain ⟨u2, hu2, a1, a2, a3⟩ := put2 hlu (.int .u64 h0) (.int .u64 h1)
   obtain ⟨z0, zf0, z1, zf1⟩ := fcl2 hlu
   have hb12 : Below wr.heap.size wr u2 := a3 _ wr (by omega) hbu
   have KG2 := hid (klD hKG.out hb12)
   have KX2 := hid (klD hKX.out hb12)
   have R2 := hid (hR.out.grow hb12)
   have KB2 := hid a1
   have HU2 := hid hu2
   clear hu2 a1 a2 a3 hbu hsu hlu hcc hp hb12 hKG hKX hR
   obtain ⟨gm, hgm⟩ : ∃ x, x = gk - 1 := ⟨_, rfl⟩
   have HGM := hid hgm
   clear hgm
   go_upto_region 6 with (fail)
   rw [← HU2.out]
   clear c0 c1 z0 z1 zf0 zf1 HU2 hu1
   obtain ⟨D, hD⟩ := nm (World.drew u2)
   have hbD : Below u2.heap.size u2 D := by rw [← hD]; exact (Below.refl _ _).drew
   have HD := hid hD
   clear hD
   have KG4 := hid (klD KG2.out hbD)
   have KX4 := hid (klD KX2.out hbD)
   have KB4 := hid (klD KB2.out hbD)
   have R4 := hid (R2.out.grow hbD)
   clear KG2 KX2 KB2 R2 hbD hB
   haveI : Nonempty (RO G X B (g23 wa' wl wc' la' ll lc' false 0 false zeroEd zeroSk ra k rc ja nj jc hd) (wal8 wa wl wc la ll lc F hd ja nj jc (some ⟨kb, ko, none⟩) nk kc) #[.int .u64 h0, .int .u64 h1]) := ⟨⟨D, KG4.out, KX4.out, KB4.out⟩⟩
   have q20 : ∀ z : RO G X B (g23 wa' wl wc' la' ll lc' false 0 false zeroEd zeroSk ra k rc ja nj jc hd) (wal8 wa wl wc la ll lc F hd ja nj jc (some ⟨kb, ko, none⟩) nk kc) #[.int .u64 h0, .int .u64 h1], z.w.cell? ⟨G, 20, none⟩ = some (.slice ra k rc) := fun z => clD (i := 20) z.bg rfl
   have qx3 : ∀ z : RO G X B (g23 wa' wl wc' la' ll lc' false 0 false zeroEd zeroSk ra k rc ja nj jc hd) (wal8 wa wl wc la ll lc F hd ja nj jc (some ⟨kb, ko, none⟩) nk kc) #[.int .u64 h0, .int .u64 h1], z.w.cell? ⟨X, 3, none⟩ = some (.int .u64 hd) := fun z => clD (i := 3) z.bx rfl
   have qb0 : ∀ z : RO G X B (g23 wa' wl wc' la' ll lc' false 0 false zeroEd zeroSk ra k rc ja nj jc hd) (wal8 wa wl wc la ll lc F hd ja nj jc (some ⟨kb, ko, none⟩) nk kc) #[.int .u64 h0, .int .u64 h1], z.w.cell? ⟨B, 0, none⟩ = some (.int .u64 h0) := fun z => clD (i := 0) z.bb rfl
   have qb1 : ∀ z : RO G X B (g23 wa' wl wc' la' ll lc' false 0 false zeroEd zeroSk ra k rc ja nj jc hd) (wal8 wa wl wc la ll lc F hd ja nj jc (some ⟨kb, ko, none⟩) nk kc) #[.int .u64 h0, .int .u64 h1], z.w.cell? ⟨B, 1, none⟩ = some (.int .u64 h1) := fun z => clD (i := 1) z.bb rfl
   refine wp_region_turn (fun W => ∃ z : RO G X B (g23 wa' wl wc' la' ll lc' false 0 false zeroEd zeroSk ra k rc ja nj jc hd) (wal8 wa wl wc la ll lc F hd ja nj jc (some ⟨kb, ko, none⟩) nk kc) #[.int .u64 h0, .int .u64 h1], W = z.w) 18 (.p 0 (.p 1 (.p 2 (.p 3 (.p 4 (.q 5 (.p 6 (.q 7 (.p 8 (.q 9 (.p 10 (.q 11 (.h 12 (.h 13 (.h 14 (.p 15 (.p 16 (.p 17 (.h 18 (.done)))))))))))))))))))) (by kernel_rfl) (by kernel_rfl) (by rw [HD.out]; exact ⟨⟨D, KG4.out, KX4.out, KB4.out⟩, rfl⟩) ?_
   rw [HD.out]
   iterate 5 (refine wpTurn_p rfl rfl ?_; go_big_quiet_step (fail); refine wpQuiet_nil ?_)
   (refine wpTurn_q rfl rfl ?_; go_big_quiet_step (fail); refine wpQuiet_nil ?_)
   (refine wpTurn_p rfl rfl ?_; go_big_quiet_step (fail); refine wpQuiet_nil ?_)
   (refine wpTurn_q rfl rfl ?_; go_big_quiet_step (fail); refine wpQuiet_nil ?_)
   (refine wpTurn_p rfl rfl ?_; go_big_quiet_step (fail); refine wpQuiet_nil ?_)
   (refine wpTurn_q rfl rfl ?_; go_big_quiet_step (fail); refine wpQuiet_nil ?_)
   (refine wpTurn_p rfl rfl ?_; go_big_quiet_step (fail); refine wpQuiet_nil ?_)
   (refine wpTurn_q rfl rfl ?_; go_big_quiet_step (fail); refine wpQuiet_nil ?_)
   refine wpTurn_h rfl rfl fun R' hR' hO => ?_
   go_wp2_with fail
   refine (Seek_any hd h0 h1 D).mono ?_
   rintro e9 w5 ⟨rfl, hb5⟩
   have KG5 := hid (klD KG4.out hb5)
   have KX5 := hid (klD KX4.out hb5)
   have KB5 := hid (klD KB4.out hb5)
   have R5 := hid (R4.out.grow hb5)
   clear KG4 KX4 KB4 R4 hb5
   unfold skV seekK
   go_wp2
   refine hR' _ _ ⟨⟨w5, KG5.out, KX5.out, KB5.out⟩, rfl⟩ ?_
   clear hR' hO R'
   refine wpTurn_h rfl rfl fun R' hR' hO => ?_
   obtain ⟨w6, hw6, hbn, hsn, hln⟩ := laid w5 #[.int .i64 0, .int .u64 h0, .int .u64 h1, .int .u64 hd, .int .u64 0, .int .u64 0, .bool false] 46
   obtain ⟨AB, hAB⟩ := nm (w5.heap.size)
   rw [hAB] at hln
   have KG6 := hid (klD KG5.out hbn)
   have KX6 := hid (klD KX5.out hbn)
   have KB6 := hid (klD KB5.out hbn)
   have R6 := hid (R5.out.grow hbn)
   have KA6 := hid hln
   clear KG5 KX5 KB5 R5 hbn hsn hln
   go_wp2
   refine hR' _ _ ⟨⟨w6, KG6.out, KX6.out, KB6.out⟩, rfl⟩ ?_
   clear hR' hO R' hw6 hAB
   refine wpTurn_h rfl rfl fun R' hR' hO => ?_
   have hrl : (seeksK hd (w.K.take k)).length = k := by unfold seeksK; rw [List.length_map, List.length_take, HNK.out]; omega
   have HRL := hid hrl
   have hrw := R6.out.rds
   rw [hrl] at hrw
   have HRW := hid hrw
   clear hrl hrw
   go_wp2_with ((with_reducible show wpList _ _ _ _ _ _); refine waM elemSk rfl (.tmp 37) (.tmp 45) rfl V.heap.size (.slice ra k rc) k _ rfl HRW.out ⟨AB, 0, none⟩ 1 1 (sk7l (seekK hd h0 h1)) rfl ?c1 ?c2 ?c3 ?c4 ?c5 ?c6)
   case c1 => rfl
   case c2 =>
    intro j u hj
    exact cell_add (by rw [Nat.zero_add]; exact clD KA6.out (by simpa [sk7l, seekK] using hj))
   case c3 => intro u hu; simp only [sk7l, List.mem_cons, List.mem_nil_iff, or_false] at hu; rcases hu with rfl | rfl | rfl | rfl | rfl | rfl | rfl <;> rfl
   case c4 => omega
   case c5 => exact R6.out.below.size
   case' c6 =>
    intro v' w7 hown hgr hmv
    obtain ⟨ra', rc', rfl, hR7⟩ := R6.out.app HRL.out hown hgr (Nat.le_refl _)
    have KG7 := hid (kgr KG6.out hgr (fun e => own_neT HRW.out KG6.out (by decide) G e rfl))
    have KX7 := hid (kgr KX6.out hgr (fun e => own_neT HRW.out KX6.out (by decide) X e rfl))
    have KB7 := hid (kgr KB6.out hgr (fun e => own_neT HRW.out KB6.out (by decide) B e rfl))
    have R7 := hid hR7
    clear hown hgr hmv hR7 KG6 KX6 KB6 R6 KA6 HRW HRL
    go_wp2
    refine hR' _ _ ⟨⟨w7, KG7.out, KX7.out, KB7.out⟩, rfl⟩ ?_
    clear hR' hO R'
   iterate 3 (refine wpTurn_p rfl rfl ?_; go_big_quiet_step (fail); refine wpQuiet_nil ?_)
   refine wpTurn_m rfl fun R' hR' hO => ?_
   go_wp2_with (refine wsP rfl 47 (.tmp 49) (.tmp 46) rfl G 20 _ (g23 wa' wl wc' la' ll lc' false 0 false zeroEd zeroSk ra' (k + 1) rc' ja nj jc hd) _ rfl rfl _ KG7.out (by kernel_rfl) (Nat.le_of_ble_eq_true rfl) (by kernel_rfl) rfl ?_; intro u9 a1 a2 a3 a4; have KG9 := hid a1; have KX9 := hid (a2 X _ (by omega) KX7.out); have R9 := hid (R7.out.put KG7.out (by decide) (by decide) (by decide) a2 a3 hVG a4 (.inl hVG)); clear a1 a2 a3 a4 KG7 KX7 KB7 R7; (try simp only [Act.put]))
   refine hR' _ _ ?_
   clear hR' hO R'
   refine wpTurn_done ?_
   clear HD q20 qx3 qb0 qb1
   go_wp2
   go_roundg gm
   case measure => have := HGM.out; have := HK.out; omega
   case rel => exact ⟨k + 1, _, _, by have := HGM.out; have := HK.out; omega, rfl, KG9, KX9, hid (by rw [take_snoc HP.out]; unfold seeksK; rw [List.map_append]; exact R9.out)⟩
  ·have tl : decide (((k : Nat) : Int) < ((nk : Nat) : Int)) = false := decide_eq_false (by omega)
   have hkn : k = nk := by have := HK.out; omega
   have HTK : Hid (w.K.take k = w.K) := hid (List.take_of_length_le (by rw [HNK.out]; omega))
   have R2 : Hid (GoR V V (V.heap.size ≤ ·) wa' wc' la' lc' ⟨w.M.W, w.M.L, false⟩ ra rc (seeksK hd w.K) wr) := hid (by have := hR.out; rwa [HTK.out] at this)
   have HC := hid (begins_any V V (V.heap.size ≤ ·) G ja nj jc hd w.J ⟨⟨w.M.W, w.M.L, false⟩, 0, false, zeroEd, zeroSk, seeksK hd w.K⟩ wr hVG hVG HHW.out.j HHW.out.nj ⟨wa', wc', la', lc', ra, rc, by dsimp only; rw [HW1.out, HL1.out, show (seeksK hd w.K).length = k by unfold seeksK; rw [List.length_map, HNK.out, hkn]]; exact hKG.out, R2.out⟩)
   clear hKG hKX hR R2 HTK hkn
   go_wp2_with fail
   refine HC.out.mono ?_
   rintro e9 W ⟨rfl, hW⟩
   have HW := hid hW
   clear hW HC
   go_wp2
   go_ret
   exact ⟨G, rfl, hVG, by rw [show ofG w = beginsG w.J hd ⟨⟨w.M.W, w.M.L, false⟩, 0, false, zeroEd, zeroSk, seeksK hd w.K⟩ by unfold ofG; rw [HH1.out]]; exact HW.out⟩
end Go.Proofs.YtipohagcppfgiaaGreat
namespace Go.Proofs.YtipohagcppfgiaaGreat
open Go.RowKit
open Go.Proofs
set_option linter.unusedVariables false
attribute [local go_sem] Oper.semAt_some
abbrev w21 (wa : Option Addr) (wn wc : Nat) (la : Option Addr) (ln lc : Nat) (F : Bool) (done : Nat) (edits : Bool) (e : Ede) (s : Sk) (ra : Option Addr) (rn rc : Nat) : Array Value :=
 #[.slice wa wn wc, .slice la ln lc, .bool F, .int .i64 done, .bool edits,
  .int .i64 e.ph, .bool e.cuts, .int .u64 e.link, .int .u64 e.at_, .int .u64 e.key, .int .u64 e.val, .int .u64 e.hash, .int .u64 e.next,
  .int .i64 s.ph, .int .u64 s.hash, .int .u64 s.key, .int .u64 s.link, .int .u64 s.node, .int .u64 s.val, .bool s.found,
  .slice ra rn rc]
/-- What a walk comes to: where all are, in memory of its own. -/
def GivesW (g : Gst) (V : World) (v : Value) (W : World) : Prop := ∃ wa wc la lc ra rc, v = .agg (w21 wa g.M.W.length wc la g.M.L.length lc g.M.F g.done g.edits g.ed g.wr ra g.R.length rc) ∧ MemO V.heap.size wa wc la lc g.M W ∧ W.ownsRow V.heap.size 46 7 (.slice ra g.R.length rc) g.R.length (skcells g.R) ∧ Below V.heap.size V W
def zeroG : Gst := ⟨zeroM, 0, false, zeroEd, zeroSk, []⟩
def playG (w : Wal) (ps : List Int) : Gst := ps.foldl (pickG w.J w.head) (ofG w)
def playP (w : Wal) (ps : List Int) : Gst × Nat := if (wFault w).2 ≠ 0 then (zeroG, (wFault w).2) else (playG w ps, 0)
theorem gives_zero (V W : World) (h : Below V.heap.size V W) : GivesW zeroG V (.agg (w21 none 0 0 none 0 0 false 0 false zeroEd zeroSk none 0 0)) W :=
 ⟨none, 0, none, 0, none, 0, rfl, ⟨World.ownsRow_nil _ _ _ _, World.ownsRow_nil _ _ _ _⟩, World.ownsRow_nil _ _ _ _, h⟩
theorem zeroSk_ok : zeroSk.Ok := ⟨by decide, by decide, by decide, by decide, by decide, by decide⟩
theorem zeroEd_ok : zeroEd.Ok := by constructor <;> decide
theorem seekK_ok {head h k : Nat} (h1 : head < 18446744073709551616) (h2 : h < 18446744073709551616) (h3 : k < 18446744073709551616) : (seekK head h k).Ok := ⟨by show (-9223372036854775808 : Int) ≤ 0 ∧ (0 : Int) ≤ _; decide, h2, h3, h1, by show (0 : Nat) < _; decide, by show (0 : Nat) < _; decide⟩
theorem zeroW_ok : ∀ x ∈ zeroM.W, x < 18446744073709551616 := fun x hx => by cases hx
theorem sseekP_ok {M : Mem} {s : Sk} (hW : ∀ x ∈ M.W, x < 18446744073709551616) (hs : s.Ok) : (∀ x ∈ (sseekP M s).1.W, x < 18446744073709551616) ∧ (sseekP M s).2.1.Ok := by
 unfold sseekP
 cases hok : okM M with
 | false => rw [if_pos rfl]; exact ⟨zeroW_ok, zeroSk_ok⟩
 | true =>
  rw [if_neg (by decide)]
  by_cases hp : s.ph < 0 ∨ 5 < s.ph
  ·rw [if_pos hp]; exact ⟨zeroW_ok, zeroSk_ok⟩
  ·rw [if_neg hp]
   obtain ⟨-, h2, h3, -, -⟩ := seekE_ok hok hW hs (by omega) (by omega)
   exact ⟨h2, h3⟩
theorem seditP_ok {M : Mem} {s : Ede} (hW : ∀ x ∈ M.W, x < 18446744073709551616) (hs : s.Ok) : (∀ x ∈ (seditP M s).1.W, x < 18446744073709551616) ∧ (seditP M s).2.1.Ok := by
 unfold seditP
 cases hok : okM M with
 | false => rw [if_pos rfl]; exact ⟨zeroW_ok, zeroEd_ok⟩
 | true =>
  rw [if_neg (by decide)]
  by_cases hp : s.ph < 0 ∨ 7 < s.ph
  ·rw [if_pos hp]; exact ⟨zeroW_ok, zeroEd_ok⟩
  ·rw [if_neg hp]
   obtain ⟨-, h2, h3, -⟩ := editE_ok hok hW hs (by omega) (by omega)
   exact ⟨h2, h3⟩
theorem begins_ok {J : List Jb} {head : Nat} {g : Gst} (hh : head < 18446744073709551616) (hj : ∀ x ∈ J, x.2.Ok) (hd : g.done ≤ J.length) (hr : ∀ x ∈ g.R, x.Ok) (hw : ∀ x ∈ g.M.W, x < 18446744073709551616) : GOk J (beginsG J head g) := by
 refine ⟨hd, zeroEd_ok, ?_, hr, hw⟩
 show (match J[g.done]? with | none => zeroSk | some j => seekK head j.2.2.2.2 j.2.2.1).Ok
 cases h : J[g.done]? with
 | none => exact zeroSk_ok
 | some j => have := hj _ (List.mem_of_getElem? h); exact seekK_ok hh this.2.2.2 this.2.1
theorem done_ok {J : List Jb} {head : Nat} {g : Gst} (hh : head < 18446744073709551616) (hj : ∀ x ∈ J, x.2.Ok) (hd : g.done < J.length) (hr : ∀ x ∈ g.R, x.Ok) (hw : ∀ x ∈ g.M.W, x < 18446744073709551616) : GOk J (doneG J head g) :=
 begins_ok hh hj (by show g.done + 1 ≤ _; omega) hr hw
theorem write_ok {J : List Jb} {head : Nat} {g : Gst} (hh : head < 18446744073709551616) (hj : ∀ x ∈ J, x.2.Ok) (ho : GOk J g) : GOk J (writeG J head g) := by
 obtain ⟨M, d, eb, e, s, R⟩ := g
 obtain ⟨hd, he, hs, hr, hw⟩ := ho
 dsimp only at hd he hs hr hw
 unfold writeG
 by_cases hdn : d = J.length
 ·rw [if_pos hdn]; exact ⟨hd, he, hs, hr, hw⟩
 ·rw [if_neg hdn]
  cases eb with
  | true =>
   rw [if_pos rfl]
   unfold editG
   obtain ⟨h1, h2⟩ := seditP_ok hw he
   dsimp only
   split
   ·exact done_ok hh hj (by show d < _; omega) hr h1
   ·exact ⟨hd, h2, hs, hr, h1⟩
  | false =>
   rw [if_neg (by simp)]
   unfold seekG
   obtain ⟨h1, h2⟩ := sseekP_ok hw hs
   dsimp only
   split
   ·unfold overG
    dsimp only
    split
    ·exact ⟨hd, he, h2, hr, h1⟩
    ·rename_i j hj'
     have hjk := hj _ (List.mem_of_getElem? hj')
     split
     ·exact ⟨hd, ⟨by show (-9223372036854775808 : Int) ≤ 4 ∧ (4 : Int) ≤ _; decide, h2.link, h2.node, by show (0 : Nat) < _; decide, by show (0 : Nat) < _; decide, by show (0 : Nat) < _; decide, by show (0 : Nat) < _; decide⟩, h2, hr, h1⟩
     ·split
      ·exact ⟨hd, ⟨by show (-9223372036854775808 : Int) ≤ 0 ∧ (0 : Int) ≤ _; decide, h2.link, hjk.1, hjk.2.1, hjk.2.2.1, hjk.2.2.2, h2.node⟩, h2, hr, h1⟩
      ·exact done_ok hh hj (by show d < _; omega) hr h1
   ·exact ⟨hd, he, h2, hr, h1⟩
theorem pick_ok {J : List Jb} {head : Nat} {g : Gst} {n : Int} (hh : head < 18446744073709551616) (hj : ∀ x ∈ J, x.2.Ok) (ho : GOk J g) : GOk J (pickG J head g n) := by
 unfold pickG
 split
 ·exact write_ok hh hj ho
 ·split
  ·split
   ·exact ho
   ·rename_i s hs
    obtain ⟨h1, h2⟩ := sseekP_ok ho.w (ho.r _ (List.mem_of_getElem? hs))
    refine ⟨ho.d, ho.e, ho.s, fun x hx => ?_, h1⟩
    rcases List.mem_or_eq_of_mem_set hx with h | rfl
    ·exact ho.r _ h
    ·exact h2
  ·exact ho
theorem of_ok {w : Wal} (hh : w.head < 18446744073709551616) (hj : ∀ x ∈ w.J, x.2.Ok) (hk : ∀ x ∈ w.K, x.1 < 18446744073709551616 ∧ x.2 < 18446744073709551616) (hw : ∀ x ∈ w.M.W, x < 18446744073709551616) : GOk w.J (ofG w) := by
 refine begins_ok hh hj (Nat.zero_le _) (fun x hx => ?_) hw
 simp only [seeksK, List.mem_map] at hx
 obtain ⟨k, hk', rfl⟩ := hx
 exact seekK_ok hh (hk _ hk').1 (hk _ hk').2
theorem play_ok {w : Wal} (hh : w.head < 18446744073709551616) (hj : ∀ x ∈ w.J, x.2.Ok) (hk : ∀ x ∈ w.K, x.1 < 18446744073709551616 ∧ x.2 < 18446744073709551616) (hw : ∀ x ∈ w.M.W, x < 18446744073709551616) (ps : List Int) : GOk w.J (playG w ps) := by
 refine snocRec (p := fun ps => GOk w.J (playG w ps)) (of_ok hh hj hk hw) (fun l x ih => ?_) ps
 unfold playG at ih ⊢
 rw [List.foldl_append]
 exact pick_ok hh hj ih
/-- What a walk that may be is. -/
theorem wFault_ok {w : Wal} (h : (wFault w).2 = 0) : w.M.W.length ≤ 4096 ∧ w.M.L.length ≤ 4096 ∧ w.J.length ≤ 16 ∧ w.K.length ≤ 8 := by
 unfold wFault at h
 split at h
 ·cases h
 ·rename_i hn
  have hok : okM w.M = true := by
   cases e : okM w.M with
   | true => rfl
   | false => exact absurd (.inl e) hn
  obtain ⟨-, h2, h3, -⟩ := okM_spec hok
  refine ⟨h2, by omega, ?_⟩
  unfold wNodes at h
  split at h
  ·rename_i h'; exact absurd h h'
  ·split at h
   ·cases h
   ·split at h
    ·cases h
    ·rename_i h'; omega
theorem wFault_jobs {w : Wal} {E : Nat} (h : (wFault w).2 = E) (hE : E = 0) : w.J.length ≤ 1000 := by have := wFault_ok (w := w) (by omega); omega
theorem play_snoc (w : Wal) (ps : List Int) (n : Int) : playG w (ps ++ [n]) = pickG w.J w.head (playG w ps) n := by unfold playG; rw [List.foldl_append]; rfl
end Go.Proofs.YtipohagcppfgiaaGreat
namespace Go.Proofs.YtipohagcppfgiaaGreat
open Go.RowKit
open Go.Proofs
set_option linter.unusedVariables false
attribute [local go_sem] Oper.semAt_some
theorem icell_at {ps : List Int} {k : Nat} {n : Int} (h : ps[k]? = some n) : (icells ps)[k]? = some (.int .i64 n) := by unfold icells; rw [List.getElem?_map, h]; rfl
theorem Play_result {W : World} {b : Nat} {vs : Array Value} {u5 : Value} {tmps : Array Value} (h : W.heap[b]? = some (.cells vs 49 (0, 0))) (hs : vs.size = 21) (q4 : tmps[4]?.getD undef = .pointer (some ⟨b, 0, none⟩)) (q5 : tmps[5]?.getD undef = u5) :
  (results Tryz.f18 tmps).run Tryz.prog W = .ok (.tuple #[.agg vs, u5]) W := by
 have hl := run_loadVar_row (P := Tryz.prog) W b 49 49 vs (0, 0) _ h Tryz.underlying49 rfl (by rw [hs]; kernel_rfl)
 have ha : (asAddr (.pointer (some ⟨b, 0, none⟩))).run Tryz.prog W = .ok ⟨b, 0, none⟩ W := rfl
 simp [results, Tryz.results18, q4, q5, ha, hl]
set_option maxRecDepth 100000 in
set_option maxHeartbeats 8000000 in
theorem Play_any (w : Wal) (ps : List Int) (pa wa la ja ka : Option Addr) (np pc wc lc jc kc nj nk : Nat) (V : World) (h : WalL V wa wc la lc ja nj jc ka nk kc w) (hp : Leads V pa np pc (icells ps)) (hnp : ps.length = np) (hpo : ∀ n ∈ ps, -9223372036854775808 ≤ n ∧ n ≤ 9223372036854775807) (hnp2 : np ≤ 1000000) :
  Calls Tryz.prog 18 #[walV wa wc la lc ja nj jc ka nk kc w, .slice pa np pc] V (fun e W => ∃ v, e = .returned (.tuple #[v, .int .i64 (((playP w ps).2 : Nat) : Int)]) ∧ GivesW (playP w ps).1 V v W) := by
 obtain ⟨hd, hhd⟩ := nm (w.head)
 obtain ⟨wl, hwl'⟩ := nm (w.M.W.length)
 obtain ⟨ll, hll'⟩ := nm (w.M.L.length)
 obtain ⟨F, hf⟩ := nm (w.M.F)
 obtain ⟨V1, hV1, hb1, hs1, hl1⟩ := laid V (wal8 wa wl wc la ll lc F hd ja nj jc ka nk kc) 30
 obtain ⟨X, hX⟩ := nm (V.heap.size)
 rw [hX] at hl1
 obtain ⟨V2, hV2, hb2, hs2, hl2⟩ := laid V1 (w21 none 0 0 none 0 0 false 0 false zeroEd zeroSk none 0 0) 49
 obtain ⟨Y, hY⟩ := nm (V1.heap.size)
 rw [hY] at hl2
 have hXY : X < Y := by omega
 have hVY : V.heap.size ≤ Y := by omega
 have HX := hid (klD hl1 hb2)
 have HY := hid hl2
 have HB := hid (step hb1 hb2)
 have hV2' : V1.alloc (.cells #[.slice none 0 0, .slice none 0 0, .bool false, .int .i64 0, .bool false, .int .i64 0, .bool false, .int .u64 0, .int .u64 0, .int .u64 0, .int .u64 0, .int .u64 0, .int .u64 0, .int .i64 0, .int .u64 0, .int .u64 0, .int .u64 0, .int .u64 0, .int .u64 0, .bool false, .slice none 0 0] 49) = V2 := hV2
 have HWL := hid h
 have HC := hid (WCheck_any w wa la ja ka wc lc jc kc nj nk V2 (h.grow HB.out))
 have HPS := hid hp
 have HNP := hid hnp
 have HPO := hid hpo
 have hpl := hp.len
 obtain ⟨E, hE⟩ := nm ((wFault w).2)
 rw [hE] at HC
 have HOF := hid (fun (hE0 : E = 0) (V' : World) (hb : Below V2.heap.size V2 V') => of_any w wa la ja ka wc lc jc kc nj nk V' ((h.grow HB.out).grow hb) (by
   have := wFault_ok (w := w) (by rw [hE]; exact hE0); omega) (by have := wFault_ok (w := w) (by rw [hE]; exact hE0); omega) (by have := wFault_ok (w := w) (by rw [hE]; exact hE0); have := h.nj; omega) (by have := wFault_ok (w := w) (by rw [hE]; exact hE0); have := h.nk; omega))
 have HE := hid hE
 have HHD := hid hhd
 unfold walV at HC HOF ⊢
 rw [hhd, hwl', hll', hf] at HC HOF ⊢
 clear hV2 h hb1 hs1 hl1 hb2 hs2 hl2 hhd hwl' hll' hf hp hnp hpo hE
 go_enter Tryz.func18, Tryz.ntmps18
 go_wp2_with (refine wlW rfl 30 (.tmp 2) rfl X _ rfl _ HX.out _ Tryz.underlying30 rfl (by kernel_rfl) ?_; intro v hv; subst hv)
 refine HC.out.mono ?_
 rintro e w3 ⟨rfl, hb3⟩
 have HX3 := hid (klD HX.out hb3)
 have HY3 := hid (klD HY.out hb3)
 have HB3 := hid (step HB.out hb3)
 have HOF3 := hid (fun hE0 => HOF.out hE0 w3 hb3)
 clear hb3 HX HY HB HC HOF hV1 hX hV2' hY
 by_cases hE0 : E = 0
 ·have tE : (((E : Nat) : Int) != 0) = false := by simp [hE0]
  have HR : Hid (playP w ps = (playG w ps, 0)) := hid (by unfold playP; rw [HE.out, if_neg (by simp [hE0])])
  have HOF4 := hid (HOF3.out hE0)
  have HJ1 := hid (wFault_jobs HE.out hE0)
  clear HOF3
  go_wp2_with (refine wlW rfl 30 (.tmp 2) rfl X _ rfl _ HX3.out _ Tryz.underlying30 rfl (by kernel_rfl) ?_; intro v hv; subst hv)
  refine HOF4.out.mono ?_
  rintro e w4 ⟨G, rfl, hG, hgc⟩
  rw [← HHD.out] at hgc
  have HGC := hid hgc
  clear hgc HOF4 hE0 tE
  go_wp2
  go_loopg [20] np (fun g i wr => ∃ (k : Nat), g + k = np ∧ i = .int .i64 k ∧ Hid (GoC w3 w3 (w3.heap.size ≤ ·) G ja nj jc w.head (playG w (ps.take k)) wr))
  case atStart => exact ⟨0, rfl, rfl, hid (by rw [List.take_zero]; exact HGC.out)⟩
  case round =>
   clear HGC
   obtain ⟨k, hk, rfl, hGC⟩ := hrel
   have HK := hid hk
   clear hk
   by_cases hlt : k < np
   ·have tl : decide (((k : Nat) : Int) < ((np : Nat) : Int)) = true := decide_eq_true (by omega)
    obtain ⟨n, hn⟩ : ∃ x, ps[k]? = some x := ⟨_, List.getElem?_eq_getElem (by rw [HNP.out]; exact hlt)⟩
    have HN := hid hn
    have hbw : Below w3.heap.size w3 wr := by obtain ⟨_, _, _, _, _, _, _, h2⟩ := hGC.out; exact h2.below
    obtain ⟨pb, po, rfl, hcc⟩ : ∃ b o, pa = some ⟨b, o, none⟩ ∧ ∀ i v, (icells ps)[i]? = some v → wr.cell? ⟨b, o + i, none⟩ = some v := by
     obtain ⟨_, _, ⟨q, _⟩ | ⟨b, off, e, _, h4⟩⟩ := (HPS.out.grow HB3.out).grow hbw
     ·omega
     ·exact ⟨b, off, e, h4⟩
    have c0 := hcc k _ (icell_at hn)
    have HPK := hid (pick_any w3 w3 (w3.heap.size ≤ ·) G ja nj jc w.head w.J (playG w (ps.take k)) wr hG hG (HWL.out.j.grow HB3.out) HWL.out.nj hGC.out HJ1.out HWL.out.jok (play_ok HWL.out.hh HWL.out.jok HWL.out.kok HWL.out.wok _) (fun k hk => hk) n (HPO.out n (List.mem_of_getElem? hn)))
    obtain ⟨gm, hgm⟩ : ∃ x, x = gk - 1 := ⟨_, rfl⟩
    have HGM := hid hgm
    clear hgm hcc hn hGC hbw
    go_wp2_with fail
    refine HPK.out.mono ?_
    rintro e w5 ⟨rfl, hgc⟩
    have HG5 := hid hgc
    clear hgc HPK c0
    go_wp2
    go_roundg gm
    case measure => have := HGM.out; have := HK.out; omega
    case rel => exact ⟨k + 1, by have := HGM.out; have := HK.out; omega, rfl, hid (by rw [take_snoc HN.out, play_snoc]; exact HG5.out)⟩
   ·have tl : decide (((k : Nat) : Int) < ((np : Nat) : Int)) = false := decide_eq_false (by omega)
    have hkn : ps.take k = ps := List.take_of_length_le (by rw [HNP.out]; omega)
    have hgc := hGC.out
    rw [hkn] at hgc
    obtain ⟨wa', wc', la', lc', ra', rc', hK, hR⟩ := hgc
    obtain ⟨g, hg⟩ := nm (playG w ps)
    rw [hg] at hK hR
    have HGg := hid hg
    have KG := hid hK
    have RG := hid hR
    have KY := hid (klD HY3.out hR.below)
    have hV3 : V.heap.size ≤ w3.heap.size := HB3.out.size
    clear hK hR hg hkn hGC
    go_wp2_with (first | (refine wp_loadP rfl 49 (.tmp 30) rfl G 0 _ (w21 wa' g.M.W.length wc' la' g.M.L.length lc' g.M.F g.done g.edits g.ed g.wr ra' g.R.length rc').toList rfl _ KG.out rfl _ Tryz.underlying49 rfl (by kernel_rfl) ?_; intro v hv; subst hv) | (refine wsP rfl 49 (.tmp 4) (.tmp 31) rfl Y 0 _ (w21 wa' g.M.W.length wc' la' g.M.L.length lc' g.M.F g.done g.edits g.ed g.wr ra' g.R.length rc') _ rfl rfl _ KY.out (by kernel_rfl) (Nat.le_of_ble_eq_true rfl) (by kernel_rfl) rfl ?_; intro u9 a1 a2 a3 a4; have KY9 := hid a1; have RM9 := hid (MemO.far2 RG.out.mem KY.out (by decide) (by decide) a2); have RR9 := hid (okp RG.out.rds fun k o hk ho => a2 k o (own_neT RG.out.rds KY.out (by decide) k hk) ho); have RB9 := hid (a3 V.heap.size V hVY (HB3.out.trans (RG.out.below.mono HB3.out.size))); clear a1 a2 a3 a4 KG RG KY; (try simp only [Act.put])))
    refine bodyPost_ret (Play_result KY9.out rfl rfl rfl) rfl ?_
    rw [HR.out]
    exact ⟨_, rfl, by rw [HGg.out]; exact ⟨_, _, _, _, _, _, rfl, RM9.out.base hV3, own_base RR9.out hV3, RB9.out⟩⟩
 ·have tE : (((E : Nat) : Int) != 0) = true := by simp; omega
  have HR : Hid (playP w ps = (zeroG, E)) := hid (by unfold playP; rw [HE.out, if_pos hE0])
  clear HOF3 hE0
  go_wp2_with (refine wsP rfl 49 (.tmp 4) (.tmp 14) rfl Y 0 _ (w21 none 0 0 none 0 0 false 0 false zeroEd zeroSk none 0 0) _ rfl rfl _ HY3.out (by kernel_rfl) (Nat.le_of_ble_eq_true rfl) (by kernel_rfl) rfl ?_; intro u9 a1 a2 a3 a4; have KY9 := hid a1; have RB9 := hid (a3 V.heap.size V hVY HB3.out); clear a1 a2 a3 a4 HY3 HB3; (try simp only [Act.put]))
  refine bodyPost_ret (Play_result KY9.out rfl rfl rfl) rfl ?_
  rw [HR.out]
  exact ⟨_, rfl, gives_zero V _ RB9.out⟩
end Go.Proofs.YtipohagcppfgiaaGreat
