/- Lists linked both ways: a step of who changes (printed by gen_dbl11.py). -/
import Derived.Test.YtoihjmdpbbcbjaaDbl10
import Derived.Laws.EntriesVeiled
namespace Go.Proofs.Ytoihjmdpbbcbjaa
open Go.RowKit
open Go.Proofs
set_option linter.unusedVariables false
attribute [local go_sem] Oper.semAt_some

def methF (k : Nat) : Nat := ([68, 69, 70, 71, 72, 73, 74, 75, 76] : List Nat).getD k 0
def accS (k : Nat) : Bool := !(k == 2 || (k == 5 || k == 6))
def accA (s : Ed) : Nat → Nat
  | 0 => posN s.pl 0
  | 1 => posN s.pl 1
  | 2 => fromN s
  | 3 => posN s.pl 2
  | 4 => posN s.pl 3
  | 5 => posN s.pl 2
  | 6 => posN s.pl 3
  | 7 => fromN s
  | _ => backN s
def accW (s : Ed) : Nat → Nat
  | 0 => s.key
  | 1 => s.val
  | 3 => s.next
  | 4 => s.prev
  | 7 => if s.cuts = true then s.next else s.pl
  | 8 => if s.cuts = true then s.prev else s.pl
  | _ => 0
def aftE (s : Ed) (k v : Nat) (d : Bool) : Ed :=
  match k with
  | 2 => { s with next := if d = true then v else s.next }
  | 5 => { s with next := if d = true then v else s.next }
  | 6 => { s with prev := if d = true then v else s.prev }
  | _ => s
def accR (M : Mem) (s : Ed) (k : Nat) : Mem × Nat × Bool := stepM M (accS k) ((accA s k : Nat) : Int) (accW s k)
theorem emeth_any {B : Nat} {fr : Bool} (k E : Nat) (s : Ed) (lost : Bool) (M : Mem) (V : World) (h : EdL B fr E s lost M V) (hB : B ≤ V.heap.size) (hok : okM M = true) (hs : s.Ok) (hk : k < 9) :
    Calls Try.prog (methF k) #[.pointer (some ⟨E, 0, none⟩)] V (GivesD B E V (aftE s k (accR M s k).2.1 (accR M s k).2.2) (!(accR M s k).2.2) (accR M s k).1) := by
  match k, hk with
  | 0, _ => exact ekey_any E s lost M V h hB hok hs
  | 1, _ => exact evalue_any E s lost M V h hB hok hs
  | 2, _ => exact eseek_any E s lost M V h hB hok hs
  | 3, _ => exact enext_any E s lost M V h hB hok hs
  | 4, _ => exact eprev_any E s lost M V h hB hok hs
  | 5, _ => exact eright_any E s lost M V h hB hok hs
  | 6, _ => exact eleft_any E s lost M V h hB hok hs
  | 7, _ => exact elink_any E s lost M V h hB hok hs
  | 8, _ => exact eturn_any E s lost M V h hB hok hs
theorem put9 {V : World} {Y : Nat} {z0 z1 z2 z3 z4 z5 z6 z7 z8 : Value} {T : TypeId} (h : V.heap[Y]? = some (.cells #[z0, z1, z2, z3, z4, z5, z6, z7, z8] T (0, 0))) (v0 v1 v2 v3 v4 v5 v6 v7 v8 : Value) :
    ∃ V', V' = (((((((((V.setCell ⟨Y, 0, none⟩ v0).setCell ⟨Y, 1, none⟩ v1).setCell ⟨Y, 2, none⟩ v2).setCell ⟨Y, 3, none⟩ v3).setCell ⟨Y, 4, none⟩ v4).setCell ⟨Y, 5, none⟩ v5).setCell ⟨Y, 6, none⟩ v6).setCell ⟨Y, 7, none⟩ v7).setCell ⟨Y, 8, none⟩ v8) ∧ V'.heap[Y]? = some (.cells #[v0, v1, v2, v3, v4, v5, v6, v7, v8] T (0, 0)) ∧ ∀ (B : Nat) (w : World), B ≤ Y → Below B w V → Below B w V' := by
  obtain ⟨V0, hV0⟩ : ∃ W, V.setCell ⟨Y, 0, none⟩ v0 = W := ⟨_, rfl⟩
  have h0 : V0.heap[Y]? = some (.cells #[v0, z1, z2, z3, z4, z5, z6, z7, z8] T (0, 0)) := by rw [← hV0]; exact set_laid (i := 0) h v0
  obtain ⟨V1, hV1⟩ : ∃ W, V0.setCell ⟨Y, 1, none⟩ v1 = W := ⟨_, rfl⟩
  have h1 : V1.heap[Y]? = some (.cells #[v0, v1, z2, z3, z4, z5, z6, z7, z8] T (0, 0)) := by rw [← hV1]; exact set_laid (i := 1) h0 v1
  obtain ⟨V2, hV2⟩ : ∃ W, V1.setCell ⟨Y, 2, none⟩ v2 = W := ⟨_, rfl⟩
  have h2 : V2.heap[Y]? = some (.cells #[v0, v1, v2, z3, z4, z5, z6, z7, z8] T (0, 0)) := by rw [← hV2]; exact set_laid (i := 2) h1 v2
  obtain ⟨V3, hV3⟩ : ∃ W, V2.setCell ⟨Y, 3, none⟩ v3 = W := ⟨_, rfl⟩
  have h3 : V3.heap[Y]? = some (.cells #[v0, v1, v2, v3, z4, z5, z6, z7, z8] T (0, 0)) := by rw [← hV3]; exact set_laid (i := 3) h2 v3
  obtain ⟨V4, hV4⟩ : ∃ W, V3.setCell ⟨Y, 4, none⟩ v4 = W := ⟨_, rfl⟩
  have h4 : V4.heap[Y]? = some (.cells #[v0, v1, v2, v3, v4, z5, z6, z7, z8] T (0, 0)) := by rw [← hV4]; exact set_laid (i := 4) h3 v4
  obtain ⟨V5, hV5⟩ : ∃ W, V4.setCell ⟨Y, 5, none⟩ v5 = W := ⟨_, rfl⟩
  have h5 : V5.heap[Y]? = some (.cells #[v0, v1, v2, v3, v4, v5, z6, z7, z8] T (0, 0)) := by rw [← hV5]; exact set_laid (i := 5) h4 v5
  obtain ⟨V6, hV6⟩ : ∃ W, V5.setCell ⟨Y, 6, none⟩ v6 = W := ⟨_, rfl⟩
  have h6 : V6.heap[Y]? = some (.cells #[v0, v1, v2, v3, v4, v5, v6, z7, z8] T (0, 0)) := by rw [← hV6]; exact set_laid (i := 6) h5 v6
  obtain ⟨V7, hV7⟩ : ∃ W, V6.setCell ⟨Y, 7, none⟩ v7 = W := ⟨_, rfl⟩
  have h7 : V7.heap[Y]? = some (.cells #[v0, v1, v2, v3, v4, v5, v6, v7, z8] T (0, 0)) := by rw [← hV7]; exact set_laid (i := 7) h6 v7
  obtain ⟨V8, hV8⟩ : ∃ W, V7.setCell ⟨Y, 8, none⟩ v8 = W := ⟨_, rfl⟩
  have h8 : V8.heap[Y]? = some (.cells #[v0, v1, v2, v3, v4, v5, v6, v7, v8] T (0, 0)) := by rw [← hV8]; exact set_laid (i := 8) h7 v8
  refine ⟨V8, ?_, h8, fun B w hB hb => ?_⟩
  · rw [← hV8, ← hV7, ← hV6, ← hV5, ← hV4, ← hV3, ← hV2, ← hV1, ← hV0]
  · rw [← hV8, ← hV7, ← hV6, ← hV5, ← hV4, ← hV3, ← hV2, ← hV1, ← hV0]
    exact (((((((((hb.setCell hB _).setCell hB _).setCell hB _).setCell hB _).setCell hB _).setCell hB _).setCell hB _).setCell hB _).setCell hB _)
theorem phases_result {W : World} {b : Nat} {v0 v1 v2 v3 v4 v5 v6 v7 v8 : Value} {tmps : Array Value} (h : W.heap[b]? = some (.cells #[v0, v1, v2, v3, v4, v5, v6, v7, v8] 114 (0, 0))) (hp : tmps[0]?.getD undef = .pointer (some ⟨b, 0, none⟩)) :
    (results Try.f54 tmps).run Try.prog W = .ok (.agg #[v0, v1, v2, v3, v4, v5, v6, v7, v8]) W := by
  have h0 := cell_laid (i := 0) (v := v0) h rfl
  have h1 := cell_laid (i := 1) (v := v1) h rfl
  have h2 := cell_laid (i := 2) (v := v2) h rfl
  have h3 := cell_laid (i := 3) (v := v3) h rfl
  have h4 := cell_laid (i := 4) (v := v4) h rfl
  have h5 := cell_laid (i := 5) (v := v5) h rfl
  have h6 := cell_laid (i := 6) (v := v6) h rfl
  have h7 := cell_laid (i := 7) (v := v7) h rfl
  have h8 := cell_laid (i := 8) (v := v8) h rfl
  simp [results, Try.results54, go_sem, hp, h0, h1, h2, h3, h4, h5, h6, h7, h8]
def methsV : Value := .agg #[.func (.func 68) #[] #[], .func (.func 69) #[] #[], .func (.func 70) #[] #[], .func (.func 71) #[] #[], .func (.func 72) #[] #[], .func (.func 73) #[] #[], .func (.func 74) #[] #[], .func (.func 75) #[] #[], .func (.func 76) #[] #[]]
set_option maxRecDepth 100000 in
set_option maxHeartbeats 2000000 in
theorem phases_any (V : World) : Calls Try.prog 54 #[] V (Ret methsV V) := by
  obtain ⟨V1, hV1, hb1, hs1, hl1⟩ := laid V #[.nilFunc, .nilFunc, .nilFunc, .nilFunc, .nilFunc, .nilFunc, .nilFunc, .nilFunc, .nilFunc] 114
  obtain ⟨Y, hY⟩ : ∃ Y, V.heap.size = Y := ⟨_, rfl⟩
  have hYY : V.heap.size ≤ Y := by omega
  rw [hY] at hl1
  obtain ⟨V2, hV2, hl2, hb2⟩ := put9 hl1 (.func (.func 68) #[] #[]) (.func (.func 69) #[] #[]) (.func (.func 70) #[] #[]) (.func (.func 71) #[] #[]) (.func (.func 72) #[] #[]) (.func (.func 73) #[] #[]) (.func (.func 74) #[] #[]) (.func (.func 75) #[] #[]) (.func (.func 76) #[] #[])
  have HL2 := hid hl2
  have HB2 := hid (hb2 _ _ hYY hb1)
  have f0 := free_laid (i := 0) hl1
  have c0 := cell_laid (i := 0) hl1 rfl
  have f1 := free_laid (i := 1) hl1
  have c1 := cell_laid (i := 1) hl1 rfl
  have f2 := free_laid (i := 2) hl1
  have c2 := cell_laid (i := 2) hl1 rfl
  have f3 := free_laid (i := 3) hl1
  have c3 := cell_laid (i := 3) hl1 rfl
  have f4 := free_laid (i := 4) hl1
  have c4 := cell_laid (i := 4) hl1 rfl
  have f5 := free_laid (i := 5) hl1
  have c5 := cell_laid (i := 5) hl1 rfl
  have f6 := free_laid (i := 6) hl1
  have c6 := cell_laid (i := 6) hl1 rfl
  have f7 := free_laid (i := 7) hl1
  have c7 := cell_laid (i := 7) hl1 rfl
  have f8 := free_laid (i := 8) hl1
  have c8 := cell_laid (i := 8) hl1 rfl
  have HV2 := hid hV2
  clear hl1 hs1 hl2 hb2 hV2 hb1 hYY
  go_enter Try.func54, Try.ntmps54
  go_wp2
  rw [← HV2.out]
  refine bodyPost_ret (phases_result HL2.out rfl) rfl ?_
  exact ⟨rfl, HB2.out⟩

theorem meth_at0 (W : World) : (Instr.index 114 methsV (.int .i64 0)).run Try.prog W = .ok (.func (.func (methF 0)) #[] #[]) W := by kernel_rfl
theorem meth_at1 (W : World) : (Instr.index 114 methsV (.int .i64 1)).run Try.prog W = .ok (.func (.func (methF 1)) #[] #[]) W := by kernel_rfl
theorem meth_at2 (W : World) : (Instr.index 114 methsV (.int .i64 2)).run Try.prog W = .ok (.func (.func (methF 2)) #[] #[]) W := by kernel_rfl
theorem meth_at3 (W : World) : (Instr.index 114 methsV (.int .i64 3)).run Try.prog W = .ok (.func (.func (methF 3)) #[] #[]) W := by kernel_rfl
theorem meth_at4 (W : World) : (Instr.index 114 methsV (.int .i64 4)).run Try.prog W = .ok (.func (.func (methF 4)) #[] #[]) W := by kernel_rfl
theorem meth_at5 (W : World) : (Instr.index 114 methsV (.int .i64 5)).run Try.prog W = .ok (.func (.func (methF 5)) #[] #[]) W := by kernel_rfl
theorem meth_at6 (W : World) : (Instr.index 114 methsV (.int .i64 6)).run Try.prog W = .ok (.func (.func (methF 6)) #[] #[]) W := by kernel_rfl
theorem meth_at7 (W : World) : (Instr.index 114 methsV (.int .i64 7)).run Try.prog W = .ok (.func (.func (methF 7)) #[] #[]) W := by kernel_rfl
theorem meth_at8 (W : World) : (Instr.index 114 methsV (.int .i64 8)).run Try.prog W = .ok (.func (.func (methF 8)) #[] #[]) W := by kernel_rfl
theorem meth_at (k : Nat) (hk : k < 9) (W : World) : (Instr.index 114 methsV (.int .i64 ((k : Nat) : Int))).run Try.prog W = .ok (.func (.func (methF k)) #[] #[]) W := by
  match k, hk with
  | 0, _ => exact meth_at0 W
  | 1, _ => exact meth_at1 W
  | 2, _ => exact meth_at2 W
  | 3, _ => exact meth_at3 W
  | 4, _ => exact meth_at4 W
  | 5, _ => exact meth_at5 W
  | 6, _ => exact meth_at6 W
  | 7, _ => exact meth_at7 W
  | 8, _ => exact meth_at8 W
theorem meth_enters (k : Nat) (hk : k < 9) : ∀ (args : Array Value) (w : World), (callFunc (methF k) args).run Try.prog w = .ok (.enter (methF k) args) w := by
  match k, hk with
  | 0, _ => exact enters_of Try.func68 (by kernel_rfl) rfl
  | 1, _ => exact enters_of Try.func69 (by kernel_rfl) rfl
  | 2, _ => exact enters_of Try.func70 (by kernel_rfl) rfl
  | 3, _ => exact enters_of Try.func71 (by kernel_rfl) rfl
  | 4, _ => exact enters_of Try.func72 (by kernel_rfl) rfl
  | 5, _ => exact enters_of Try.func73 (by kernel_rfl) rfl
  | 6, _ => exact enters_of Try.func74 (by kernel_rfl) rfl
  | 7, _ => exact enters_of Try.func75 (by kernel_rfl) rfl
  | 8, _ => exact enters_of Try.func76 (by kernel_rfl) rfl
/-- The phase behind one. -/
def nextPh (k : Nat) (d : Bool) : Int := if d = false then 10 else if k = 4 then 7 else ((k : Nat) : Int) + 1
/-- A step of who changes: the memory, and who changes. -/
def stepE (M : Mem) (s : Ed) : Mem × Ed :=
  if 9 ≤ s.ph then (M, s) else ((accR M s s.ph.toNat).1, { aftE s s.ph.toNat (accR M s s.ph.toNat).2.1 (accR M s s.ph.toNat).2.2 with ph := nextPh s.ph.toNat (accR M s s.ph.toNat).2.2 })
theorem aftE_ph (s : Ed) (k v : Nat) (d : Bool) : (aftE s k v d).ph = s.ph := by unfold aftE; split <;> rfl

set_option maxRecDepth 100000 in
set_option maxHeartbeats 2000000 in
theorem estep_any {B : Nat} {fr : Bool} (E : Nat) (s : Ed) (lost : Bool) (M : Mem) (V : World) (h : EdL B fr E s lost M V) (hB : B ≤ V.heap.size) (hok : okM M = true) (hs : s.Ok) (hp : 0 ≤ s.ph) :
    Calls Try.prog 43 #[.pointer (some ⟨E, 0, none⟩)] V (fun e W => e = .returned (.tuple #[]) ∧ V.grownBy W (some E) ∧ ∃ lost', EdL B (fr || decide (s.ph < 9)) E (stepE M s).2 lost' (stepE M s).1 W) := by
  obtain ⟨z, hz⟩ := h.cls
  have c0 := z.c0
  rw [← hz] at c0
  obtain ⟨k, hk⟩ : ∃ k : Nat, s.ph = ((k : Nat) : Int) := ⟨s.ph.toNat, by omega⟩
  rw [hk] at c0
  have hpl := hs.ph.2
  have HE := hid h
  clear hz z
  by_cases h9 : 9 ≤ k
  · have HF : Hid ((fr || decide (s.ph < 9)) = fr) := hid (by rw [decide_eq_false (by omega), Bool.or_false])
    have HR : Hid (stepE M s = (M, s)) := hid (by unfold stepE; rw [if_pos (by omega)])
    have t0 : decide ((9 : Int) ≤ ((k : Nat) : Int)) = true := decide_eq_true (by omega)
    clear h hok hs hp hk h9 hpl
    go_enter Try.func43, Try.ntmps43
    go_wp2
    refine bodyPost_ret (results_none rfl _ _ _) rfl ?_
    rw [HR.out, HF.out]
    exact ⟨rfl, grownBy_refl _ _, _, HE.out⟩
  · have t0 : decide ((9 : Int) ≤ ((k : Nat) : Int)) = false := decide_eq_false (by omega)
    have hk9 : k < 9 := by omega
    have HF : Hid ((fr || decide (s.ph < 9)) = true) := hid (by rw [decide_eq_true (by omega), Bool.or_true])
    have HR : Hid (stepE M s = ((accR M s k).1, { aftE s k (accR M s k).2.1 (accR M s k).2.2 with ph := nextPh k (accR M s k).2.2 })) := hid (by unfold stepE; rw [if_neg (by omega), show s.ph.toNat = k by omega])
    have hdr := (h.grow (Below.refl _ _).drew).cls
    haveI : Nonempty (RSd E s) := hdr.elim fun z _ => ⟨z⟩
    have HM := hid (fun V (h : EdL B fr E s lost M V) (hB : B ≤ V.heap.size) => emeth_any k E s lost M V h hB hok hs hk9)
    obtain ⟨⟨M', x, d⟩, hRR⟩ : ∃ R, accR M s k = R := ⟨_, rfl⟩
    rw [hRR] at HR HM
    dsimp only at HR HM
    unfold GivesD at HM
    obtain ⟨s1, hs1⟩ : ∃ s1, aftE s k x d = s1 := ⟨_, rfl⟩
    have HS1 : Hid (s1.ph = ((k : Nat) : Int)) := hid (by rw [← hs1, aftE_ph, hk])
    rw [hs1] at HR HM
    have q0 : ∀ z : RSd E s, z.w.cell? ⟨E, 0, none⟩ = some (.int .i64 ((k : Nat) : Int)) := fun z => by rw [z.c0, hk]
    have hix := meth_at k hk9
    have hen := meth_enters k hk9
    obtain ⟨mf, hmf⟩ : ∃ mf, methF k = mf := ⟨_, rfl⟩
    obtain ⟨mv, hmv⟩ : ∃ mv, methsV = mv := ⟨_, rfl⟩
    have HPH := hid (fun V => phases_any V)
    rw [hmf] at HM hix hen
    rw [hmv] at hix HPH
    obtain ⟨D, hD⟩ : ∃ D, V.drew = D := ⟨_, rfl⟩
    rw [hD] at hdr
    have HD := hid hD
    have HBD := hid (show Below V.heap.size V D by rw [← hD]; exact (Below.refl _ _).drew)
    have hk9' : ((k : Nat) : Int) < 9 := by omega
    clear h hok hs hp hk h9 hRR hs1 hmf hmv hD hpl
    go_enter Try.func43, Try.ntmps43
    go_wp2_with fail
    refine wp_region_mix2 (fun V => ∃ z : RSd E s, V = z.w) 8 (.q 1 (.q 2 (.q 3 (.q 4 (.q 5 (.q 7 (.h 0 (.q 6 .done)))))))) (by kernel_rfl) (by kernel_rfl) (by rw [HD.out]; exact hdr) ?_
    clear hdr
    rw [HD.out]
    repeat (refine wpMix2_q rfl rfl ?_; go_big_quiet_step (fail); refine wpQuiet_nil ?_)
    refine wpMix2_h rfl fun R' hR' hO => ?_
    go_wp2_with fail
    refine (HPH.out _).mono ?_
    rintro e W ⟨rfl, hb⟩
    have hEW := HE.out.grow (step HBD.out hb)
    have HEW := hid hEW
    have HGW := hid (grownBy_below (step HBD.out hb) (some E))
    have HBW := hid (Nat.le_trans hB (step HBD.out hb).size)
    clear hEW hb
    go_wp2
    refine hR' _ _ HEW.out.cls ?_
    clear hR' hO R'
    repeat (refine wpMix2_q rfl rfl ?_; go_big_quiet_step (fail); refine wpQuiet_nil ?_)
    refine wpMix2_done ?_
    simp only [List.drop_succ_cons, List.drop_zero]
    go_wp2_with fail
    refine (HM.out _ HEW.out HBW.out).mono ?_
    rintro e W2 ⟨rfl, hE2, hg2⟩
    have c11 := hE2.c11
    obtain ⟨z2, hz2⟩ := hE2.cls
    have d0 := z2.c0
    rw [← hz2, HS1.out] at d0
    have f0 := hE2.free (i := 0)
    have HE2 := hid hE2
    have HG2 := hid (grownBy_trans HGW.out hg2)
    clear hz2 z2 hE2 hg2
    cases d with
    | false =>
      have HP : Hid (nextPh k false = 10) := hid (by unfold nextPh; rw [if_pos rfl])
      go_wp2
      go_end0
      refine ⟨rfl, grownBy_trans HG2.out (grownBy_put _), ?_⟩
      rw [HR.out, HP.out, HF.out]
      exact ⟨_, HE2.out.put0 10⟩
    | true =>
      by_cases h4 : k = 4
      · subst h4
        have HP : Hid (nextPh 4 true = 7) := hid (by unfold nextPh; rw [if_neg (by decide), if_pos rfl])
        go_wp2
        go_end0
        refine ⟨rfl, grownBy_trans HG2.out (grownBy_put _), ?_⟩
        rw [HR.out, HP.out, HF.out]
        exact ⟨_, HE2.out.put0 7⟩
      · have t4 : (((k : Nat) : Int) == 4) = false := by simp; omega
        have HP : Hid (nextPh k true = ((k : Nat) : Int) + 1) := hid (by unfold nextPh; rw [if_neg (by decide), if_neg h4])
        clear h4
        go_wp2
        go_end0
        refine ⟨rfl, grownBy_trans HG2.out (grownBy_put _), ?_⟩
        rw [HR.out, HP.out, HF.out]
        have e : IntKind.i64.wrap (((k : Nat) : Int) + 1) = ((k : Nat) : Int) + 1 := by rw [IntKind.wrap_i64]; omega
        first | exact ⟨_, HE2.out.put0 (((k : Nat) : Int) + 1)⟩ | (rw [e]; exact ⟨_, HE2.out.put0 (((k : Nat) : Int) + 1)⟩)
end Go.Proofs.Ytoihjmdpbbcbjaa
