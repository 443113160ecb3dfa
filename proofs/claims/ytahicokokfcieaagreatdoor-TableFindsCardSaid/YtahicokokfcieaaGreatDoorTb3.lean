/- Tables (printed by gen_tb3.py): the listed variable; a root's word. -/
import Derived.Test.YtahicokokfcieaaGreatDoorTgAf
namespace Go.Proofs.YtahicokokfcieaaGreatDoor
open Go.RowKit
open Go.Proofs
set_option linter.unusedVariables false
attribute [local go_sem] Oper.semAt_some
/-- The variable that the program's text lays: the parts of a root's word. -/
structure Glob (w : World) : Prop where
  one : 1 ≤ w.heap.size
  c0 : w.cell? ⟨0, 0, none⟩ = some (.int .i64 0)
  c1 : w.cell? ⟨0, 1, none⟩ = some (.int .i64 32)
  c2 : w.cell? ⟨0, 2, none⟩ = some (.int .i64 32)
  c3 : w.cell? ⟨0, 3, none⟩ = some (.int .i64 8)
theorem Glob.grow {w w' : World} (h : Glob w) (hb : Below w.heap.size w w') : Glob w' := by
  have k : ∀ i v, w.cell? ⟨0, i, none⟩ = some v → w'.cell? ⟨0, i, none⟩ = some v := fun i v hv => (hb.cell (p := ⟨0, i, none⟩) (Nat.lt_of_lt_of_le Nat.zero_lt_one h.one)).trans hv
  exact ⟨Nat.le_trans h.one hb.size, k _ _ h.c0, k _ _ h.c1, k _ _ h.c2, k _ _ h.c3⟩
def fpt : List FieldI := [(0, 32), (32, 8)]
theorem Glob.parts {w : World} (h : Glob w) : Leads w (some ⟨0, 0, none⟩) 2 2 (fcells fpt) := by
  refine ⟨by decide, by decide, .inr ⟨0, 0, rfl, h.one, fun k u hk => ?_⟩⟩
  match k, hk with
  | 0, hk => obtain rfl := Option.some.inj hk; exact h.c0
  | 1, hk => obtain rfl := Option.some.inj hk; exact h.c1
  | 2, hk => obtain rfl := Option.some.inj hk; exact h.c2
  | 3, hk => obtain rfl := Option.some.inj hk; exact h.c3
theorem fpt_ok : fok fpt := by intro f hf; simp [fpt] at hf; rcases hf with rfl | rfl <;> decide
theorem fpt_ap : apGo [] fpt = true := by decide
theorem gets_fpt (x : Nat) : gets x fpt = [x % 4294967296, x / 4294967296 % 256] := by
  show [x / 2 ^ 0 % 2 ^ 32, x / 2 ^ 32 % 2 ^ 8] = _
  rw [show (2 : Nat) ^ 0 = 1 from rfl, Nat.div_one]
theorem set_app (x a c v : Nat) (hx : x < 2 ^ a) (h : a + c ≤ 64) (hv : v < 2 ^ c) : Pl.set x a c v = x + v * 2 ^ a := by
  have hx64 : x < 18446744073709551616 := Nat.lt_of_lt_of_le hx (by have := Nat.pow_le_pow_right (n := 2) (by decide) (show a ≤ 64 by omega); simpa using this)
  have e : x &&& (18446744073709551615 - Pl.mask a c) = x := by
    apply Nat.eq_of_testBit_eq
    intro i
    rw [Nat.testBit_and, Pl.not_bit _ _ (Pl.mask_lt a c h), Pl.mask_bit]
    cases hb : x.testBit i with
    | false => rfl
    | true =>
      have hi : i < a := by
        refine Classical.byContradiction fun hn => ?_
        have := Nat.testBit_lt_two_pow (Nat.lt_of_lt_of_le hx (Nat.pow_le_pow_right (by decide) (show a ≤ i by omega)))
        rw [hb] at this
        cases this
      rw [decide_eq_true (by omega : i < 64), decide_eq_false (by omega : ¬ (a ≤ i ∧ i < a + c))]
      rfl
  unfold Pl.set
  rw [e, Nat.or_comm, Nat.mul_comm, ← Nat.two_pow_add_eq_or_of_lt hx]
  omega
theorem pack_fpt (a d : Nat) (ha : a < 4294967296) (hd : d < 256) : packV fpt [a, d] = .tuple #[.int .u64 ((a + d * 4294967296 : Nat) : Int), .int .i64 0] := by
  have e1 : Pl.set 0 0 32 a = a := by rw [set_app 0 0 32 a (by decide) (by decide) ha]; simp
  have e2 : Pl.set a 32 8 d = a + d * 4294967296 := by rw [set_app a 32 8 d ha (by decide) hd]
  have e : packGo 0 (fpt.zip [a, d]) = some (a + d * 4294967296) := by
    simp only [fpt, List.zip_cons_cons, List.zip_nil_right, packGo]
    rw [if_pos (show a < 2 ^ (32 : Int).toNat from ha), if_pos (show d < 2 ^ (8 : Int).toNat from hd)]
    show some (Pl.set (Pl.set 0 0 32 a) 32 8 d) = _
    rw [e1, e2]
  unfold packV
  rw [fpt_ap, if_pos rfl, if_pos (show [a, d].length = fpt.length from rfl), e]
theorem results_tmp3 {fn : Func} {t u v : Tmp} (h : fn.results = #[.tmp t, .tmp u, .tmp v]) (tmps : Array Value) (P : Program) (w : World) :
    (results fn tmps).run P w = .ok (.tuple #[tmps.getD t undef, tmps.getD u undef, tmps.getD v undef]) w := by
  simp [results, h]
/-- What a root's word says: where the array is, and how many bits tell a bucket. -/
def saysW (x : Nat) : Option (Nat × Nat) := if 2 ≤ x / 4294967296 ∧ x / 4294967296 ≤ 4 then some (x % 4294967296, x / 4294967296) else none
def saysV : Option (Nat × Nat) → Value
  | none => .tuple #[.int .u64 0, .int .i64 0, .int .i64 290]
  | some (a, d) => .tuple #[.int .u64 ((a : Nat) : Int), .int .i64 ((2 ^ d : Nat) : Int), .int .i64 0]
set_option maxRecDepth 100000 in
set_option maxHeartbeats 1000000 in
theorem Says_big (x : Nat) (V : World) (hx : x < 18446744073709551616) (hG : Glob V) (h : 1099511627776 ≤ x) : Calls Tryz.prog 79 #[.int .u64 ((x : Nat) : Int)] V (Ret (saysV none) V) := by
  have hs := Split_ok x fpt (some ⟨0, 0, none⟩) 2 V hx hG.parts fpt_ok (by decide) fpt_ap
  rw [gets_fpt, show fpt.length = 2 from rfl] at hs
  obtain ⟨l0, e0⟩ : ∃ l0, x % 4294967296 = l0 := ⟨_, rfl⟩
  obtain ⟨l1, e1⟩ : ∃ l1, x / 4294967296 % 256 = l1 := ⟨_, rfl⟩
  rw [e0, e1] at hs
  have hp : ∀ (W : World) (a : Option Addr) (c : Nat), Below V.heap.size V W → Leads W a 2 c (wcells [l0, l1]) → Calls Tryz.prog 75 #[.slice (some ⟨0, 0, none⟩) 2 2, .slice a 2 c] W (Ret (.tuple #[.int .u64 ((l0 + l1 * 4294967296 : Nat) : Int), .int .i64 0]) W) := fun W a c hb hl => by
    have h := Pack_any fpt [l0, l1] (some ⟨0, 0, none⟩) 2 a c W (hG.grow hb).parts fpt_ok (by decide) hl (by intro y hy; simp at hy; rcases hy with rfl | rfl <;> omega)
    rw [pack_fpt l0 l1 (by omega) (by omega)] at h
    exact h
  obtain ⟨bk, ebk⟩ : ∃ bk, l0 + l1 * 4294967296 = bk := ⟨_, rfl⟩
  rw [ebk] at hp
  have HS := hid hs
  have HP := hid hp
  have hne : ¬ ((bk : Nat) : Int) = ((x : Nat) : Int) := by omega
  clear e0 e1 ebk
  unfold saysV
  clear hs hp hG
  go_enter Tryz.func79, Tryz.ntmps79
  go_wp2_with fail
  refine HS.out.mono ?_
  rintro e w2 ⟨v, rfl, ho, hb2⟩
  have HB2 := hid hb2
  obtain ⟨va, vc, rfl, hvl⟩ := Leads.of_own ho
  have HL2 := hid hvl
  clear ho hb2 HS hvl
  go_wp2_with fail
  refine (HP.out w2 va vc HB2.out HL2.out).mono ?_
  rintro e w3 ⟨rfl, hb3⟩
  have HB3 := hid (HB2.out.trans (hb3.mono HB2.out.size))
  have HL := hid (HL2.out.grow hb3)
  clear hb3 HP HL2
  go_wp2
  refine bodyPost_ret (results_tmp3 rfl _ _ _) rfl ?_
  exact ⟨rfl, HB3.out⟩
set_option maxRecDepth 100000 in
set_option maxHeartbeats 1000000 in
theorem Says_over (x : Nat) (V : World) (hx : x < 18446744073709551616) (hG : Glob V) (h : x < 1099511627776) (h8 : 8 < x / 4294967296) : Calls Tryz.prog 79 #[.int .u64 ((x : Nat) : Int)] V (Ret (saysV none) V) := by
  have hs := Split_ok x fpt (some ⟨0, 0, none⟩) 2 V hx hG.parts fpt_ok (by decide) fpt_ap
  rw [gets_fpt, show fpt.length = 2 from rfl] at hs
  obtain ⟨l0, e0⟩ : ∃ l0, x % 4294967296 = l0 := ⟨_, rfl⟩
  obtain ⟨l1, e1⟩ : ∃ l1, x / 4294967296 % 256 = l1 := ⟨_, rfl⟩
  rw [e0, e1] at hs
  have hp : ∀ (W : World) (a : Option Addr) (c : Nat), Below V.heap.size V W → Leads W a 2 c (wcells [l0, l1]) → Calls Tryz.prog 75 #[.slice (some ⟨0, 0, none⟩) 2 2, .slice a 2 c] W (Ret (.tuple #[.int .u64 ((l0 + l1 * 4294967296 : Nat) : Int), .int .i64 0]) W) := fun W a c hb hl => by
    have h := Pack_any fpt [l0, l1] (some ⟨0, 0, none⟩) 2 a c W (hG.grow hb).parts fpt_ok (by decide) hl (by intro y hy; simp at hy; rcases hy with rfl | rfl <;> omega)
    rw [pack_fpt l0 l1 (by omega) (by omega)] at h
    exact h
  obtain ⟨bk, ebk⟩ : ∃ bk, l0 + l1 * 4294967296 = bk := ⟨_, rfl⟩
  rw [ebk] at hp
  have HS := hid hs
  have HP := hid hp
  obtain rfl : bk = x := by omega
  have t8 : decide (((l1 : Nat) : Int) > 8) = true := decide_eq_true (by omega)
  have t9 : decide ((8 : Int) < ((l1 : Nat) : Int)) = true := decide_eq_true (by omega)
  clear e0 e1 ebk
  unfold saysV
  clear hs hp hG
  go_enter Tryz.func79, Tryz.ntmps79
  go_wp2_with fail
  refine HS.out.mono ?_
  rintro e w2 ⟨v, rfl, ho, hb2⟩
  have HB2 := hid hb2
  obtain ⟨va, vc, rfl, hvl⟩ := Leads.of_own ho
  have HL2 := hid hvl
  clear ho hb2 HS hvl
  go_wp2_with fail
  refine (HP.out w2 va vc HB2.out HL2.out).mono ?_
  rintro e w3 ⟨rfl, hb3⟩
  have HB3 := hid (HB2.out.trans (hb3.mono HB2.out.size))
  have HL := hid (HL2.out.grow hb3)
  clear hb3 HP HL2
  obtain ⟨-, -, ⟨h2, -⟩ | ⟨vb, vo, rfl, hvb, hcs⟩⟩ := HL.out
  · cases h2
  have HV := hid hvb
  have HC1 : Hid (∀ z : Ext w3, z.v.cell? ⟨vb, vo + 1, none⟩ = some (.int .u64 ((l1 : Nat) : Int))) := hid (fun z => (z.b.cell (p := ⟨vb, vo + 1, none⟩) HV.out).trans (hcs 1 _ rfl))
  have HC0 : Hid (∀ z : Ext w3, z.v.cell? ⟨vb, vo, none⟩ = some (.int .u64 ((l0 : Nat) : Int))) := hid (fun z => (z.b.cell (p := ⟨vb, vo, none⟩) HV.out).trans (hcs 0 _ rfl))
  clear hcs HL
  have c1 := HC1.out ⟨w3, Below.refl _ _⟩
  go_wp2
  refine bodyPost_ret (results_tmp3 rfl _ _ _) rfl ?_
  exact ⟨rfl, HB3.out⟩
set_option maxRecDepth 100000 in
set_option maxHeartbeats 1000000 in
theorem Says_0 (x : Nat) (V : World) (hx : x < 18446744073709551616) (hG : Glob V) (h : x / 4294967296 = 0) : Calls Tryz.prog 79 #[.int .u64 ((x : Nat) : Int)] V (Ret (saysV none) V) := by
  have hs := Split_ok x fpt (some ⟨0, 0, none⟩) 2 V hx hG.parts fpt_ok (by decide) fpt_ap
  rw [gets_fpt, show fpt.length = 2 from rfl] at hs
  obtain ⟨l0, e0⟩ : ∃ l0, x % 4294967296 = l0 := ⟨_, rfl⟩
  obtain ⟨l1, e1⟩ : ∃ l1, x / 4294967296 % 256 = l1 := ⟨_, rfl⟩
  rw [e0, e1] at hs
  have hp : ∀ (W : World) (a : Option Addr) (c : Nat), Below V.heap.size V W → Leads W a 2 c (wcells [l0, l1]) → Calls Tryz.prog 75 #[.slice (some ⟨0, 0, none⟩) 2 2, .slice a 2 c] W (Ret (.tuple #[.int .u64 ((l0 + l1 * 4294967296 : Nat) : Int), .int .i64 0]) W) := fun W a c hb hl => by
    have h := Pack_any fpt [l0, l1] (some ⟨0, 0, none⟩) 2 a c W (hG.grow hb).parts fpt_ok (by decide) hl (by intro y hy; simp at hy; rcases hy with rfl | rfl <;> omega)
    rw [pack_fpt l0 l1 (by omega) (by omega)] at h
    exact h
  obtain ⟨bk, ebk⟩ : ∃ bk, l0 + l1 * 4294967296 = bk := ⟨_, rfl⟩
  rw [ebk] at hp
  have HS := hid hs
  have HP := hid hp
  obtain rfl : bk = x := by omega
  obtain rfl : l1 = 0 := by omega
  skip
  have HM : Hid (∀ W : World, Calls Tryz.prog 74 #[.int .i64 1] W (Ret (.bool false) W)) := hid (fun W => may_any 1 W (by decide))
  clear e0 e1 ebk
  unfold saysV
  clear hs hp hG
  go_enter Tryz.func79, Tryz.ntmps79
  go_wp2_with fail
  refine HS.out.mono ?_
  rintro e w2 ⟨v, rfl, ho, hb2⟩
  have HB2 := hid hb2
  obtain ⟨va, vc, rfl, hvl⟩ := Leads.of_own ho
  have HL2 := hid hvl
  clear ho hb2 HS hvl
  go_wp2_with fail
  refine (HP.out w2 va vc HB2.out HL2.out).mono ?_
  rintro e w3 ⟨rfl, hb3⟩
  have HB3 := hid (HB2.out.trans (hb3.mono HB2.out.size))
  have HL := hid (HL2.out.grow hb3)
  clear hb3 HP HL2
  obtain ⟨-, -, ⟨h2, -⟩ | ⟨vb, vo, rfl, hvb, hcs⟩⟩ := HL.out
  · cases h2
  have HV := hid hvb
  have HC1 : Hid (∀ z : Ext w3, z.v.cell? ⟨vb, vo + 1, none⟩ = some (.int .u64 0)) := hid (fun z => (z.b.cell (p := ⟨vb, vo + 1, none⟩) HV.out).trans (hcs 1 _ rfl))
  have HC0 : Hid (∀ z : Ext w3, z.v.cell? ⟨vb, vo, none⟩ = some (.int .u64 ((l0 : Nat) : Int))) := hid (fun z => (z.b.cell (p := ⟨vb, vo, none⟩) HV.out).trans (hcs 0 _ rfl))
  clear hcs HL
  have c1 := HC1.out ⟨w3, Below.refl _ _⟩
  go_wp2_with fail
  refine (HM.out _).mono ?_
  rintro e w4 ⟨rfl, hb4⟩
  have HB4 := hid (HB3.out.trans (hb4.mono HB3.out.size))
  clear c1
  go_wp2
  refine bodyPost_ret (results_tmp3 rfl _ _ _) rfl ?_
  exact ⟨rfl, HB4.out⟩
set_option maxRecDepth 100000 in
set_option maxHeartbeats 1000000 in
theorem Says_1 (x : Nat) (V : World) (hx : x < 18446744073709551616) (hG : Glob V) (h : x / 4294967296 = 1) : Calls Tryz.prog 79 #[.int .u64 ((x : Nat) : Int)] V (Ret (saysV none) V) := by
  have hs := Split_ok x fpt (some ⟨0, 0, none⟩) 2 V hx hG.parts fpt_ok (by decide) fpt_ap
  rw [gets_fpt, show fpt.length = 2 from rfl] at hs
  obtain ⟨l0, e0⟩ : ∃ l0, x % 4294967296 = l0 := ⟨_, rfl⟩
  obtain ⟨l1, e1⟩ : ∃ l1, x / 4294967296 % 256 = l1 := ⟨_, rfl⟩
  rw [e0, e1] at hs
  have hp : ∀ (W : World) (a : Option Addr) (c : Nat), Below V.heap.size V W → Leads W a 2 c (wcells [l0, l1]) → Calls Tryz.prog 75 #[.slice (some ⟨0, 0, none⟩) 2 2, .slice a 2 c] W (Ret (.tuple #[.int .u64 ((l0 + l1 * 4294967296 : Nat) : Int), .int .i64 0]) W) := fun W a c hb hl => by
    have h := Pack_any fpt [l0, l1] (some ⟨0, 0, none⟩) 2 a c W (hG.grow hb).parts fpt_ok (by decide) hl (by intro y hy; simp at hy; rcases hy with rfl | rfl <;> omega)
    rw [pack_fpt l0 l1 (by omega) (by omega)] at h
    exact h
  obtain ⟨bk, ebk⟩ : ∃ bk, l0 + l1 * 4294967296 = bk := ⟨_, rfl⟩
  rw [ebk] at hp
  have HS := hid hs
  have HP := hid hp
  obtain rfl : bk = x := by omega
  obtain rfl : l1 = 1 := by omega
  skip
  have HM : Hid (∀ W : World, Calls Tryz.prog 74 #[.int .i64 2] W (Ret (.bool false) W)) := hid (fun W => may_any 2 W (by decide))
  clear e0 e1 ebk
  unfold saysV
  clear hs hp hG
  go_enter Tryz.func79, Tryz.ntmps79
  go_wp2_with fail
  refine HS.out.mono ?_
  rintro e w2 ⟨v, rfl, ho, hb2⟩
  have HB2 := hid hb2
  obtain ⟨va, vc, rfl, hvl⟩ := Leads.of_own ho
  have HL2 := hid hvl
  clear ho hb2 HS hvl
  go_wp2_with fail
  refine (HP.out w2 va vc HB2.out HL2.out).mono ?_
  rintro e w3 ⟨rfl, hb3⟩
  have HB3 := hid (HB2.out.trans (hb3.mono HB2.out.size))
  have HL := hid (HL2.out.grow hb3)
  clear hb3 HP HL2
  obtain ⟨-, -, ⟨h2, -⟩ | ⟨vb, vo, rfl, hvb, hcs⟩⟩ := HL.out
  · cases h2
  have HV := hid hvb
  have HC1 : Hid (∀ z : Ext w3, z.v.cell? ⟨vb, vo + 1, none⟩ = some (.int .u64 1)) := hid (fun z => (z.b.cell (p := ⟨vb, vo + 1, none⟩) HV.out).trans (hcs 1 _ rfl))
  have HC0 : Hid (∀ z : Ext w3, z.v.cell? ⟨vb, vo, none⟩ = some (.int .u64 ((l0 : Nat) : Int))) := hid (fun z => (z.b.cell (p := ⟨vb, vo, none⟩) HV.out).trans (hcs 0 _ rfl))
  clear hcs HL
  have c1 := HC1.out ⟨w3, Below.refl _ _⟩
  go_wp2_with fail
  refine (HM.out _).mono ?_
  rintro e w4 ⟨rfl, hb4⟩
  have HB4 := hid (HB3.out.trans (hb4.mono HB3.out.size))
  clear c1
  go_wp2
  refine bodyPost_ret (results_tmp3 rfl _ _ _) rfl ?_
  exact ⟨rfl, HB4.out⟩
set_option maxRecDepth 100000 in
set_option maxHeartbeats 1000000 in
theorem Says_2 (x : Nat) (V : World) (hx : x < 18446744073709551616) (hG : Glob V) (h : x / 4294967296 = 2) : Calls Tryz.prog 79 #[.int .u64 ((x : Nat) : Int)] V (Ret (saysV (some (x % 4294967296, 2))) V) := by
  have hs := Split_ok x fpt (some ⟨0, 0, none⟩) 2 V hx hG.parts fpt_ok (by decide) fpt_ap
  rw [gets_fpt, show fpt.length = 2 from rfl] at hs
  obtain ⟨l0, e0⟩ : ∃ l0, x % 4294967296 = l0 := ⟨_, rfl⟩
  obtain ⟨l1, e1⟩ : ∃ l1, x / 4294967296 % 256 = l1 := ⟨_, rfl⟩
  rw [e0, e1] at hs
  have hp : ∀ (W : World) (a : Option Addr) (c : Nat), Below V.heap.size V W → Leads W a 2 c (wcells [l0, l1]) → Calls Tryz.prog 75 #[.slice (some ⟨0, 0, none⟩) 2 2, .slice a 2 c] W (Ret (.tuple #[.int .u64 ((l0 + l1 * 4294967296 : Nat) : Int), .int .i64 0]) W) := fun W a c hb hl => by
    have h := Pack_any fpt [l0, l1] (some ⟨0, 0, none⟩) 2 a c W (hG.grow hb).parts fpt_ok (by decide) hl (by intro y hy; simp at hy; rcases hy with rfl | rfl <;> omega)
    rw [pack_fpt l0 l1 (by omega) (by omega)] at h
    exact h
  obtain ⟨bk, ebk⟩ : ∃ bk, l0 + l1 * 4294967296 = bk := ⟨_, rfl⟩
  rw [ebk] at hp
  have HS := hid hs
  have HP := hid hp
  obtain rfl : bk = x := by omega
  obtain rfl : l1 = 2 := by omega
  rw [e0]
  have HM : Hid (∀ W : World, Calls Tryz.prog 74 #[.int .i64 4] W (Ret (.bool true) W)) := hid (fun W => may_any 4 W (by decide))
  clear e0 e1 ebk
  unfold saysV
  clear hs hp hG
  go_enter Tryz.func79, Tryz.ntmps79
  go_wp2_with fail
  refine HS.out.mono ?_
  rintro e w2 ⟨v, rfl, ho, hb2⟩
  have HB2 := hid hb2
  obtain ⟨va, vc, rfl, hvl⟩ := Leads.of_own ho
  have HL2 := hid hvl
  clear ho hb2 HS hvl
  go_wp2_with fail
  refine (HP.out w2 va vc HB2.out HL2.out).mono ?_
  rintro e w3 ⟨rfl, hb3⟩
  have HB3 := hid (HB2.out.trans (hb3.mono HB2.out.size))
  have HL := hid (HL2.out.grow hb3)
  clear hb3 HP HL2
  obtain ⟨-, -, ⟨h2, -⟩ | ⟨vb, vo, rfl, hvb, hcs⟩⟩ := HL.out
  · cases h2
  have HV := hid hvb
  have HC1 : Hid (∀ z : Ext w3, z.v.cell? ⟨vb, vo + 1, none⟩ = some (.int .u64 2)) := hid (fun z => (z.b.cell (p := ⟨vb, vo + 1, none⟩) HV.out).trans (hcs 1 _ rfl))
  have HC0 : Hid (∀ z : Ext w3, z.v.cell? ⟨vb, vo, none⟩ = some (.int .u64 ((l0 : Nat) : Int))) := hid (fun z => (z.b.cell (p := ⟨vb, vo, none⟩) HV.out).trans (hcs 0 _ rfl))
  clear hcs HL
  have c1 := HC1.out ⟨w3, Below.refl _ _⟩
  go_wp2_with fail
  refine (HM.out _).mono ?_
  rintro e w4 ⟨rfl, hb4⟩
  have HB4 := hid (HB3.out.trans (hb4.mono HB3.out.size))
  clear c1
  have HD1 : Hid (∀ z : Ext w4, z.v.cell? ⟨vb, vo + 1, none⟩ = some (.int .u64 2)) := hid (fun z => HC1.out ⟨z.v, hb4.trans (z.b.mono hb4.size)⟩)
  have HD0 : Hid (∀ z : Ext w4, z.v.cell? ⟨vb, vo, none⟩ = some (.int .u64 ((l0 : Nat) : Int))) := hid (fun z => HC0.out ⟨z.v, hb4.trans (z.b.mono hb4.size)⟩)
  clear hb4
  go_upto_region 5 with (fail)
  have f1 := HD1.out
  have f0 := HD0.out
  refine wp_region_ext (by kernel_rfl) (by kernel_rfl) ?_
  repeat (go_big_quiet_step (fail))
  refine wpQuiet_nil ?_
  rintro w8 ⟨x8, e8⟩
  have hb8 := x8.b
  rw [← e8] at hb8
  clear e8 x8 f1 f0
  have HB8 := hid (HB4.out.trans (hb8.mono HB4.out.size))
  clear hb8
  go_wp2
  refine bodyPost_ret (results_tmp3 rfl _ _ _) rfl ?_
  exact ⟨rfl, HB8.out⟩
set_option maxRecDepth 100000 in
set_option maxHeartbeats 1000000 in
theorem Says_3 (x : Nat) (V : World) (hx : x < 18446744073709551616) (hG : Glob V) (h : x / 4294967296 = 3) : Calls Tryz.prog 79 #[.int .u64 ((x : Nat) : Int)] V (Ret (saysV (some (x % 4294967296, 3))) V) := by
  have hs := Split_ok x fpt (some ⟨0, 0, none⟩) 2 V hx hG.parts fpt_ok (by decide) fpt_ap
  rw [gets_fpt, show fpt.length = 2 from rfl] at hs
  obtain ⟨l0, e0⟩ : ∃ l0, x % 4294967296 = l0 := ⟨_, rfl⟩
  obtain ⟨l1, e1⟩ : ∃ l1, x / 4294967296 % 256 = l1 := ⟨_, rfl⟩
  rw [e0, e1] at hs
  have hp : ∀ (W : World) (a : Option Addr) (c : Nat), Below V.heap.size V W → Leads W a 2 c (wcells [l0, l1]) → Calls Tryz.prog 75 #[.slice (some ⟨0, 0, none⟩) 2 2, .slice a 2 c] W (Ret (.tuple #[.int .u64 ((l0 + l1 * 4294967296 : Nat) : Int), .int .i64 0]) W) := fun W a c hb hl => by
    have h := Pack_any fpt [l0, l1] (some ⟨0, 0, none⟩) 2 a c W (hG.grow hb).parts fpt_ok (by decide) hl (by intro y hy; simp at hy; rcases hy with rfl | rfl <;> omega)
    rw [pack_fpt l0 l1 (by omega) (by omega)] at h
    exact h
  obtain ⟨bk, ebk⟩ : ∃ bk, l0 + l1 * 4294967296 = bk := ⟨_, rfl⟩
  rw [ebk] at hp
  have HS := hid hs
  have HP := hid hp
  obtain rfl : bk = x := by omega
  obtain rfl : l1 = 3 := by omega
  rw [e0]
  have HM : Hid (∀ W : World, Calls Tryz.prog 74 #[.int .i64 8] W (Ret (.bool true) W)) := hid (fun W => may_any 8 W (by decide))
  clear e0 e1 ebk
  unfold saysV
  clear hs hp hG
  go_enter Tryz.func79, Tryz.ntmps79
  go_wp2_with fail
  refine HS.out.mono ?_
  rintro e w2 ⟨v, rfl, ho, hb2⟩
  have HB2 := hid hb2
  obtain ⟨va, vc, rfl, hvl⟩ := Leads.of_own ho
  have HL2 := hid hvl
  clear ho hb2 HS hvl
  go_wp2_with fail
  refine (HP.out w2 va vc HB2.out HL2.out).mono ?_
  rintro e w3 ⟨rfl, hb3⟩
  have HB3 := hid (HB2.out.trans (hb3.mono HB2.out.size))
  have HL := hid (HL2.out.grow hb3)
  clear hb3 HP HL2
  obtain ⟨-, -, ⟨h2, -⟩ | ⟨vb, vo, rfl, hvb, hcs⟩⟩ := HL.out
  · cases h2
  have HV := hid hvb
  have HC1 : Hid (∀ z : Ext w3, z.v.cell? ⟨vb, vo + 1, none⟩ = some (.int .u64 3)) := hid (fun z => (z.b.cell (p := ⟨vb, vo + 1, none⟩) HV.out).trans (hcs 1 _ rfl))
  have HC0 : Hid (∀ z : Ext w3, z.v.cell? ⟨vb, vo, none⟩ = some (.int .u64 ((l0 : Nat) : Int))) := hid (fun z => (z.b.cell (p := ⟨vb, vo, none⟩) HV.out).trans (hcs 0 _ rfl))
  clear hcs HL
  have c1 := HC1.out ⟨w3, Below.refl _ _⟩
  go_wp2_with fail
  refine (HM.out _).mono ?_
  rintro e w4 ⟨rfl, hb4⟩
  have HB4 := hid (HB3.out.trans (hb4.mono HB3.out.size))
  clear c1
  have HD1 : Hid (∀ z : Ext w4, z.v.cell? ⟨vb, vo + 1, none⟩ = some (.int .u64 3)) := hid (fun z => HC1.out ⟨z.v, hb4.trans (z.b.mono hb4.size)⟩)
  have HD0 : Hid (∀ z : Ext w4, z.v.cell? ⟨vb, vo, none⟩ = some (.int .u64 ((l0 : Nat) : Int))) := hid (fun z => HC0.out ⟨z.v, hb4.trans (z.b.mono hb4.size)⟩)
  clear hb4
  go_upto_region 5 with (fail)
  have f1 := HD1.out
  have f0 := HD0.out
  refine wp_region_ext (by kernel_rfl) (by kernel_rfl) ?_
  repeat (go_big_quiet_step (fail))
  refine wpQuiet_nil ?_
  rintro w8 ⟨x8, e8⟩
  have hb8 := x8.b
  rw [← e8] at hb8
  clear e8 x8 f1 f0
  have HB8 := hid (HB4.out.trans (hb8.mono HB4.out.size))
  clear hb8
  go_wp2
  refine bodyPost_ret (results_tmp3 rfl _ _ _) rfl ?_
  exact ⟨rfl, HB8.out⟩
set_option maxRecDepth 100000 in
set_option maxHeartbeats 1000000 in
theorem Says_4 (x : Nat) (V : World) (hx : x < 18446744073709551616) (hG : Glob V) (h : x / 4294967296 = 4) : Calls Tryz.prog 79 #[.int .u64 ((x : Nat) : Int)] V (Ret (saysV (some (x % 4294967296, 4))) V) := by
  have hs := Split_ok x fpt (some ⟨0, 0, none⟩) 2 V hx hG.parts fpt_ok (by decide) fpt_ap
  rw [gets_fpt, show fpt.length = 2 from rfl] at hs
  obtain ⟨l0, e0⟩ : ∃ l0, x % 4294967296 = l0 := ⟨_, rfl⟩
  obtain ⟨l1, e1⟩ : ∃ l1, x / 4294967296 % 256 = l1 := ⟨_, rfl⟩
  rw [e0, e1] at hs
  have hp : ∀ (W : World) (a : Option Addr) (c : Nat), Below V.heap.size V W → Leads W a 2 c (wcells [l0, l1]) → Calls Tryz.prog 75 #[.slice (some ⟨0, 0, none⟩) 2 2, .slice a 2 c] W (Ret (.tuple #[.int .u64 ((l0 + l1 * 4294967296 : Nat) : Int), .int .i64 0]) W) := fun W a c hb hl => by
    have h := Pack_any fpt [l0, l1] (some ⟨0, 0, none⟩) 2 a c W (hG.grow hb).parts fpt_ok (by decide) hl (by intro y hy; simp at hy; rcases hy with rfl | rfl <;> omega)
    rw [pack_fpt l0 l1 (by omega) (by omega)] at h
    exact h
  obtain ⟨bk, ebk⟩ : ∃ bk, l0 + l1 * 4294967296 = bk := ⟨_, rfl⟩
  rw [ebk] at hp
  have HS := hid hs
  have HP := hid hp
  obtain rfl : bk = x := by omega
  obtain rfl : l1 = 4 := by omega
  rw [e0]
  have HM : Hid (∀ W : World, Calls Tryz.prog 74 #[.int .i64 16] W (Ret (.bool true) W)) := hid (fun W => may_any 16 W (by decide))
  clear e0 e1 ebk
  unfold saysV
  clear hs hp hG
  go_enter Tryz.func79, Tryz.ntmps79
  go_wp2_with fail
  refine HS.out.mono ?_
  rintro e w2 ⟨v, rfl, ho, hb2⟩
  have HB2 := hid hb2
  obtain ⟨va, vc, rfl, hvl⟩ := Leads.of_own ho
  have HL2 := hid hvl
  clear ho hb2 HS hvl
  go_wp2_with fail
  refine (HP.out w2 va vc HB2.out HL2.out).mono ?_
  rintro e w3 ⟨rfl, hb3⟩
  have HB3 := hid (HB2.out.trans (hb3.mono HB2.out.size))
  have HL := hid (HL2.out.grow hb3)
  clear hb3 HP HL2
  obtain ⟨-, -, ⟨h2, -⟩ | ⟨vb, vo, rfl, hvb, hcs⟩⟩ := HL.out
  · cases h2
  have HV := hid hvb
  have HC1 : Hid (∀ z : Ext w3, z.v.cell? ⟨vb, vo + 1, none⟩ = some (.int .u64 4)) := hid (fun z => (z.b.cell (p := ⟨vb, vo + 1, none⟩) HV.out).trans (hcs 1 _ rfl))
  have HC0 : Hid (∀ z : Ext w3, z.v.cell? ⟨vb, vo, none⟩ = some (.int .u64 ((l0 : Nat) : Int))) := hid (fun z => (z.b.cell (p := ⟨vb, vo, none⟩) HV.out).trans (hcs 0 _ rfl))
  clear hcs HL
  have c1 := HC1.out ⟨w3, Below.refl _ _⟩
  go_wp2_with fail
  refine (HM.out _).mono ?_
  rintro e w4 ⟨rfl, hb4⟩
  have HB4 := hid (HB3.out.trans (hb4.mono HB3.out.size))
  clear c1
  have HD1 : Hid (∀ z : Ext w4, z.v.cell? ⟨vb, vo + 1, none⟩ = some (.int .u64 4)) := hid (fun z => HC1.out ⟨z.v, hb4.trans (z.b.mono hb4.size)⟩)
  have HD0 : Hid (∀ z : Ext w4, z.v.cell? ⟨vb, vo, none⟩ = some (.int .u64 ((l0 : Nat) : Int))) := hid (fun z => HC0.out ⟨z.v, hb4.trans (z.b.mono hb4.size)⟩)
  clear hb4
  go_upto_region 5 with (fail)
  have f1 := HD1.out
  have f0 := HD0.out
  refine wp_region_ext (by kernel_rfl) (by kernel_rfl) ?_
  repeat (go_big_quiet_step (fail))
  refine wpQuiet_nil ?_
  rintro w8 ⟨x8, e8⟩
  have hb8 := x8.b
  rw [← e8] at hb8
  clear e8 x8 f1 f0
  have HB8 := hid (HB4.out.trans (hb8.mono HB4.out.size))
  clear hb8
  go_wp2
  refine bodyPost_ret (results_tmp3 rfl _ _ _) rfl ?_
  exact ⟨rfl, HB8.out⟩
set_option maxRecDepth 100000 in
set_option maxHeartbeats 1000000 in
theorem Says_5 (x : Nat) (V : World) (hx : x < 18446744073709551616) (hG : Glob V) (h : x / 4294967296 = 5) : Calls Tryz.prog 79 #[.int .u64 ((x : Nat) : Int)] V (Ret (saysV none) V) := by
  have hs := Split_ok x fpt (some ⟨0, 0, none⟩) 2 V hx hG.parts fpt_ok (by decide) fpt_ap
  rw [gets_fpt, show fpt.length = 2 from rfl] at hs
  obtain ⟨l0, e0⟩ : ∃ l0, x % 4294967296 = l0 := ⟨_, rfl⟩
  obtain ⟨l1, e1⟩ : ∃ l1, x / 4294967296 % 256 = l1 := ⟨_, rfl⟩
  rw [e0, e1] at hs
  have hp : ∀ (W : World) (a : Option Addr) (c : Nat), Below V.heap.size V W → Leads W a 2 c (wcells [l0, l1]) → Calls Tryz.prog 75 #[.slice (some ⟨0, 0, none⟩) 2 2, .slice a 2 c] W (Ret (.tuple #[.int .u64 ((l0 + l1 * 4294967296 : Nat) : Int), .int .i64 0]) W) := fun W a c hb hl => by
    have h := Pack_any fpt [l0, l1] (some ⟨0, 0, none⟩) 2 a c W (hG.grow hb).parts fpt_ok (by decide) hl (by intro y hy; simp at hy; rcases hy with rfl | rfl <;> omega)
    rw [pack_fpt l0 l1 (by omega) (by omega)] at h
    exact h
  obtain ⟨bk, ebk⟩ : ∃ bk, l0 + l1 * 4294967296 = bk := ⟨_, rfl⟩
  rw [ebk] at hp
  have HS := hid hs
  have HP := hid hp
  obtain rfl : bk = x := by omega
  obtain rfl : l1 = 5 := by omega
  skip
  have HM : Hid (∀ W : World, Calls Tryz.prog 74 #[.int .i64 32] W (Ret (.bool false) W)) := hid (fun W => may_any 32 W (by decide))
  clear e0 e1 ebk
  unfold saysV
  clear hs hp hG
  go_enter Tryz.func79, Tryz.ntmps79
  go_wp2_with fail
  refine HS.out.mono ?_
  rintro e w2 ⟨v, rfl, ho, hb2⟩
  have HB2 := hid hb2
  obtain ⟨va, vc, rfl, hvl⟩ := Leads.of_own ho
  have HL2 := hid hvl
  clear ho hb2 HS hvl
  go_wp2_with fail
  refine (HP.out w2 va vc HB2.out HL2.out).mono ?_
  rintro e w3 ⟨rfl, hb3⟩
  have HB3 := hid (HB2.out.trans (hb3.mono HB2.out.size))
  have HL := hid (HL2.out.grow hb3)
  clear hb3 HP HL2
  obtain ⟨-, -, ⟨h2, -⟩ | ⟨vb, vo, rfl, hvb, hcs⟩⟩ := HL.out
  · cases h2
  have HV := hid hvb
  have HC1 : Hid (∀ z : Ext w3, z.v.cell? ⟨vb, vo + 1, none⟩ = some (.int .u64 5)) := hid (fun z => (z.b.cell (p := ⟨vb, vo + 1, none⟩) HV.out).trans (hcs 1 _ rfl))
  have HC0 : Hid (∀ z : Ext w3, z.v.cell? ⟨vb, vo, none⟩ = some (.int .u64 ((l0 : Nat) : Int))) := hid (fun z => (z.b.cell (p := ⟨vb, vo, none⟩) HV.out).trans (hcs 0 _ rfl))
  clear hcs HL
  have c1 := HC1.out ⟨w3, Below.refl _ _⟩
  go_wp2_with fail
  refine (HM.out _).mono ?_
  rintro e w4 ⟨rfl, hb4⟩
  have HB4 := hid (HB3.out.trans (hb4.mono HB3.out.size))
  clear c1
  go_wp2
  refine bodyPost_ret (results_tmp3 rfl _ _ _) rfl ?_
  exact ⟨rfl, HB4.out⟩
set_option maxRecDepth 100000 in
set_option maxHeartbeats 1000000 in
theorem Says_6 (x : Nat) (V : World) (hx : x < 18446744073709551616) (hG : Glob V) (h : x / 4294967296 = 6) : Calls Tryz.prog 79 #[.int .u64 ((x : Nat) : Int)] V (Ret (saysV none) V) := by
  have hs := Split_ok x fpt (some ⟨0, 0, none⟩) 2 V hx hG.parts fpt_ok (by decide) fpt_ap
  rw [gets_fpt, show fpt.length = 2 from rfl] at hs
  obtain ⟨l0, e0⟩ : ∃ l0, x % 4294967296 = l0 := ⟨_, rfl⟩
  obtain ⟨l1, e1⟩ : ∃ l1, x / 4294967296 % 256 = l1 := ⟨_, rfl⟩
  rw [e0, e1] at hs
  have hp : ∀ (W : World) (a : Option Addr) (c : Nat), Below V.heap.size V W → Leads W a 2 c (wcells [l0, l1]) → Calls Tryz.prog 75 #[.slice (some ⟨0, 0, none⟩) 2 2, .slice a 2 c] W (Ret (.tuple #[.int .u64 ((l0 + l1 * 4294967296 : Nat) : Int), .int .i64 0]) W) := fun W a c hb hl => by
    have h := Pack_any fpt [l0, l1] (some ⟨0, 0, none⟩) 2 a c W (hG.grow hb).parts fpt_ok (by decide) hl (by intro y hy; simp at hy; rcases hy with rfl | rfl <;> omega)
    rw [pack_fpt l0 l1 (by omega) (by omega)] at h
    exact h
  obtain ⟨bk, ebk⟩ : ∃ bk, l0 + l1 * 4294967296 = bk := ⟨_, rfl⟩
  rw [ebk] at hp
  have HS := hid hs
  have HP := hid hp
  obtain rfl : bk = x := by omega
  obtain rfl : l1 = 6 := by omega
  skip
  have HM : Hid (∀ W : World, Calls Tryz.prog 74 #[.int .i64 64] W (Ret (.bool false) W)) := hid (fun W => may_any 64 W (by decide))
  clear e0 e1 ebk
  unfold saysV
  clear hs hp hG
  go_enter Tryz.func79, Tryz.ntmps79
  go_wp2_with fail
  refine HS.out.mono ?_
  rintro e w2 ⟨v, rfl, ho, hb2⟩
  have HB2 := hid hb2
  obtain ⟨va, vc, rfl, hvl⟩ := Leads.of_own ho
  have HL2 := hid hvl
  clear ho hb2 HS hvl
  go_wp2_with fail
  refine (HP.out w2 va vc HB2.out HL2.out).mono ?_
  rintro e w3 ⟨rfl, hb3⟩
  have HB3 := hid (HB2.out.trans (hb3.mono HB2.out.size))
  have HL := hid (HL2.out.grow hb3)
  clear hb3 HP HL2
  obtain ⟨-, -, ⟨h2, -⟩ | ⟨vb, vo, rfl, hvb, hcs⟩⟩ := HL.out
  · cases h2
  have HV := hid hvb
  have HC1 : Hid (∀ z : Ext w3, z.v.cell? ⟨vb, vo + 1, none⟩ = some (.int .u64 6)) := hid (fun z => (z.b.cell (p := ⟨vb, vo + 1, none⟩) HV.out).trans (hcs 1 _ rfl))
  have HC0 : Hid (∀ z : Ext w3, z.v.cell? ⟨vb, vo, none⟩ = some (.int .u64 ((l0 : Nat) : Int))) := hid (fun z => (z.b.cell (p := ⟨vb, vo, none⟩) HV.out).trans (hcs 0 _ rfl))
  clear hcs HL
  have c1 := HC1.out ⟨w3, Below.refl _ _⟩
  go_wp2_with fail
  refine (HM.out _).mono ?_
  rintro e w4 ⟨rfl, hb4⟩
  have HB4 := hid (HB3.out.trans (hb4.mono HB3.out.size))
  clear c1
  go_wp2
  refine bodyPost_ret (results_tmp3 rfl _ _ _) rfl ?_
  exact ⟨rfl, HB4.out⟩
set_option maxRecDepth 100000 in
set_option maxHeartbeats 1000000 in
theorem Says_7 (x : Nat) (V : World) (hx : x < 18446744073709551616) (hG : Glob V) (h : x / 4294967296 = 7) : Calls Tryz.prog 79 #[.int .u64 ((x : Nat) : Int)] V (Ret (saysV none) V) := by
  have hs := Split_ok x fpt (some ⟨0, 0, none⟩) 2 V hx hG.parts fpt_ok (by decide) fpt_ap
  rw [gets_fpt, show fpt.length = 2 from rfl] at hs
  obtain ⟨l0, e0⟩ : ∃ l0, x % 4294967296 = l0 := ⟨_, rfl⟩
  obtain ⟨l1, e1⟩ : ∃ l1, x / 4294967296 % 256 = l1 := ⟨_, rfl⟩
  rw [e0, e1] at hs
  have hp : ∀ (W : World) (a : Option Addr) (c : Nat), Below V.heap.size V W → Leads W a 2 c (wcells [l0, l1]) → Calls Tryz.prog 75 #[.slice (some ⟨0, 0, none⟩) 2 2, .slice a 2 c] W (Ret (.tuple #[.int .u64 ((l0 + l1 * 4294967296 : Nat) : Int), .int .i64 0]) W) := fun W a c hb hl => by
    have h := Pack_any fpt [l0, l1] (some ⟨0, 0, none⟩) 2 a c W (hG.grow hb).parts fpt_ok (by decide) hl (by intro y hy; simp at hy; rcases hy with rfl | rfl <;> omega)
    rw [pack_fpt l0 l1 (by omega) (by omega)] at h
    exact h
  obtain ⟨bk, ebk⟩ : ∃ bk, l0 + l1 * 4294967296 = bk := ⟨_, rfl⟩
  rw [ebk] at hp
  have HS := hid hs
  have HP := hid hp
  obtain rfl : bk = x := by omega
  obtain rfl : l1 = 7 := by omega
  skip
  have HM : Hid (∀ W : World, Calls Tryz.prog 74 #[.int .i64 128] W (Ret (.bool false) W)) := hid (fun W => may_any 128 W (by decide))
  clear e0 e1 ebk
  unfold saysV
  clear hs hp hG
  go_enter Tryz.func79, Tryz.ntmps79
  go_wp2_with fail
  refine HS.out.mono ?_
  rintro e w2 ⟨v, rfl, ho, hb2⟩
  have HB2 := hid hb2
  obtain ⟨va, vc, rfl, hvl⟩ := Leads.of_own ho
  have HL2 := hid hvl
  clear ho hb2 HS hvl
  go_wp2_with fail
  refine (HP.out w2 va vc HB2.out HL2.out).mono ?_
  rintro e w3 ⟨rfl, hb3⟩
  have HB3 := hid (HB2.out.trans (hb3.mono HB2.out.size))
  have HL := hid (HL2.out.grow hb3)
  clear hb3 HP HL2
  obtain ⟨-, -, ⟨h2, -⟩ | ⟨vb, vo, rfl, hvb, hcs⟩⟩ := HL.out
  · cases h2
  have HV := hid hvb
  have HC1 : Hid (∀ z : Ext w3, z.v.cell? ⟨vb, vo + 1, none⟩ = some (.int .u64 7)) := hid (fun z => (z.b.cell (p := ⟨vb, vo + 1, none⟩) HV.out).trans (hcs 1 _ rfl))
  have HC0 : Hid (∀ z : Ext w3, z.v.cell? ⟨vb, vo, none⟩ = some (.int .u64 ((l0 : Nat) : Int))) := hid (fun z => (z.b.cell (p := ⟨vb, vo, none⟩) HV.out).trans (hcs 0 _ rfl))
  clear hcs HL
  have c1 := HC1.out ⟨w3, Below.refl _ _⟩
  go_wp2_with fail
  refine (HM.out _).mono ?_
  rintro e w4 ⟨rfl, hb4⟩
  have HB4 := hid (HB3.out.trans (hb4.mono HB3.out.size))
  clear c1
  go_wp2
  refine bodyPost_ret (results_tmp3 rfl _ _ _) rfl ?_
  exact ⟨rfl, HB4.out⟩
set_option maxRecDepth 100000 in
set_option maxHeartbeats 1000000 in
theorem Says_8 (x : Nat) (V : World) (hx : x < 18446744073709551616) (hG : Glob V) (h : x / 4294967296 = 8) : Calls Tryz.prog 79 #[.int .u64 ((x : Nat) : Int)] V (Ret (saysV none) V) := by
  have hs := Split_ok x fpt (some ⟨0, 0, none⟩) 2 V hx hG.parts fpt_ok (by decide) fpt_ap
  rw [gets_fpt, show fpt.length = 2 from rfl] at hs
  obtain ⟨l0, e0⟩ : ∃ l0, x % 4294967296 = l0 := ⟨_, rfl⟩
  obtain ⟨l1, e1⟩ : ∃ l1, x / 4294967296 % 256 = l1 := ⟨_, rfl⟩
  rw [e0, e1] at hs
  have hp : ∀ (W : World) (a : Option Addr) (c : Nat), Below V.heap.size V W → Leads W a 2 c (wcells [l0, l1]) → Calls Tryz.prog 75 #[.slice (some ⟨0, 0, none⟩) 2 2, .slice a 2 c] W (Ret (.tuple #[.int .u64 ((l0 + l1 * 4294967296 : Nat) : Int), .int .i64 0]) W) := fun W a c hb hl => by
    have h := Pack_any fpt [l0, l1] (some ⟨0, 0, none⟩) 2 a c W (hG.grow hb).parts fpt_ok (by decide) hl (by intro y hy; simp at hy; rcases hy with rfl | rfl <;> omega)
    rw [pack_fpt l0 l1 (by omega) (by omega)] at h
    exact h
  obtain ⟨bk, ebk⟩ : ∃ bk, l0 + l1 * 4294967296 = bk := ⟨_, rfl⟩
  rw [ebk] at hp
  have HS := hid hs
  have HP := hid hp
  obtain rfl : bk = x := by omega
  obtain rfl : l1 = 8 := by omega
  skip
  have HM : Hid (∀ W : World, Calls Tryz.prog 74 #[.int .i64 256] W (Ret (.bool false) W)) := hid (fun W => may_any 256 W (by decide))
  clear e0 e1 ebk
  unfold saysV
  clear hs hp hG
  go_enter Tryz.func79, Tryz.ntmps79
  go_wp2_with fail
  refine HS.out.mono ?_
  rintro e w2 ⟨v, rfl, ho, hb2⟩
  have HB2 := hid hb2
  obtain ⟨va, vc, rfl, hvl⟩ := Leads.of_own ho
  have HL2 := hid hvl
  clear ho hb2 HS hvl
  go_wp2_with fail
  refine (HP.out w2 va vc HB2.out HL2.out).mono ?_
  rintro e w3 ⟨rfl, hb3⟩
  have HB3 := hid (HB2.out.trans (hb3.mono HB2.out.size))
  have HL := hid (HL2.out.grow hb3)
  clear hb3 HP HL2
  obtain ⟨-, -, ⟨h2, -⟩ | ⟨vb, vo, rfl, hvb, hcs⟩⟩ := HL.out
  · cases h2
  have HV := hid hvb
  have HC1 : Hid (∀ z : Ext w3, z.v.cell? ⟨vb, vo + 1, none⟩ = some (.int .u64 8)) := hid (fun z => (z.b.cell (p := ⟨vb, vo + 1, none⟩) HV.out).trans (hcs 1 _ rfl))
  have HC0 : Hid (∀ z : Ext w3, z.v.cell? ⟨vb, vo, none⟩ = some (.int .u64 ((l0 : Nat) : Int))) := hid (fun z => (z.b.cell (p := ⟨vb, vo, none⟩) HV.out).trans (hcs 0 _ rfl))
  clear hcs HL
  have c1 := HC1.out ⟨w3, Below.refl _ _⟩
  go_wp2_with fail
  refine (HM.out _).mono ?_
  rintro e w4 ⟨rfl, hb4⟩
  have HB4 := hid (HB3.out.trans (hb4.mono HB3.out.size))
  clear c1
  go_wp2
  refine bodyPost_ret (results_tmp3 rfl _ _ _) rfl ?_
  exact ⟨rfl, HB4.out⟩
theorem Says_any (x : Nat) (V : World) (hx : x < 18446744073709551616) (hG : Glob V) : Calls Tryz.prog 79 #[.int .u64 ((x : Nat) : Int)] V (Ret (saysV (saysW x)) V) := by
  by_cases h : 1099511627776 ≤ x
  · rw [show saysW x = none by unfold saysW; rw [if_neg (by omega)]]
    exact Says_big x V hx hG h
  · by_cases h8 : 8 < x / 4294967296
    · rw [show saysW x = none by unfold saysW; rw [if_neg (by omega)]]
      exact Says_over x V hx hG (by omega) h8
    · rcases (by omega : x / 4294967296 = 0 ∨ x / 4294967296 = 1 ∨ x / 4294967296 = 2 ∨ x / 4294967296 = 3 ∨ x / 4294967296 = 4 ∨ x / 4294967296 = 5 ∨ x / 4294967296 = 6 ∨ x / 4294967296 = 7 ∨ x / 4294967296 = 8) with e | e | e | e | e | e | e | e | e
      · rw [show saysW x = none by unfold saysW; rw [if_neg (by omega)]]
        exact Says_0 x V hx hG e
      · rw [show saysW x = none by unfold saysW; rw [if_neg (by omega)]]
        exact Says_1 x V hx hG e
      · rw [show saysW x = some (x % 4294967296, 2) by unfold saysW; rw [if_pos (by omega), e]]
        exact Says_2 x V hx hG e
      · rw [show saysW x = some (x % 4294967296, 3) by unfold saysW; rw [if_pos (by omega), e]]
        exact Says_3 x V hx hG e
      · rw [show saysW x = some (x % 4294967296, 4) by unfold saysW; rw [if_pos (by omega), e]]
        exact Says_4 x V hx hG e
      · rw [show saysW x = none by unfold saysW; rw [if_neg (by omega)]]
        exact Says_5 x V hx hG e
      · rw [show saysW x = none by unfold saysW; rw [if_neg (by omega)]]
        exact Says_6 x V hx hG e
      · rw [show saysW x = none by unfold saysW; rw [if_neg (by omega)]]
        exact Says_7 x V hx hG e
      · rw [show saysW x = none by unfold saysW; rw [if_neg (by omega)]]
        exact Says_8 x V hx hG e
set_option maxRecDepth 100000 in
theorem Len_4 (V : World) : Calls Tryz.prog 94 #[.int .u64 4] V (Ret (.int .i64 3) V) := by
  go_enter Tryz.func94, Tryz.ntmps94
  go_wp2
  go_ret
  exact ⟨by kernel_rfl, Below.refl _ _⟩
theorem Log_4 (V : World) : Calls Tryz.prog 76 #[.int .u64 4] V (Ret (.int .i64 2) V) := by
  have HL := hid (fun W => Len_4 W)
  go_enter Tryz.func76, Tryz.ntmps76
  go_wp2_with fail
  refine (HL.out V).mono ?_
  rintro e w1 ⟨rfl, hb⟩
  go_wp2
  go_ret
  exact ⟨rfl, hb⟩
set_option maxRecDepth 100000 in
theorem Len_8 (V : World) : Calls Tryz.prog 94 #[.int .u64 8] V (Ret (.int .i64 4) V) := by
  go_enter Tryz.func94, Tryz.ntmps94
  go_wp2
  go_ret
  exact ⟨by kernel_rfl, Below.refl _ _⟩
theorem Log_8 (V : World) : Calls Tryz.prog 76 #[.int .u64 8] V (Ret (.int .i64 3) V) := by
  have HL := hid (fun W => Len_8 W)
  go_enter Tryz.func76, Tryz.ntmps76
  go_wp2_with fail
  refine (HL.out V).mono ?_
  rintro e w1 ⟨rfl, hb⟩
  go_wp2
  go_ret
  exact ⟨rfl, hb⟩
set_option maxRecDepth 100000 in
theorem Len_16 (V : World) : Calls Tryz.prog 94 #[.int .u64 16] V (Ret (.int .i64 5) V) := by
  go_enter Tryz.func94, Tryz.ntmps94
  go_wp2
  go_ret
  exact ⟨by kernel_rfl, Below.refl _ _⟩
theorem Log_16 (V : World) : Calls Tryz.prog 76 #[.int .u64 16] V (Ret (.int .i64 4) V) := by
  have HL := hid (fun W => Len_16 W)
  go_enter Tryz.func76, Tryz.ntmps76
  go_wp2_with fail
  refine (HL.out V).mono ?_
  rintro e w1 ⟨rfl, hb⟩
  go_wp2
  go_ret
  exact ⟨rfl, hb⟩
theorem own_lit {W : World} {g base n size : Nat} {e : TypeId} {cur : Array Value} {xs : List Value} (h : W.heap[g]? = some (.cells cur e (0, 0))) (hb : base ≤ g) (hn : n ≤ maxLen) (hs : cur.size = n * size) (hx : cur.toList = xs) : W.ownsRow base e size (.slice (some ⟨g, 0, none⟩) n n) n xs := by
  subst hx
  exact ⟨by simpa using hs, .inr ⟨g, n, cur, rfl, hb, h, Nat.le_refl _, hn, hs, List.take_of_length_le (by simp [hs])⟩⟩
/-- A root's word. -/
def wordW (a d : Nat) : Nat := a + d * 4294967296
theorem Word_none (a : Nat) (b : Int) (V : World) (ha : a < 18446744073709551616) (hb : -9223372036854775808 ≤ b ∧ b ≤ 9223372036854775807) (hd : depZ b = none) : Calls Tryz.prog 50 #[.int .u64 ((a : Nat) : Int), .int .i64 b] V (Ret (.tuple #[.int .u64 0, .int .i64 2]) V) := by
  have hm := may_any b V hb
  rw [hd] at hm
  have HM : Hid (Calls Tryz.prog 74 #[.int .i64 b] V (Ret (.bool false) V)) := hid hm
  clear hm hd
  go_enter Tryz.func50, Tryz.ntmps50
  go_wp2_with fail
  refine HM.out.mono ?_
  rintro e w2 ⟨rfl, hb2⟩
  have HB := hid hb2
  clear hb2 HM
  go_wp2
  go_ret2
  exact ⟨rfl, HB.out⟩
theorem Word_big (a d : Nat) (b : Int) (V : World) (ha : a < 18446744073709551616) (hb : -9223372036854775808 ≤ b ∧ b ≤ 9223372036854775807) (hd : depZ b = some d) (h : 4096 < a) : Calls Tryz.prog 50 #[.int .u64 ((a : Nat) : Int), .int .i64 b] V (Ret (.tuple #[.int .u64 0, .int .i64 2]) V) := by
  have hm := may_any b V hb
  rw [hd] at hm
  have HM : Hid (Calls Tryz.prog 74 #[.int .i64 b] V (Ret (.bool true) V)) := hid hm
  have t1 : (4096 : Int) < ((a : Nat) : Int) := by omega
  clear hm hd
  go_enter Tryz.func50, Tryz.ntmps50
  go_wp2_with fail
  refine HM.out.mono ?_
  rintro e w2 ⟨rfl, hb2⟩
  have HB := hid hb2
  clear hb2 HM
  go_wp2
  go_ret2
  exact ⟨rfl, HB.out⟩
set_option maxRecDepth 100000 in
set_option maxHeartbeats 1000000 in
theorem Word_4 (a : Nat) (V : World) (hG : Glob V) (ha : a ≤ 4096) : Calls Tryz.prog 50 #[.int .u64 ((a : Nat) : Int), .int .i64 4] V (Ret (.tuple #[.int .u64 ((wordW a 2 : Nat) : Int), .int .i64 0]) V) := by
  have HM : Hid (Calls Tryz.prog 74 #[.int .i64 4] V (Ret (.bool true) V)) := hid (may_any 4 V (by decide))
  have HL := hid (fun W => Log_4 W)
  have HG := hid hG
  have HP : Hid (∀ (W : World) (g : Nat), Below V.heap.size V W → W.heap[g]? = some (.cells #[.int .u64 ((a : Nat) : Int), .int .u64 2] 26 (0, 0)) → Calls Tryz.prog 75 #[.slice (some ⟨0, 0, none⟩) 2 2, .slice (some ⟨g, 0, none⟩) 2 2] W (Ret (.tuple #[.int .u64 ((wordW a 2 : Nat) : Int), .int .i64 0]) W)) := hid (fun W g hb hl => by
    have h := Pack_any fpt [a, 2] (some ⟨0, 0, none⟩) 2 (some ⟨g, 0, none⟩) 2 W (hG.grow hb).parts fpt_ok (by decide) (Leads.of_own1 (own_lit (base := 0) (size := 1) (xs := wcells [a, 2]) hl (Nat.zero_le _) (show (2 : Nat) ≤ maxLen by decide) rfl rfl)) (by intro y hy; simp at hy; rcases hy with rfl | rfl <;> omega)
    rw [pack_fpt a 2 (by omega) (by omega)] at h
    exact h)
  have t1 : ¬ (4096 : Int) < ((a : Nat) : Int) := by omega
  clear hG
  go_enter Tryz.func50, Tryz.ntmps50
  go_wp2_with fail
  refine HM.out.mono ?_
  rintro e w2 ⟨rfl, hb2⟩
  have HB := hid hb2
  clear hb2 HM
  go_wp2_with fail
  obtain ⟨D, hD⟩ : ∃ D, w2.drew = D := ⟨_, rfl⟩
  have hbD : Below w2.heap.size w2 D := by rw [← hD]; exact (Below.refl _ _).drew
  have HD := hid hD
  have HBD := hid (HB.out.trans (hbD.mono HB.out.size))
  clear hbD hD
  haveI : Nonempty (Ext D) := ⟨⟨D, Below.refl _ _⟩⟩
  refine wp_region_mix2 (fun W => ∃ z : Ext D, W = z.v) 12 (.q 0 (.q 1 (.q 2 (.q 3 (.h 4 (.q 5 (.h 6 (.h 7 (.q 8 (.q 9 (.q 10 (.q 11 (.done))))))))))))) (by kernel_rfl) (by kernel_rfl) (by rw [HD.out]; exact ⟨⟨D, Below.refl _ _⟩, rfl⟩) ?_
  rw [HD.out]
  iterate 4 (refine wpMix2_q rfl rfl ?_; go_big_quiet_step (fail); refine wpQuiet_nil ?_)
  refine wpMix2_h rfl fun R' hR' hO => ?_
  go_wp2_with fail
  refine (HL.out D).mono ?_
  rintro e w3 ⟨rfl, hb3⟩
  go_wp2
  refine hR' _ _ ⟨⟨w3, hb3⟩, rfl⟩ ?_
  clear hR' hO R'
  iterate 1 (refine wpMix2_q rfl rfl ?_; go_big_quiet_step (fail); refine wpQuiet_nil ?_)
  refine wpMix2_h rfl fun R' hR' hO => ?_
  obtain ⟨w4, hw4, hb4, hs4, hl4⟩ := laid w3 #[.int .u64 ((a : Nat) : Int), .int .u64 2] 26
  go_wp2
  have hb34 := hb3.trans (hb4.mono hb3.size)
  refine hR' _ _ ⟨⟨w4, hb34⟩, rfl⟩ ?_
  clear hR' hO R'
  refine wpMix2_h rfl fun R' hR' hO => ?_
  go_wp2_with fail
  refine (HP.out w4 _ (HBD.out.trans (hb34.mono HBD.out.size)) hl4).mono ?_
  rintro e w5 ⟨rfl, hb5⟩
  go_wp2
  have hb35 := hb34.trans (hb5.mono hb34.size)
  refine hR' _ _ ⟨⟨w5, hb35⟩, rfl⟩ ?_
  clear hR' hO R'
  iterate 4 (refine wpMix2_q rfl rfl ?_; go_big_quiet_step (fail); refine wpQuiet_nil ?_)
  refine wpMix2_done ?_
  simp only [List.drop_succ_cons, List.drop_nil]
  have HB9 := hid (HBD.out.trans (hb35.mono HBD.out.size))
  go_wp2
  go_ret2
  exact ⟨rfl, HB9.out⟩
set_option maxRecDepth 100000 in
set_option maxHeartbeats 1000000 in
theorem Word_8 (a : Nat) (V : World) (hG : Glob V) (ha : a ≤ 4096) : Calls Tryz.prog 50 #[.int .u64 ((a : Nat) : Int), .int .i64 8] V (Ret (.tuple #[.int .u64 ((wordW a 3 : Nat) : Int), .int .i64 0]) V) := by
  have HM : Hid (Calls Tryz.prog 74 #[.int .i64 8] V (Ret (.bool true) V)) := hid (may_any 8 V (by decide))
  have HL := hid (fun W => Log_8 W)
  have HG := hid hG
  have HP : Hid (∀ (W : World) (g : Nat), Below V.heap.size V W → W.heap[g]? = some (.cells #[.int .u64 ((a : Nat) : Int), .int .u64 3] 26 (0, 0)) → Calls Tryz.prog 75 #[.slice (some ⟨0, 0, none⟩) 2 2, .slice (some ⟨g, 0, none⟩) 2 2] W (Ret (.tuple #[.int .u64 ((wordW a 3 : Nat) : Int), .int .i64 0]) W)) := hid (fun W g hb hl => by
    have h := Pack_any fpt [a, 3] (some ⟨0, 0, none⟩) 2 (some ⟨g, 0, none⟩) 2 W (hG.grow hb).parts fpt_ok (by decide) (Leads.of_own1 (own_lit (base := 0) (size := 1) (xs := wcells [a, 3]) hl (Nat.zero_le _) (show (2 : Nat) ≤ maxLen by decide) rfl rfl)) (by intro y hy; simp at hy; rcases hy with rfl | rfl <;> omega)
    rw [pack_fpt a 3 (by omega) (by omega)] at h
    exact h)
  have t1 : ¬ (4096 : Int) < ((a : Nat) : Int) := by omega
  clear hG
  go_enter Tryz.func50, Tryz.ntmps50
  go_wp2_with fail
  refine HM.out.mono ?_
  rintro e w2 ⟨rfl, hb2⟩
  have HB := hid hb2
  clear hb2 HM
  go_wp2_with fail
  obtain ⟨D, hD⟩ : ∃ D, w2.drew = D := ⟨_, rfl⟩
  have hbD : Below w2.heap.size w2 D := by rw [← hD]; exact (Below.refl _ _).drew
  have HD := hid hD
  have HBD := hid (HB.out.trans (hbD.mono HB.out.size))
  clear hbD hD
  haveI : Nonempty (Ext D) := ⟨⟨D, Below.refl _ _⟩⟩
  refine wp_region_mix2 (fun W => ∃ z : Ext D, W = z.v) 12 (.q 0 (.q 1 (.q 2 (.q 3 (.h 4 (.q 5 (.h 6 (.h 7 (.q 8 (.q 9 (.q 10 (.q 11 (.done))))))))))))) (by kernel_rfl) (by kernel_rfl) (by rw [HD.out]; exact ⟨⟨D, Below.refl _ _⟩, rfl⟩) ?_
  rw [HD.out]
  iterate 4 (refine wpMix2_q rfl rfl ?_; go_big_quiet_step (fail); refine wpQuiet_nil ?_)
  refine wpMix2_h rfl fun R' hR' hO => ?_
  go_wp2_with fail
  refine (HL.out D).mono ?_
  rintro e w3 ⟨rfl, hb3⟩
  go_wp2
  refine hR' _ _ ⟨⟨w3, hb3⟩, rfl⟩ ?_
  clear hR' hO R'
  iterate 1 (refine wpMix2_q rfl rfl ?_; go_big_quiet_step (fail); refine wpQuiet_nil ?_)
  refine wpMix2_h rfl fun R' hR' hO => ?_
  obtain ⟨w4, hw4, hb4, hs4, hl4⟩ := laid w3 #[.int .u64 ((a : Nat) : Int), .int .u64 3] 26
  go_wp2
  have hb34 := hb3.trans (hb4.mono hb3.size)
  refine hR' _ _ ⟨⟨w4, hb34⟩, rfl⟩ ?_
  clear hR' hO R'
  refine wpMix2_h rfl fun R' hR' hO => ?_
  go_wp2_with fail
  refine (HP.out w4 _ (HBD.out.trans (hb34.mono HBD.out.size)) hl4).mono ?_
  rintro e w5 ⟨rfl, hb5⟩
  go_wp2
  have hb35 := hb34.trans (hb5.mono hb34.size)
  refine hR' _ _ ⟨⟨w5, hb35⟩, rfl⟩ ?_
  clear hR' hO R'
  iterate 4 (refine wpMix2_q rfl rfl ?_; go_big_quiet_step (fail); refine wpQuiet_nil ?_)
  refine wpMix2_done ?_
  simp only [List.drop_succ_cons, List.drop_nil]
  have HB9 := hid (HBD.out.trans (hb35.mono HBD.out.size))
  go_wp2
  go_ret2
  exact ⟨rfl, HB9.out⟩
set_option maxRecDepth 100000 in
set_option maxHeartbeats 1000000 in
theorem Word_16 (a : Nat) (V : World) (hG : Glob V) (ha : a ≤ 4096) : Calls Tryz.prog 50 #[.int .u64 ((a : Nat) : Int), .int .i64 16] V (Ret (.tuple #[.int .u64 ((wordW a 4 : Nat) : Int), .int .i64 0]) V) := by
  have HM : Hid (Calls Tryz.prog 74 #[.int .i64 16] V (Ret (.bool true) V)) := hid (may_any 16 V (by decide))
  have HL := hid (fun W => Log_16 W)
  have HG := hid hG
  have HP : Hid (∀ (W : World) (g : Nat), Below V.heap.size V W → W.heap[g]? = some (.cells #[.int .u64 ((a : Nat) : Int), .int .u64 4] 26 (0, 0)) → Calls Tryz.prog 75 #[.slice (some ⟨0, 0, none⟩) 2 2, .slice (some ⟨g, 0, none⟩) 2 2] W (Ret (.tuple #[.int .u64 ((wordW a 4 : Nat) : Int), .int .i64 0]) W)) := hid (fun W g hb hl => by
    have h := Pack_any fpt [a, 4] (some ⟨0, 0, none⟩) 2 (some ⟨g, 0, none⟩) 2 W (hG.grow hb).parts fpt_ok (by decide) (Leads.of_own1 (own_lit (base := 0) (size := 1) (xs := wcells [a, 4]) hl (Nat.zero_le _) (show (2 : Nat) ≤ maxLen by decide) rfl rfl)) (by intro y hy; simp at hy; rcases hy with rfl | rfl <;> omega)
    rw [pack_fpt a 4 (by omega) (by omega)] at h
    exact h)
  have t1 : ¬ (4096 : Int) < ((a : Nat) : Int) := by omega
  clear hG
  go_enter Tryz.func50, Tryz.ntmps50
  go_wp2_with fail
  refine HM.out.mono ?_
  rintro e w2 ⟨rfl, hb2⟩
  have HB := hid hb2
  clear hb2 HM
  go_wp2_with fail
  obtain ⟨D, hD⟩ : ∃ D, w2.drew = D := ⟨_, rfl⟩
  have hbD : Below w2.heap.size w2 D := by rw [← hD]; exact (Below.refl _ _).drew
  have HD := hid hD
  have HBD := hid (HB.out.trans (hbD.mono HB.out.size))
  clear hbD hD
  haveI : Nonempty (Ext D) := ⟨⟨D, Below.refl _ _⟩⟩
  refine wp_region_mix2 (fun W => ∃ z : Ext D, W = z.v) 12 (.q 0 (.q 1 (.q 2 (.q 3 (.h 4 (.q 5 (.h 6 (.h 7 (.q 8 (.q 9 (.q 10 (.q 11 (.done))))))))))))) (by kernel_rfl) (by kernel_rfl) (by rw [HD.out]; exact ⟨⟨D, Below.refl _ _⟩, rfl⟩) ?_
  rw [HD.out]
  iterate 4 (refine wpMix2_q rfl rfl ?_; go_big_quiet_step (fail); refine wpQuiet_nil ?_)
  refine wpMix2_h rfl fun R' hR' hO => ?_
  go_wp2_with fail
  refine (HL.out D).mono ?_
  rintro e w3 ⟨rfl, hb3⟩
  go_wp2
  refine hR' _ _ ⟨⟨w3, hb3⟩, rfl⟩ ?_
  clear hR' hO R'
  iterate 1 (refine wpMix2_q rfl rfl ?_; go_big_quiet_step (fail); refine wpQuiet_nil ?_)
  refine wpMix2_h rfl fun R' hR' hO => ?_
  obtain ⟨w4, hw4, hb4, hs4, hl4⟩ := laid w3 #[.int .u64 ((a : Nat) : Int), .int .u64 4] 26
  go_wp2
  have hb34 := hb3.trans (hb4.mono hb3.size)
  refine hR' _ _ ⟨⟨w4, hb34⟩, rfl⟩ ?_
  clear hR' hO R'
  refine wpMix2_h rfl fun R' hR' hO => ?_
  go_wp2_with fail
  refine (HP.out w4 _ (HBD.out.trans (hb34.mono HBD.out.size)) hl4).mono ?_
  rintro e w5 ⟨rfl, hb5⟩
  go_wp2
  have hb35 := hb34.trans (hb5.mono hb34.size)
  refine hR' _ _ ⟨⟨w5, hb35⟩, rfl⟩ ?_
  clear hR' hO R'
  iterate 4 (refine wpMix2_q rfl rfl ?_; go_big_quiet_step (fail); refine wpQuiet_nil ?_)
  refine wpMix2_done ?_
  simp only [List.drop_succ_cons, List.drop_nil]
  have HB9 := hid (HBD.out.trans (hb35.mono HBD.out.size))
  go_wp2
  go_ret2
  exact ⟨rfl, HB9.out⟩
def wordV (a : Nat) (b : Int) : Value := match depZ b with
  | none => .tuple #[.int .u64 0, .int .i64 2]
  | some d => if a ≤ 4096 then .tuple #[.int .u64 ((wordW a d : Nat) : Int), .int .i64 0] else .tuple #[.int .u64 0, .int .i64 2]
theorem Word_any (a : Nat) (b : Int) (V : World) (hG : Glob V) (ha : a < 18446744073709551616) (hb : -9223372036854775808 ≤ b ∧ b ≤ 9223372036854775807) : Calls Tryz.prog 50 #[.int .u64 ((a : Nat) : Int), .int .i64 b] V (Ret (wordV a b) V) := by
  cases hd : depZ b with
  | none => simp only [wordV, hd]; exact Word_none a b V ha hb hd
  | some d =>
    simp only [wordV, hd]
    by_cases h : a ≤ 4096
    · rw [if_pos h]
      obtain ⟨-, h2, h4, e⟩ := atZ_deps hd
      rcases (by omega : d = 2 ∨ d = 3 ∨ d = 4) with rfl | rfl | rfl
      · rw [e]; exact Word_4 a V hG h
      · rw [e]; exact Word_8 a V hG h
      · rw [e]; exact Word_16 a V hG h
    · rw [if_neg h]
      exact Word_big a d b V ha hb hd (by omega)
end Go.Proofs.YtahicokokfcieaaGreatDoor
