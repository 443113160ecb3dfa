/- Several texts in one. -/
import Derived.Test.YtahicokokfcieaaDoorRows
import Derived.Test.YtahicokokfcieaaDoorTgAa
import Derived.ProofKit
import Derived.OpenShut
import Derived.ShutString
import Derived.ChangeOld
import Derived.Deep.Slices
import Derived.Deep.SlicePairs
import Derived.Test.YtahicokokfcieaaDoorTb3
import Derived.Test.YtahicokokfcieaaDoorTgAl
import Derived.Deep.LoopGhost
namespace Go.Proofs.YtahicokokfcieaaDoor
open Go.ChangeShapes Go.WideShapes Go.ChangeAt Go.RowKit
open Go.ChangeMaps (open_string shut_string)
set_option linter.unusedVariables false

theorem nat_of_wf {z : Int} (h : (Lit.int .u64 z).wf = true) : ∃ y : Nat, z = (y : Int) ∧ y < 18446744073709551616 := by
  simp [Lit.wf, IntKind.min, IntKind.max, IntKind.signed, IntKind.bits] at h
  exact ⟨z.toNat, by omega, by omega⟩
theorem int_of_wf {z : Int} (h : (Lit.int .i64 z).wf = true) : -9223372036854775808 ≤ z ∧ z ≤ 9223372036854775807 := by
  simp [Lit.wf, IntKind.min, IntKind.max, IntKind.signed, IntKind.bits] at h
  omega

section
variable {H : Type} {enc : TypeId × Value → H} {P : Program} {w : World} {base : Nat} {held : Bool}

theorem leads_of {a : Addr} {len cap : Nat} (cs : List Value) (h1 : len ≤ cap) (h2 : cap ≤ maxLen) (hl : cs.length = 0 → len = 0) (hc : ∀ i v, cs[i]? = some v → w.cell? (a.add i) = some v) : Leads w (some a) len cap cs := by
  refine ⟨h1, h2, ?_⟩
  cases cs with
  | nil => exact .inl ⟨hl rfl, rfl⟩
  | cons v r =>
    have h0 := hc 0 v rfl
    obtain ⟨b, off, spot⟩ := a
    have hs : spot = none := by
      cases spot with
      | none => rfl
      | some s =>
        have : (⟨b, off, some s⟩ : Addr).add 0 = ⟨b, off, some s⟩ := by simp [Addr.add]
        rw [this] at h0
        unfold World.cell? at h0
        cases hh : w.heap[b]? with
        | none => rw [hh] at h0; cases h0
        | some o => rw [hh] at h0; cases o <;> simp at h0
    subst hs
    refine .inr ⟨b, off, rfl, block_lt_of_cell h0, fun i u hu => ?_⟩
    have := hc i u hu
    rcases i with _ | i
    · simpa [Addr.add] using this
    · simpa [Addr.add] using this

theorem open_words {t e : TypeId} {fuel : Nat} {a : Option Addr} {len cap : Nat} {x : DataW H × List MemPlace} (ht : P.underlying t = some (.slice e)) (he : P.underlying e = some (.int .u64)) (hc : P.cellsOf e = 1)
    (h : DataW.trod enc P w base (fun _ => true) held fuel t (Value.slice a len cap).cells.toList = some x) : ∃ xs : List Nat, xs.length = len ∧ Leads w a len cap (wcells xs) ∧ wok xs := by
  rcases open_ints ht he hc h with ⟨hcs, _⟩ | ⟨ad, l, c, zs, hcs, _, hl, hm, hz, _, hcell, hwz⟩
  · simp [Value.cells] at hcs
    obtain ⟨rfl, rfl, rfl⟩ := hcs
    exact ⟨[], rfl, ⟨Nat.le_refl _, Nat.zero_le _, .inl ⟨rfl, rfl⟩⟩, fun x hx => by cases hx⟩
  · simp [Value.cells] at hcs
    obtain ⟨rfl, rfl, rfl⟩ := hcs
    simp at hz
    have hw : ∀ n ∈ zs, 0 ≤ n ∧ n < 18446744073709551616 := by
      intro n hn
      have := hwz n hn
      simp [Lit.wf, IntKind.min, IntKind.max, IntKind.signed, IntKind.bits] at this
      omega
    refine ⟨(zs.take len).map Int.toNat, by simp; omega, leads_of _ hl hm (by simp [wcells]; intro h; rcases h with h | h; exact h; subst h; simp at hz; omega) (fun i v hv => ?_), ?_⟩
    · unfold wcells at hv
      simp only [List.getElem?_map, Option.map_map] at hv
      rw [List.getElem?_take] at hv
      split at hv
      · rename_i hi
        have hi2 : i < zs.length := by omega
        rw [List.getElem?_eq_getElem hi2] at hv
        simp at hv
        rw [hcell i hi2, ← hv, List.getD_eq_getElem?_getD, List.getElem?_eq_getElem hi2]
        have := hw _ (List.getElem_mem hi2)
        simp
        omega
      · simp at hv
    · intro n hn
      obtain ⟨z, hz', rfl⟩ := List.mem_map.1 hn
      have := hw z (List.mem_of_mem_take hz')
      omega

theorem open_i64s {t e : TypeId} {fuel : Nat} {a : Option Addr} {len cap : Nat} {x : DataW H × List MemPlace} (ht : P.underlying t = some (.slice e)) (he : P.underlying e = some (.int .i64)) (hc : P.cellsOf e = 1)
    (h : DataW.trod enc P w base (fun _ => true) held fuel t (Value.slice a len cap).cells.toList = some x) : ∃ xs : List Int, xs.length = len ∧ Leads w a len cap (icells xs) ∧ iok xs := by
  rcases open_ints ht he hc h with ⟨hcs, _⟩ | ⟨ad, l, c, zs, hcs, _, hl, hm, hz, _, hcell, hwz⟩
  · simp [Value.cells] at hcs
    obtain ⟨rfl, rfl, rfl⟩ := hcs
    exact ⟨[], rfl, ⟨Nat.le_refl _, Nat.zero_le _, .inl ⟨rfl, rfl⟩⟩, fun x hx => by cases hx⟩
  · simp [Value.cells] at hcs
    obtain ⟨rfl, rfl, rfl⟩ := hcs
    simp at hz
    refine ⟨zs.take len, by simp; omega, leads_of _ hl hm (by simp [icells]; intro h; rcases h with h | h; exact h; subst h; simp at hz; omega) (fun i v hv => ?_), ?_⟩
    · unfold icells at hv
      simp only [List.getElem?_map] at hv
      rw [List.getElem?_take] at hv
      split at hv
      · rename_i hi
        have hi2 : i < zs.length := by omega
        rw [List.getElem?_eq_getElem hi2] at hv
        simp at hv
        rw [hcell i hi2, ← hv, List.getD_eq_getElem?_getD, List.getElem?_eq_getElem hi2]; rfl
      · simp at hv
    · intro n hn
      have := hwz n (List.mem_of_mem_take hn)
      simp [Lit.wf, IntKind.min, IntKind.max, IntKind.signed, IntKind.bits] at this
      omega

theorem open_texts {t e : TypeId} {fuel : Nat} {a : Option Addr} {len cap : Nat} {x : DataW H × List MemPlace} (ht : P.underlying t = some (.slice e)) (he : P.underlying e = some .string) (hc : P.cellsOf e = 1)
    (h : DataW.trod enc P w base (fun _ => true) held fuel t (Value.slice a len cap).cells.toList = some x) : ∃ ss : List ByteArray, ss.length = len ∧ Leads w a len cap (ss.map Value.string) ∧ ∀ s ∈ ss, s.size ≤ maxLen := by
  rcases open_strings ht he hc h with ⟨hcs, _⟩ | ⟨ad, l, c, ss, hcs, _, hl, hm, hz, _, hcell, hwz⟩
  · simp [Value.cells] at hcs
    obtain ⟨rfl, rfl, rfl⟩ := hcs
    exact ⟨[], rfl, ⟨Nat.le_refl _, Nat.zero_le _, .inl ⟨rfl, rfl⟩⟩, fun x hx => by cases hx⟩
  · simp [Value.cells] at hcs
    obtain ⟨rfl, rfl, rfl⟩ := hcs
    simp at hz
    refine ⟨ss.take len, by simp; omega, leads_of _ hl hm (by simp; intro h; rcases h with h | h; exact h; subst h; simp at hz; omega) (fun i v hv => ?_), fun s hs => hwz s (List.mem_of_mem_take hs)⟩
    simp only [List.getElem?_map] at hv
    rw [List.getElem?_take] at hv
    split at hv
    · rename_i hi
      have hi2 : i < ss.length := by omega
      rw [List.getElem?_eq_getElem hi2] at hv
      simp at hv
      rw [hcell i hi2, ← hv, List.getD_eq_getElem?_getD, List.getElem?_eq_getElem hi2]; rfl
    · simp at hv

def intOf : Value → Int
  | .int _ n => n
  | _ => 0
theorem open_fields {t e : TypeId} {f0 f1 : Field} {fuel : Nat} {a : Option Addr} {len cap : Nat} {x : DataW H × List MemPlace} (ht : P.underlying t = some (.slice e)) (he : P.underlying e = some (.struct #[f0, f1]))
    (ce : P.cellsOf e = 2) (o0 : f0.offset = 0) (o1 : f1.offset = 1) (c0 : P.cellsOf f0.type = 1) (c1 : P.cellsOf f1.type = 1) (k0 : P.underlying f0.type = some (.int .i64)) (k1 : P.underlying f1.type = some (.int .i64))
    (h : DataW.trod enc P w base (fun _ => true) held fuel t (Value.slice a len cap).cells.toList = some x) : ∃ fs : List (Int × Int), fs.length = len ∧ Leads w a len cap (pcells fs) ∧ pok fs := by
  rcases Go.Deep.open_slice_pairs ht he ce o0 o1 c0 c1 h with ⟨hcs, _⟩ | ⟨ad, l, c, m, n, V0, V1, D0, D1, P0, P1, hcs, _, hl, hm, hmm, _, hV⟩
  · simp [Value.cells] at hcs
    obtain ⟨rfl, rfl, rfl⟩ := hcs
    exact ⟨[], rfl, ⟨Nat.le_refl _, Nat.zero_le _, .inl ⟨rfl, rfl⟩⟩, fun x hx => by cases hx⟩
  · simp [Value.cells] at hcs
    obtain ⟨rfl, rfl, rfl⟩ := hcs
    have hmc : m = cap := by rw [hmm]; rfl
    have each : ∀ i, i < len → w.cell? (ad.add (i * 2)) = some (.int .i64 (intOf (V0 i))) ∧ w.cell? (ad.add (i * 2 + 1)) = some (.int .i64 (intOf (V1 i))) ∧
        (-9223372036854775808 ≤ intOf (V0 i) ∧ intOf (V0 i) ≤ 9223372036854775807) ∧ (-9223372036854775808 ≤ intOf (V1 i) ∧ intOf (V1 i) ≤ 9223372036854775807) := by
      intro i hi
      obtain ⟨h1, h2, h3, h4⟩ := hV i (by omega)
      obtain ⟨n0, e0, _, w0⟩ := DataW.trod_int k0 h3
      obtain ⟨n1, e1, _, w1⟩ := DataW.trod_int k1 h4
      simp at e0 e1
      rw [e0] at h1 ⊢
      rw [e1] at h2 ⊢
      exact ⟨h1, h2, int_of_wf w0, int_of_wf w1⟩
    refine ⟨(List.range len).map fun i => (intOf (V0 i), intOf (V1 i)), by simp, leads_of _ hl hm ?_ ?_, ?_⟩
    · intro h0
      unfold pcells at h0
      cases len with
      | zero => rfl
      | succ k => simp [List.range_succ] at h0
    · intro i v hv
      have hlt := (List.getElem?_eq_some_iff.1 hv).1
      have hlen : ∀ fs : List (Int × Int), (pcells fs).length = fs.length * 2 := by
        intro fs
        unfold pcells
        induction fs with
        | nil => rfl
        | cons f r ih => rw [List.flatMap_cons, List.length_append, ih]; simp; omega
      rw [hlen] at hlt
      simp at hlt
      have hk : i / 2 < len := by omega
      have hx : ((List.range len).map fun i => (intOf (V0 i), intOf (V1 i)))[i / 2]? = some (intOf (V0 (i / 2)), intOf (V1 (i / 2))) := by simp [hk]
      obtain ⟨h1, h2, _, _⟩ := each (i / 2) hk
      rcases Nat.mod_two_eq_zero_or_one i with hm2 | hm2
      · have e := flat_at (fun f : Int × Int => [Value.int .i64 f.1, .int .i64 f.2]) 2 (fun _ => rfl) _ (i / 2) 0 _ hx (by omega)
        have ei : i / 2 * 2 + 0 = i := by omega
        unfold pcells at hv
        rw [ei, hv] at e
        simp at e
        rw [e, show i = i / 2 * 2 by omega]
        rw [show i / 2 * 2 / 2 = i / 2 by omega]
        exact h1
      · have e := flat_at (fun f : Int × Int => [Value.int .i64 f.1, .int .i64 f.2]) 2 (fun _ => rfl) _ (i / 2) 1 _ hx (by omega)
        have ei : i / 2 * 2 + 1 = i := by omega
        unfold pcells at hv
        rw [ei, hv] at e
        simp at e
        rw [e]
        have h2' := h2
        rw [ei] at h2'
        exact h2'
    · intro f hf
      rw [List.mem_map] at hf
      obtain ⟨i, hi, rfl⟩ := hf
      obtain ⟨_, _, ⟨h3, h4⟩, h5, h6⟩ := each i (List.mem_range.1 hi)
      exact ⟨h3, h4, h5, h6⟩
end
end Go.Proofs.YtahicokokfcieaaDoor
namespace Go.Proofs.YtahicokokfcieaaDoor
open Go.RowKit
open Go.Proofs
set_option linter.unusedVariables false
attribute [local go_sem] Oper.semAt_some
def pw (n : Nat) : Nat := 2 ^ n
theorem pw_pos (n : Nat) : 1 ≤ pw n := Pl.pow_pos n
theorem pw_le {a b : Nat} (h : a ≤ b) : pw a ≤ pw b := Pl.pow_mono h
theorem pw_62 {n : Nat} (h : n ≤ 62) : pw n ≤ 4611686018427387904 := pw_le (b := 62) h
theorem pw_succ (n : Nat) : pw (n + 1) = 2 * pw n := by unfold pw; rw [Nat.pow_succ, Nat.mul_comm]
theorem Power_any (n : Nat) (w : World) (hn : n ≤ 63) : Calls Tryd.prog 32 #[.int .i64 (n : Nat)] w (Ret (.int .u64 ((pw n : Nat) : Int)) w) := by
  go_enter Tryd.func32, Tryd.ntmps32
  go_wp2
  go_loopg [3, 5] n (fun g x i wr => ∃ k : Nat, g + k = n ∧ i = .int .i64 (k : Nat) ∧ x = .int .u64 ((pw k : Nat) : Int) ∧ w = wr)
  case atStart => exact ⟨0, rfl, rfl, rfl, rfl⟩
  case round =>
    obtain ⟨k, hk, rfl, rfl, rfl⟩ := hrel
    have HK := hid hk
    clear hk
    by_cases hlt : k < n
    · have h1 := pw_62 (n := k) (by omega)
      have E := hid (pw_succ k)
      go_wp2
      go_roundg (gk - 1)
      case measure => have := HK.out; omega
      case rel => exact ⟨k + 1, by have := HK.out; omega, by go_num, by rw [E.out]; go_num, rfl⟩
    · have e : k = n := by have := HK.out; omega
      subst e
      go_wp2
      go_ret
      exact ⟨rfl, Below.refl _ _⟩
theorem rMay_any (b : Int) (V : World) : Calls Tryd.prog 10 #[.int .i64 b] V (Ret (.bool (depZ b).isSome) V) := by
  by_cases h4 : b = 4
  · subst h4
    show Calls _ _ _ _ (Ret (.bool true) V)
    go_enter Tryd.func10, Tryd.ntmps10
    go_wp2
    go_ret
    exact ⟨rfl, Below.refl _ _⟩
  · by_cases h8 : b = 8
    · subst h8
      show Calls _ _ _ _ (Ret (.bool true) V)
      go_enter Tryd.func10, Tryd.ntmps10
      go_wp2
      go_ret
      exact ⟨rfl, Below.refl _ _⟩
    · by_cases h16 : b = 16
      · subst h16
        show Calls _ _ _ _ (Ret (.bool true) V)
        go_enter Tryd.func10, Tryd.ntmps10
        go_wp2
        go_ret
        exact ⟨rfl, Below.refl _ _⟩
      · rw [show (depZ b).isSome = false by unfold depZ; rw [if_neg h4, if_neg h8, if_neg h16]; rfl]
        have t4 : (b == 4) = false := by simp [h4]
        have t8 : (b == 8) = false := by simp [h8]
        have t16 : (b == 16) = false := by simp [h16]
        clear h4 h8 h16
        go_enter Tryd.func10, Tryd.ntmps10
        go_wp2
        go_ret
        exact ⟨rfl, Below.refl _ _⟩
def rsaysV : Option (Nat × Nat) → Value
  | none => .tuple #[.int .u64 0, .int .i64 0, .bool false]
  | some (a, d) => .tuple #[.int .u64 ((a : Nat) : Int), .int .i64 ((2 ^ d : Nat) : Int), .bool true]
theorem results_tmp3r {fn : Func} {t u v : Tmp} (h : fn.results = #[.tmp t, .tmp u, .tmp v]) (tmps : Array Value) (P : Program) (w : World) :
    (results fn tmps).run P w = .ok (.tuple #[tmps.getD t undef, tmps.getD u undef, tmps.getD v undef]) w := by
  simp [results, h]
theorem rSays_none (x : Nat) (V : World) (hx : x < 18446744073709551616) (h : ¬ (2 ≤ x / 4294967296 ∧ x / 4294967296 ≤ 4)) : Calls Tryd.prog 8 #[.int .u64 ((x : Nat) : Int)] V (Ret (rsaysV none) V) := by
  have HP : Hid (∀ W, Calls Tryd.prog 32 #[.int .i64 32] W (Ret (.int .u64 4294967296) W)) := hid (fun W => Power_any 32 W (by decide))
  obtain ⟨a, ha⟩ : ∃ a, x % 4294967296 = a := ⟨_, rfl⟩
  obtain ⟨b, hb⟩ : ∃ b, x / 4294967296 = b := ⟨_, rfl⟩
  have ea : ((x : Nat) : Int) % 4294967296 = ((a : Nat) : Int) := by omega
  have ea' : ((x : Nat) : Int).tmod 4294967296 = ((a : Nat) : Int) := by rw [← ha]; rfl
  have eb : ((x : Nat) : Int) / 4294967296 = ((b : Nat) : Int) := by omega
  have eb' : ((x : Nat) : Int).tdiv 4294967296 = ((b : Nat) : Int) := by rw [← hb]; rfl
  obtain ⟨D, hD⟩ : ∃ D, V.drew = D := ⟨_, rfl⟩
  have hbD : Below V.heap.size V D := by rw [← hD]; exact (Below.refl _ _).drew
  have HD := hid hD
  have HBD := hid hbD
  clear hbD hD ha
  haveI : Nonempty (Ext D) := ⟨⟨D, Below.refl _ _⟩⟩
  go_enter Tryd.func8, Tryd.ntmps8
  go_upto_region 1 with (fail)
  refine wp_region_mix2 (fun W => ∃ z : Ext D, W = z.v) 8 (.q 0 (.q 3 (.h 1 (.q 2 (.h 4 (.q 5 (.q 6 (.q 7 (.done))))))))) (by kernel_rfl) (by kernel_rfl) (by rw [HD.out]; exact ⟨⟨D, Below.refl _ _⟩, rfl⟩) ?_
  rw [HD.out]
  iterate 2 (refine wpMix2_q rfl rfl ?_; go_big_quiet_step (fail); refine wpQuiet_nil ?_)
  refine wpMix2_h rfl fun R' hR' hO => ?_
  go_wp2_with fail
  refine (HP.out D).mono ?_
  rintro e w3 ⟨rfl, hb3⟩
  go_wp2
  refine hR' _ _ ⟨⟨w3, hb3⟩, rfl⟩ ?_
  clear hR' hO R'
  iterate 1 (refine wpMix2_q rfl rfl ?_; go_big_quiet_step (fail); refine wpQuiet_nil ?_)
  refine wpMix2_h rfl fun R' hR' hO => ?_
  go_wp2_with fail
  refine (HP.out w3).mono ?_
  rintro e w4 ⟨rfl, hb4⟩
  go_wp2
  have hb34 := hb3.trans (hb4.mono hb3.size)
  refine hR' _ _ ⟨⟨w4, hb34⟩, rfl⟩ ?_
  clear hR' hO R'
  iterate 3 (refine wpMix2_q rfl rfl ?_; go_big_quiet_step (fail); refine wpQuiet_nil ?_)
  refine wpMix2_done ?_
  simp only [List.drop_succ_cons, List.drop_nil]
  have HB4 := hid (HBD.out.trans (hb34.mono HBD.out.size))
  clear hb3 hb4 hb34 HP
  unfold rsaysV
  rw [hb] at h
  by_cases h2 : b < 2
  · have t2 : ((b : Nat) : Int) < 2 := by omega
    go_wp2
    refine bodyPost_ret (results_tmp3r rfl _ _ _) rfl ?_
    exact ⟨rfl, HB4.out⟩
  · have t2 : ¬ ((b : Nat) : Int) < 2 := by omega
    have t4 : (4 : Int) < ((b : Nat) : Int) := by omega
    go_wp2
    refine bodyPost_ret (results_tmp3r rfl _ _ _) rfl ?_
    exact ⟨rfl, HB4.out⟩
theorem rSays_2 (x : Nat) (V : World) (hx : x < 18446744073709551616) (h : x / 4294967296 = 2) : Calls Tryd.prog 8 #[.int .u64 ((x : Nat) : Int)] V (Ret (rsaysV (some (x % 4294967296, 2))) V) := by
  have HP2 : Hid (∀ W, Calls Tryd.prog 32 #[.int .i64 2] W (Ret (.int .u64 4) W)) := hid (fun W => Power_any 2 W (by decide))
  have HP : Hid (∀ W, Calls Tryd.prog 32 #[.int .i64 32] W (Ret (.int .u64 4294967296) W)) := hid (fun W => Power_any 32 W (by decide))
  obtain ⟨a, ha⟩ : ∃ a, x % 4294967296 = a := ⟨_, rfl⟩
  obtain ⟨b, hb⟩ : ∃ b, x / 4294967296 = b := ⟨_, rfl⟩
  have ea : ((x : Nat) : Int) % 4294967296 = ((a : Nat) : Int) := by omega
  have ea' : ((x : Nat) : Int).tmod 4294967296 = ((a : Nat) : Int) := by rw [← ha]; rfl
  have eb : ((x : Nat) : Int) / 4294967296 = ((b : Nat) : Int) := by omega
  have eb' : ((x : Nat) : Int).tdiv 4294967296 = ((b : Nat) : Int) := by rw [← hb]; rfl
  obtain ⟨D, hD⟩ : ∃ D, V.drew = D := ⟨_, rfl⟩
  have hbD : Below V.heap.size V D := by rw [← hD]; exact (Below.refl _ _).drew
  have HD := hid hD
  have HBD := hid hbD
  rw [ha]
  clear hbD hD ha
  haveI : Nonempty (Ext D) := ⟨⟨D, Below.refl _ _⟩⟩
  go_enter Tryd.func8, Tryd.ntmps8
  go_upto_region 1 with (fail)
  refine wp_region_mix2 (fun W => ∃ z : Ext D, W = z.v) 8 (.q 0 (.q 3 (.h 1 (.q 2 (.h 4 (.q 5 (.q 6 (.q 7 (.done))))))))) (by kernel_rfl) (by kernel_rfl) (by rw [HD.out]; exact ⟨⟨D, Below.refl _ _⟩, rfl⟩) ?_
  rw [HD.out]
  iterate 2 (refine wpMix2_q rfl rfl ?_; go_big_quiet_step (fail); refine wpQuiet_nil ?_)
  refine wpMix2_h rfl fun R' hR' hO => ?_
  go_wp2_with fail
  refine (HP.out D).mono ?_
  rintro e w3 ⟨rfl, hb3⟩
  go_wp2
  refine hR' _ _ ⟨⟨w3, hb3⟩, rfl⟩ ?_
  clear hR' hO R'
  iterate 1 (refine wpMix2_q rfl rfl ?_; go_big_quiet_step (fail); refine wpQuiet_nil ?_)
  refine wpMix2_h rfl fun R' hR' hO => ?_
  go_wp2_with fail
  refine (HP.out w3).mono ?_
  rintro e w4 ⟨rfl, hb4⟩
  go_wp2
  have hb34 := hb3.trans (hb4.mono hb3.size)
  refine hR' _ _ ⟨⟨w4, hb34⟩, rfl⟩ ?_
  clear hR' hO R'
  iterate 3 (refine wpMix2_q rfl rfl ?_; go_big_quiet_step (fail); refine wpQuiet_nil ?_)
  refine wpMix2_done ?_
  simp only [List.drop_succ_cons, List.drop_nil]
  have HB4 := hid (HBD.out.trans (hb34.mono HBD.out.size))
  clear hb3 hb4 hb34 HP
  unfold rsaysV
  rw [hb] at h
  subst h
  go_wp2_with fail
  refine (HP2.out w4).mono ?_
  rintro e w5 ⟨rfl, hb5⟩
  have HB5 := hid (HB4.out.trans (hb5.mono HB4.out.size))
  clear hb5
  go_wp2
  refine bodyPost_ret (results_tmp3r rfl _ _ _) rfl ?_
  exact ⟨rfl, HB5.out⟩
theorem rSays_3 (x : Nat) (V : World) (hx : x < 18446744073709551616) (h : x / 4294967296 = 3) : Calls Tryd.prog 8 #[.int .u64 ((x : Nat) : Int)] V (Ret (rsaysV (some (x % 4294967296, 3))) V) := by
  have HP2 : Hid (∀ W, Calls Tryd.prog 32 #[.int .i64 3] W (Ret (.int .u64 8) W)) := hid (fun W => Power_any 3 W (by decide))
  have HP : Hid (∀ W, Calls Tryd.prog 32 #[.int .i64 32] W (Ret (.int .u64 4294967296) W)) := hid (fun W => Power_any 32 W (by decide))
  obtain ⟨a, ha⟩ : ∃ a, x % 4294967296 = a := ⟨_, rfl⟩
  obtain ⟨b, hb⟩ : ∃ b, x / 4294967296 = b := ⟨_, rfl⟩
  have ea : ((x : Nat) : Int) % 4294967296 = ((a : Nat) : Int) := by omega
  have ea' : ((x : Nat) : Int).tmod 4294967296 = ((a : Nat) : Int) := by rw [← ha]; rfl
  have eb : ((x : Nat) : Int) / 4294967296 = ((b : Nat) : Int) := by omega
  have eb' : ((x : Nat) : Int).tdiv 4294967296 = ((b : Nat) : Int) := by rw [← hb]; rfl
  obtain ⟨D, hD⟩ : ∃ D, V.drew = D := ⟨_, rfl⟩
  have hbD : Below V.heap.size V D := by rw [← hD]; exact (Below.refl _ _).drew
  have HD := hid hD
  have HBD := hid hbD
  rw [ha]
  clear hbD hD ha
  haveI : Nonempty (Ext D) := ⟨⟨D, Below.refl _ _⟩⟩
  go_enter Tryd.func8, Tryd.ntmps8
  go_upto_region 1 with (fail)
  refine wp_region_mix2 (fun W => ∃ z : Ext D, W = z.v) 8 (.q 0 (.q 3 (.h 1 (.q 2 (.h 4 (.q 5 (.q 6 (.q 7 (.done))))))))) (by kernel_rfl) (by kernel_rfl) (by rw [HD.out]; exact ⟨⟨D, Below.refl _ _⟩, rfl⟩) ?_
  rw [HD.out]
  iterate 2 (refine wpMix2_q rfl rfl ?_; go_big_quiet_step (fail); refine wpQuiet_nil ?_)
  refine wpMix2_h rfl fun R' hR' hO => ?_
  go_wp2_with fail
  refine (HP.out D).mono ?_
  rintro e w3 ⟨rfl, hb3⟩
  go_wp2
  refine hR' _ _ ⟨⟨w3, hb3⟩, rfl⟩ ?_
  clear hR' hO R'
  iterate 1 (refine wpMix2_q rfl rfl ?_; go_big_quiet_step (fail); refine wpQuiet_nil ?_)
  refine wpMix2_h rfl fun R' hR' hO => ?_
  go_wp2_with fail
  refine (HP.out w3).mono ?_
  rintro e w4 ⟨rfl, hb4⟩
  go_wp2
  have hb34 := hb3.trans (hb4.mono hb3.size)
  refine hR' _ _ ⟨⟨w4, hb34⟩, rfl⟩ ?_
  clear hR' hO R'
  iterate 3 (refine wpMix2_q rfl rfl ?_; go_big_quiet_step (fail); refine wpQuiet_nil ?_)
  refine wpMix2_done ?_
  simp only [List.drop_succ_cons, List.drop_nil]
  have HB4 := hid (HBD.out.trans (hb34.mono HBD.out.size))
  clear hb3 hb4 hb34 HP
  unfold rsaysV
  rw [hb] at h
  subst h
  go_wp2_with fail
  refine (HP2.out w4).mono ?_
  rintro e w5 ⟨rfl, hb5⟩
  have HB5 := hid (HB4.out.trans (hb5.mono HB4.out.size))
  clear hb5
  go_wp2
  refine bodyPost_ret (results_tmp3r rfl _ _ _) rfl ?_
  exact ⟨rfl, HB5.out⟩
theorem rSays_4 (x : Nat) (V : World) (hx : x < 18446744073709551616) (h : x / 4294967296 = 4) : Calls Tryd.prog 8 #[.int .u64 ((x : Nat) : Int)] V (Ret (rsaysV (some (x % 4294967296, 4))) V) := by
  have HP2 : Hid (∀ W, Calls Tryd.prog 32 #[.int .i64 4] W (Ret (.int .u64 16) W)) := hid (fun W => Power_any 4 W (by decide))
  have HP : Hid (∀ W, Calls Tryd.prog 32 #[.int .i64 32] W (Ret (.int .u64 4294967296) W)) := hid (fun W => Power_any 32 W (by decide))
  obtain ⟨a, ha⟩ : ∃ a, x % 4294967296 = a := ⟨_, rfl⟩
  obtain ⟨b, hb⟩ : ∃ b, x / 4294967296 = b := ⟨_, rfl⟩
  have ea : ((x : Nat) : Int) % 4294967296 = ((a : Nat) : Int) := by omega
  have ea' : ((x : Nat) : Int).tmod 4294967296 = ((a : Nat) : Int) := by rw [← ha]; rfl
  have eb : ((x : Nat) : Int) / 4294967296 = ((b : Nat) : Int) := by omega
  have eb' : ((x : Nat) : Int).tdiv 4294967296 = ((b : Nat) : Int) := by rw [← hb]; rfl
  obtain ⟨D, hD⟩ : ∃ D, V.drew = D := ⟨_, rfl⟩
  have hbD : Below V.heap.size V D := by rw [← hD]; exact (Below.refl _ _).drew
  have HD := hid hD
  have HBD := hid hbD
  rw [ha]
  clear hbD hD ha
  haveI : Nonempty (Ext D) := ⟨⟨D, Below.refl _ _⟩⟩
  go_enter Tryd.func8, Tryd.ntmps8
  go_upto_region 1 with (fail)
  refine wp_region_mix2 (fun W => ∃ z : Ext D, W = z.v) 8 (.q 0 (.q 3 (.h 1 (.q 2 (.h 4 (.q 5 (.q 6 (.q 7 (.done))))))))) (by kernel_rfl) (by kernel_rfl) (by rw [HD.out]; exact ⟨⟨D, Below.refl _ _⟩, rfl⟩) ?_
  rw [HD.out]
  iterate 2 (refine wpMix2_q rfl rfl ?_; go_big_quiet_step (fail); refine wpQuiet_nil ?_)
  refine wpMix2_h rfl fun R' hR' hO => ?_
  go_wp2_with fail
  refine (HP.out D).mono ?_
  rintro e w3 ⟨rfl, hb3⟩
  go_wp2
  refine hR' _ _ ⟨⟨w3, hb3⟩, rfl⟩ ?_
  clear hR' hO R'
  iterate 1 (refine wpMix2_q rfl rfl ?_; go_big_quiet_step (fail); refine wpQuiet_nil ?_)
  refine wpMix2_h rfl fun R' hR' hO => ?_
  go_wp2_with fail
  refine (HP.out w3).mono ?_
  rintro e w4 ⟨rfl, hb4⟩
  go_wp2
  have hb34 := hb3.trans (hb4.mono hb3.size)
  refine hR' _ _ ⟨⟨w4, hb34⟩, rfl⟩ ?_
  clear hR' hO R'
  iterate 3 (refine wpMix2_q rfl rfl ?_; go_big_quiet_step (fail); refine wpQuiet_nil ?_)
  refine wpMix2_done ?_
  simp only [List.drop_succ_cons, List.drop_nil]
  have HB4 := hid (HBD.out.trans (hb34.mono HBD.out.size))
  clear hb3 hb4 hb34 HP
  unfold rsaysV
  rw [hb] at h
  subst h
  go_wp2_with fail
  refine (HP2.out w4).mono ?_
  rintro e w5 ⟨rfl, hb5⟩
  have HB5 := hid (HB4.out.trans (hb5.mono HB4.out.size))
  clear hb5
  go_wp2
  refine bodyPost_ret (results_tmp3r rfl _ _ _) rfl ?_
  exact ⟨rfl, HB5.out⟩
theorem rSays_any (x : Nat) (V : World) (hx : x < 18446744073709551616) : Calls Tryd.prog 8 #[.int .u64 ((x : Nat) : Int)] V (Ret (rsaysV (saysW x)) V) := by
  by_cases h : 2 ≤ x / 4294967296 ∧ x / 4294967296 ≤ 4
  · rw [show saysW x = some (x % 4294967296, x / 4294967296) by unfold saysW; rw [if_pos h]]
    rcases (by omega : x / 4294967296 = 2 ∨ x / 4294967296 = 3 ∨ x / 4294967296 = 4) with e | e | e
    · rw [e]; exact rSays_2 x V hx e
    · rw [e]; exact rSays_3 x V hx e
    · rw [e]; exact rSays_4 x V hx e
  · rw [show saysW x = none by unfold saysW; rw [if_neg h]]
    exact rSays_none x V hx h
theorem rLog_4 (w : World) : Calls Tryd.prog 59 #[.int .u64 4] w (Ret (.int .i64 2) w) := by
  go_enter Tryd.func59, Tryd.ntmps59
  go_wp2
  go_loopg [0, 3] 3 (fun g v o wr => (g = 3 ∧ v = .int .u64 4 ∧ o = .int .i64 (-1) ∧ w = wr) ∨ (g = 2 ∧ v = .int .u64 2 ∧ o = .int .i64 0 ∧ w = wr) ∨ (g = 1 ∧ v = .int .u64 1 ∧ o = .int .i64 1 ∧ w = wr) ∨ (g = 0 ∧ v = .int .u64 0 ∧ o = .int .i64 2 ∧ w = wr))
  case atStart => exact .inl ⟨rfl, rfl, rfl, rfl⟩
  case round =>
    rcases hrel with ⟨rfl, rfl, rfl, rfl⟩ | ⟨rfl, rfl, rfl, rfl⟩ | ⟨rfl, rfl, rfl, rfl⟩ | ⟨rfl, rfl, rfl, rfl⟩
    · go_wp2
      go_roundg 2
      case measure => decide
      case rel => exact .inr (.inl ⟨rfl, rfl, rfl, rfl⟩)
    · go_wp2
      go_roundg 1
      case measure => decide
      case rel => exact .inr (.inr (.inl ⟨rfl, rfl, rfl, rfl⟩))
    · go_wp2
      go_roundg 0
      case measure => decide
      case rel => exact .inr (.inr (.inr (⟨rfl, rfl, rfl, rfl⟩)))
    · go_wp2
      go_ret
      exact ⟨rfl, Below.refl _ _⟩
theorem rlog_4 (w : World) : Calls Tryd.prog 34 #[.int .i64 4] w (Ret (.int .u64 2) w) := by
  have HL := hid (fun W => rLog_4 W)
  go_enter Tryd.func34, Tryd.ntmps34
  go_wp2_with fail
  refine (HL.out w).mono ?_
  rintro e w1 ⟨rfl, hb⟩
  have HB := hid hb
  clear hb
  go_wp2
  go_ret
  exact ⟨rfl, HB.out⟩
theorem rWord_4 (a : Nat) (V : World) (ha : a ≤ 4096) : Calls Tryd.prog 11 #[.int .u64 ((a : Nat) : Int), .int .i64 4] V (Ret (.int .u64 ((wordW a 2 : Nat) : Int)) V) := by
  have HL := hid (fun W => rlog_4 W)
  have HP : Hid (∀ W, Calls Tryd.prog 32 #[.int .i64 32] W (Ret (.int .u64 4294967296) W)) := hid (fun W => Power_any 32 W (by decide))
  have e1 : IntKind.u64.wrap (((a : Nat) : Int) + 8589934592) = ((wordW a 2 : Nat) : Int) := by unfold wordW; rw [IntKind.wrap_u64]; omega
  go_enter Tryd.func11, Tryd.ntmps11
  go_wp2_with fail
  refine (HL.out V).mono ?_
  rintro e w1 ⟨rfl, hb⟩
  have HB := hid hb
  clear hb
  go_wp2_with fail
  refine (HP.out w1).mono ?_
  rintro e w2 ⟨rfl, hb2⟩
  have HB2 := hid (HB.out.trans (hb2.mono HB.out.size))
  clear hb2
  go_wp2
  go_ret
  exact ⟨rfl, HB2.out⟩
theorem rLog_8 (w : World) : Calls Tryd.prog 59 #[.int .u64 8] w (Ret (.int .i64 3) w) := by
  go_enter Tryd.func59, Tryd.ntmps59
  go_wp2
  go_loopg [0, 3] 4 (fun g v o wr => (g = 4 ∧ v = .int .u64 8 ∧ o = .int .i64 (-1) ∧ w = wr) ∨ (g = 3 ∧ v = .int .u64 4 ∧ o = .int .i64 0 ∧ w = wr) ∨ (g = 2 ∧ v = .int .u64 2 ∧ o = .int .i64 1 ∧ w = wr) ∨ (g = 1 ∧ v = .int .u64 1 ∧ o = .int .i64 2 ∧ w = wr) ∨ (g = 0 ∧ v = .int .u64 0 ∧ o = .int .i64 3 ∧ w = wr))
  case atStart => exact .inl ⟨rfl, rfl, rfl, rfl⟩
  case round =>
    rcases hrel with ⟨rfl, rfl, rfl, rfl⟩ | ⟨rfl, rfl, rfl, rfl⟩ | ⟨rfl, rfl, rfl, rfl⟩ | ⟨rfl, rfl, rfl, rfl⟩ | ⟨rfl, rfl, rfl, rfl⟩
    · go_wp2
      go_roundg 3
      case measure => decide
      case rel => exact .inr (.inl ⟨rfl, rfl, rfl, rfl⟩)
    · go_wp2
      go_roundg 2
      case measure => decide
      case rel => exact .inr (.inr (.inl ⟨rfl, rfl, rfl, rfl⟩))
    · go_wp2
      go_roundg 1
      case measure => decide
      case rel => exact .inr (.inr (.inr (.inl ⟨rfl, rfl, rfl, rfl⟩)))
    · go_wp2
      go_roundg 0
      case measure => decide
      case rel => exact .inr (.inr (.inr (.inr (⟨rfl, rfl, rfl, rfl⟩))))
    · go_wp2
      go_ret
      exact ⟨rfl, Below.refl _ _⟩
theorem rlog_8 (w : World) : Calls Tryd.prog 34 #[.int .i64 8] w (Ret (.int .u64 3) w) := by
  have HL := hid (fun W => rLog_8 W)
  go_enter Tryd.func34, Tryd.ntmps34
  go_wp2_with fail
  refine (HL.out w).mono ?_
  rintro e w1 ⟨rfl, hb⟩
  have HB := hid hb
  clear hb
  go_wp2
  go_ret
  exact ⟨rfl, HB.out⟩
theorem rWord_8 (a : Nat) (V : World) (ha : a ≤ 4096) : Calls Tryd.prog 11 #[.int .u64 ((a : Nat) : Int), .int .i64 8] V (Ret (.int .u64 ((wordW a 3 : Nat) : Int)) V) := by
  have HL := hid (fun W => rlog_8 W)
  have HP : Hid (∀ W, Calls Tryd.prog 32 #[.int .i64 32] W (Ret (.int .u64 4294967296) W)) := hid (fun W => Power_any 32 W (by decide))
  have e1 : IntKind.u64.wrap (((a : Nat) : Int) + 12884901888) = ((wordW a 3 : Nat) : Int) := by unfold wordW; rw [IntKind.wrap_u64]; omega
  go_enter Tryd.func11, Tryd.ntmps11
  go_wp2_with fail
  refine (HL.out V).mono ?_
  rintro e w1 ⟨rfl, hb⟩
  have HB := hid hb
  clear hb
  go_wp2_with fail
  refine (HP.out w1).mono ?_
  rintro e w2 ⟨rfl, hb2⟩
  have HB2 := hid (HB.out.trans (hb2.mono HB.out.size))
  clear hb2
  go_wp2
  go_ret
  exact ⟨rfl, HB2.out⟩
theorem rLog_16 (w : World) : Calls Tryd.prog 59 #[.int .u64 16] w (Ret (.int .i64 4) w) := by
  go_enter Tryd.func59, Tryd.ntmps59
  go_wp2
  go_loopg [0, 3] 5 (fun g v o wr => (g = 5 ∧ v = .int .u64 16 ∧ o = .int .i64 (-1) ∧ w = wr) ∨ (g = 4 ∧ v = .int .u64 8 ∧ o = .int .i64 0 ∧ w = wr) ∨ (g = 3 ∧ v = .int .u64 4 ∧ o = .int .i64 1 ∧ w = wr) ∨ (g = 2 ∧ v = .int .u64 2 ∧ o = .int .i64 2 ∧ w = wr) ∨ (g = 1 ∧ v = .int .u64 1 ∧ o = .int .i64 3 ∧ w = wr) ∨ (g = 0 ∧ v = .int .u64 0 ∧ o = .int .i64 4 ∧ w = wr))
  case atStart => exact .inl ⟨rfl, rfl, rfl, rfl⟩
  case round =>
    rcases hrel with ⟨rfl, rfl, rfl, rfl⟩ | ⟨rfl, rfl, rfl, rfl⟩ | ⟨rfl, rfl, rfl, rfl⟩ | ⟨rfl, rfl, rfl, rfl⟩ | ⟨rfl, rfl, rfl, rfl⟩ | ⟨rfl, rfl, rfl, rfl⟩
    · go_wp2
      go_roundg 4
      case measure => decide
      case rel => exact .inr (.inl ⟨rfl, rfl, rfl, rfl⟩)
    · go_wp2
      go_roundg 3
      case measure => decide
      case rel => exact .inr (.inr (.inl ⟨rfl, rfl, rfl, rfl⟩))
    · go_wp2
      go_roundg 2
      case measure => decide
      case rel => exact .inr (.inr (.inr (.inl ⟨rfl, rfl, rfl, rfl⟩)))
    · go_wp2
      go_roundg 1
      case measure => decide
      case rel => exact .inr (.inr (.inr (.inr (.inl ⟨rfl, rfl, rfl, rfl⟩))))
    · go_wp2
      go_roundg 0
      case measure => decide
      case rel => exact .inr (.inr (.inr (.inr (.inr (⟨rfl, rfl, rfl, rfl⟩)))))
    · go_wp2
      go_ret
      exact ⟨rfl, Below.refl _ _⟩
theorem rlog_16 (w : World) : Calls Tryd.prog 34 #[.int .i64 16] w (Ret (.int .u64 4) w) := by
  have HL := hid (fun W => rLog_16 W)
  go_enter Tryd.func34, Tryd.ntmps34
  go_wp2_with fail
  refine (HL.out w).mono ?_
  rintro e w1 ⟨rfl, hb⟩
  have HB := hid hb
  clear hb
  go_wp2
  go_ret
  exact ⟨rfl, HB.out⟩
theorem rWord_16 (a : Nat) (V : World) (ha : a ≤ 4096) : Calls Tryd.prog 11 #[.int .u64 ((a : Nat) : Int), .int .i64 16] V (Ret (.int .u64 ((wordW a 4 : Nat) : Int)) V) := by
  have HL := hid (fun W => rlog_16 W)
  have HP : Hid (∀ W, Calls Tryd.prog 32 #[.int .i64 32] W (Ret (.int .u64 4294967296) W)) := hid (fun W => Power_any 32 W (by decide))
  have e1 : IntKind.u64.wrap (((a : Nat) : Int) + 17179869184) = ((wordW a 4 : Nat) : Int) := by unfold wordW; rw [IntKind.wrap_u64]; omega
  go_enter Tryd.func11, Tryd.ntmps11
  go_wp2_with fail
  refine (HL.out V).mono ?_
  rintro e w1 ⟨rfl, hb⟩
  have HB := hid hb
  clear hb
  go_wp2_with fail
  refine (HP.out w1).mono ?_
  rintro e w2 ⟨rfl, hb2⟩
  have HB2 := hid (HB.out.trans (hb2.mono HB.out.size))
  clear hb2
  go_wp2
  go_ret
  exact ⟨rfl, HB2.out⟩
end Go.Proofs.YtahicokokfcieaaDoor
