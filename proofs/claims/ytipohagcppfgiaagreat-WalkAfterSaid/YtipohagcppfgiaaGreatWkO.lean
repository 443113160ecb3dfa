/- Layer 17, several texts in one. -/
import Derived.Test.YtipohagcppfgiaaGreatRows
import Derived.Test.YtipohagcppfgiaaGreatLawDefs
import Derived.ProofKit
import Derived.OpenShut
import Derived.ShutString
import Derived.ChangeOld
import Derived.Deep.Slices
import Derived.Deep.SlicePairs
import Derived.Lib.SmallJoins
import Derived.DataElems
import Derived.Test.YtipohagcppfgiaaGreatWkA
namespace Go.Proofs.YtipohagcppfgiaaGreat
open Go.ChangeShapes Go.WideShapes Go.ChangeAt Go.RowKit
open Go.ChangeMaps (open_string shut_string)
set_option linter.unusedVariables false
theorem nat_of_wf {z : Int} (h : (Lit.int .u64 z).wf = true) : ∃ y : Nat, z = (y : Int) ∧ y < 18446744073709551616 := by
 simp [Lit.wf, IntKind.min, IntKind.max, IntKind.signed, IntKind.bits] at h
 exact ⟨z.toNat, by omega, by omega⟩
section
variable {H : Type} {enc : TypeId × Value → H} {P : Program} {w : World} {base : Nat} {held : Bool}
theorem leads_of {a : Addr} {len cap : Nat} (cs : List Value) (h1 : len ≤ cap) (h2 : cap ≤ maxLen) (hl : cs.length = 0 → len = 0) (hc : ∀ i v, cs[i]? = some v → w.cell? (a.add i) = some v) : Leads w (some a) len cap cs := by
 refine ⟨h1, h2, ?_⟩
 cases cs with
 | nil => exact .inl ⟨hl rfl, rfl⟩
 | cons v r =>
  have h0 := hc 0 v rfl
  obtain ⟨b, off, spot⟩ := a
  have hs : spot = none := by
   cases spot with
   | none => rfl
   | some s =>
    have : (⟨b, off, some s⟩ : Addr).add 0 = ⟨b, off, some s⟩ := by simp [Addr.add]
    rw [this] at h0
    unfold World.cell? at h0
    cases hh : w.heap[b]? with
    | none => rw [hh] at h0; cases h0
    | some o => rw [hh] at h0; cases o <;> simp at h0
  subst hs
  refine .inr ⟨b, off, rfl, block_lt_of_cell h0, fun i u hu => ?_⟩
  have := hc i u hu
  rcases i with _ | i
  ·simpa [Addr.add] using this
  ·simpa [Addr.add] using this
theorem open_words {t e : TypeId} {fuel : Nat} {a : Option Addr} {len cap : Nat} {x : DataW H × List MemPlace} (ht : P.underlying t = some (.slice e)) (he : P.underlying e = some (.int .u64)) (hc : P.cellsOf e = 1)
  (h : DataW.trod enc P w base (fun _ => true) held fuel t (Value.slice a len cap).cells.toList = some x) : ∃ xs : List Nat, xs.length = len ∧ Leads w a len cap (wcells xs) ∧ wok xs := by
 rcases open_ints ht he hc h with ⟨hcs, _⟩ | ⟨ad, l, c, zs, hcs, _, hl, hm, hz, _, hcell, hwz⟩
 ·simp [Value.cells] at hcs
  obtain ⟨rfl, rfl, rfl⟩ := hcs
  exact ⟨[], rfl, ⟨Nat.le_refl _, Nat.zero_le _, .inl ⟨rfl, rfl⟩⟩, fun x hx => by cases hx⟩
 ·simp [Value.cells] at hcs
  obtain ⟨rfl, rfl, rfl⟩ := hcs
  simp at hz
  have hw : ∀ n ∈ zs, 0 ≤ n ∧ n < 18446744073709551616 := by
   intro n hn
   have := hwz n hn
   simp [Lit.wf, IntKind.min, IntKind.max, IntKind.signed, IntKind.bits] at this
   omega
  refine ⟨(zs.take len).map Int.toNat, by simp; omega, leads_of _ hl hm (by simp [wcells]; intro h; rcases h with h | h; exact h; subst h; simp at hz; omega) (fun i v hv => ?_), ?_⟩
  ·unfold wcells at hv
   simp only [List.getElem?_map, Option.map_map] at hv
   rw [List.getElem?_take] at hv
   split at hv
   ·rename_i hi
    have hi2 : i < zs.length := by omega
    rw [List.getElem?_eq_getElem hi2] at hv
    simp at hv
    rw [hcell i hi2, ← hv, List.getD_eq_getElem?_getD, List.getElem?_eq_getElem hi2]
    have := hw _ (List.getElem_mem hi2)
    simp
    omega
   ·simp at hv
  ·intro n hn
   obtain ⟨z, hz', rfl⟩ := List.mem_map.1 hn
   have := hw z (List.mem_of_mem_take hz')
   omega
theorem open_i64s {t e : TypeId} {fuel : Nat} {a : Option Addr} {len cap : Nat} {x : DataW H × List MemPlace} (ht : P.underlying t = some (.slice e)) (he : P.underlying e = some (.int .i64)) (hc : P.cellsOf e = 1)
  (h : DataW.trod enc P w base (fun _ => true) held fuel t (Value.slice a len cap).cells.toList = some x) : ∃ xs : List Int, xs.length = len ∧ Leads w a len cap (icells xs) ∧ iok xs := by
 rcases open_ints ht he hc h with ⟨hcs, _⟩ | ⟨ad, l, c, zs, hcs, _, hl, hm, hz, _, hcell, hwz⟩
 ·simp [Value.cells] at hcs
  obtain ⟨rfl, rfl, rfl⟩ := hcs
  exact ⟨[], rfl, ⟨Nat.le_refl _, Nat.zero_le _, .inl ⟨rfl, rfl⟩⟩, fun x hx => by cases hx⟩
 ·simp [Value.cells] at hcs
  obtain ⟨rfl, rfl, rfl⟩ := hcs
  simp at hz
  refine ⟨zs.take len, by simp; omega, leads_of _ hl hm (by simp [icells]; intro h; rcases h with h | h; exact h; subst h; simp at hz; omega) (fun i v hv => ?_), ?_⟩
  ·unfold icells at hv
   simp only [List.getElem?_map] at hv
   rw [List.getElem?_take] at hv
   split at hv
   ·rename_i hi
    have hi2 : i < zs.length := by omega
    rw [List.getElem?_eq_getElem hi2] at hv
    simp at hv
    rw [hcell i hi2, ← hv, List.getD_eq_getElem?_getD, List.getElem?_eq_getElem hi2]; rfl
   ·simp at hv
  ·intro n hn
   have := hwz n (List.mem_of_mem_take hn)
   simp [Lit.wf, IntKind.min, IntKind.max, IntKind.signed, IntKind.bits] at this
   omega
end
end Go.Proofs.YtipohagcppfgiaaGreat
namespace Go.Proofs.YtipohagcppfgiaaGreat
open Go.ChangeShapes Go.WideShapes Go.ChangeAt Go.RowKit
set_option linter.unusedVariables false
section
variable {H : Type} {enc : TypeId × Value → H} {P : Program} {w : World} {base : Nat} {held : Bool}
/-- A row of elements of k cells each, where each one's cells say what it is. -/
theorem open_each {α : Type} {t e : TypeId} {k fuel : Nat} {a : Option Addr} {len cap : Nat} {x : DataW H × List MemPlace} (f : α → List Value) (R : α → Prop) (ht : P.underlying t = some (.slice e)) (ce : P.cellsOf e = k) (hk : 0 < k) (hf : ∀ q, R q → (f q).length = k)
  (each : ∀ (n : Nat) (cs : List Value) (y : DataW H × List MemPlace), cs.length = k → DataW.trod enc P w base (fun _ => true) held n e cs = some y → ∃ q : α, cs = f q ∧ R q)
  (h : DataW.trod enc P w base (fun _ => true) held fuel t (Value.slice a len cap).cells.toList = some x) : ∃ qs : List α, qs.length = len ∧ Leads w a len cap (qs.flatMap f) ∧ ∀ q ∈ qs, R q := by
 rcases Go.Deep.open_slice ht h with ⟨hcs, _⟩ | ⟨ad, l, c, m, n, D, Pl, hcs, _, hl, hm, hmm, _, hV⟩
 ·simp [Value.cells] at hcs
  obtain ⟨rfl, rfl, rfl⟩ := hcs
  exact ⟨[], rfl, ⟨Nat.le_refl _, Nat.zero_le _, .inl ⟨rfl, rfl⟩⟩, fun x hx => by cases hx⟩
 ·simp [Value.cells] at hcs
  obtain ⟨rfl, rfl, rfl⟩ := hcs
  have hmc : m = cap := by rw [hmm]; rfl
  have e1 : ∀ i : Fin len, ∃ q : α, R q ∧ ∀ j, j < k → w.cell? (ad.add (i.1 * k + j)) = (f q)[j]? := by
   intro i
   obtain ⟨cs', h1, h2⟩ := hV i.1 (by omega)
   rw [ce] at h1
   obtain ⟨_, hlen, hcell⟩ := World.cells?_some h1
   obtain ⟨q, rfl, hR⟩ := each n cs' _ hlen h2
   refine ⟨q, hR, fun j hj => ?_⟩
   rw [← Addr.add_add]
   exact hcell j hj
  let g : Fin len → α := fun i => Classical.choose (e1 i)
  have hg : ∀ i, R (g i) ∧ ∀ j, j < k → w.cell? (ad.add (i.1 * k + j)) = (f (g i))[j]? := fun i => Classical.choose_spec (e1 i)
  have hlenf : ∀ (qs : List α), (∀ q ∈ qs, R q) → (qs.flatMap f).length = qs.length * k := by
   intro qs
   induction qs with
   | nil => intro _; simp
   | cons q r ih =>
    intro h
    rw [List.flatMap_cons, List.length_append, hf q (h q (by simp)), ih (fun q hq => h q (by simp [hq])), List.length_cons, Nat.succ_mul]; omega
  have hall : ∀ q ∈ List.ofFn g, R q := by
   intro q hq
   obtain ⟨i, rfl⟩ := List.mem_ofFn.1 hq
   exact (hg i).1
  refine ⟨List.ofFn g, by simp, leads_of _ hl hm ?_ ?_, hall⟩
  ·intro h0
   rw [hlenf _ hall, List.length_ofFn] at h0
   rcases Nat.mul_eq_zero.1 h0 with h | h
   ·exact h
   ·omega
  ·intro i v hv
   have hlt := (List.getElem?_eq_some_iff.1 hv).1
   rw [hlenf _ hall, List.length_ofFn] at hlt
   have hq : i / k < len := Nat.div_lt_of_lt_mul (by rw [Nat.mul_comm]; exact hlt)
   have hr : i % k < k := Nat.mod_lt _ hk
   have ei : i / k * k + i % k = i := Nat.div_add_mod' i k
   have hc := (hg ⟨i / k, hq⟩).2 (i % k) hr
   rw [show (⟨i / k, hq⟩ : Fin len).1 * k + i % k = i from ei] at hc
   rw [hc, ← hv]
   clear hc hv
   have go : ∀ (qs : List α) (hR : ∀ q ∈ qs, R q) (a b : Nat) (q : α), qs[a]? = some q → b < k → (qs.flatMap f)[a * k + b]? = (f q)[b]? := by
    intro qs
    induction qs with
    | nil => intro _ a b q h; simp at h
    | cons y r ih =>
     intro hR a b q h hb
     have hy := hf y (hR y (by simp))
     rw [List.flatMap_cons]
     cases a with
     | zero =>
      obtain rfl : y = q := by simpa using h
      rw [Nat.zero_mul, Nat.zero_add, List.getElem?_append_left (by omega)]
     | succ a =>
      rw [List.getElem?_append_right (by rw [hy, Nat.succ_mul]; omega), hy, show (a + 1) * k + b - k = a * k + b by rw [Nat.succ_mul]; omega]
      exact ih (fun q hq => hR q (by simp [hq])) a b q (by simpa using h) hb
   have := go (List.ofFn g) hall (i / k) (i % k) (g ⟨i / k, hq⟩) (by rw [List.getElem?_ofFn, dif_pos hq]) hr
   rw [ei] at this
   exact this.symm
end
end Go.Proofs.YtipohagcppfgiaaGreat
namespace Go.Proofs.YtipohagcppfgiaaGreat
open Go.ChangeShapes Go.WideShapes Go.ChangeAt Go.RowKit
set_option linter.unusedVariables false
section
variable {H : Type} {enc : TypeId × Value → H} {w : World} {base : Nat} {held : Bool}
theorem trod_array2 {P : Program} {spare : Nat → Bool} {t e : TypeId} {fuel : Nat} {c0 c1 : Value} {x : DataW H × List MemPlace} (ht : P.underlying t = some (.array 2 e)) (hce : P.cellsOf e = 1)
  (h : DataW.trod enc P w base spare held fuel t [c0, c1] = some x) :
  ∃ y0 y1 n, DataW.trod enc P w base spare held n e [c0] = some y0 ∧ DataW.trod enc P w base spare held n e [c1] = some y1 := by
 cases fuel with
 | zero => simp [DataW.trod] at h
 | succ n =>
  unfold DataW.trod at h
  rw [ht] at h
  have r2 : List.range 2 = [0, 1] := rfl
  simp [r2, hce] at h
  obtain ⟨_, h⟩ := h
  cases h0 : DataW.trod enc P w base spare held n e [c0] with
  | none => simp [h0] at h
  | some y0 =>
   cases h1 : DataW.trod enc P w base spare held n e [c1] with
   | none => simp [h0, h1] at h
   | some y1 => exact ⟨y0, y1, n, h0, h1⟩
theorem open_boolrow {fuel : Nat} {a : Option Addr} {len cap : Nat} {x : DataW H × List MemPlace} (h : DataW.trod enc Tryz.prog w base (fun _ => true) held fuel 23 (Value.slice a len cap).cells.toList = some x) :
  ∃ bs : List Bool, bs.length = len ∧ Leads w a len cap (bcells bs) := by
 obtain ⟨qs, h1, h2, h3⟩ := open_each (fun b : Bool => [Value.bool b]) (fun _ => True) Tryz.underlying23 (k := 1) (by kernel_rfl) (by decide) (fun q hq => rfl) (fun n cs y hl hy => by
  obtain ⟨z, e, -⟩ := DataW.trod_bool Tryz.underlying4 hy
  exact ⟨z, e, trivial⟩) h
 refine ⟨qs, h1, ?_⟩
 have : qs.flatMap (fun b : Bool => [Value.bool b]) = bcells qs := by clear h h1 h2 h3; induction qs with | nil => rfl | cons q r ih => rw [List.flatMap_cons, ih]; rfl
 rw [← this]; exact h2
set_option maxRecDepth 100000 in
theorem open_mem3 {fuel : Nat} {cs : List Value} {y : DataW H × List MemPlace} (hl : cs.length = 3) (h : DataW.trod enc Tryz.prog w base (fun _ => true) held fuel 25 cs = some y) :
  ∃ (M : Mem) (wa : Option Addr) (wc : Nat) (la : Option Addr) (lc : Nat), cs = [.slice wa M.W.length wc, .slice la M.L.length lc, .bool M.F] ∧ MemL w wa wc la lc M ∧ ∀ x ∈ M.W, x < 18446744073709551616 := by
 obtain ⟨xs, k, -, -, -, hxl, hf⟩ := DataW.trod_struct Tryz.underlying25 h
 match cs, hl, xs, hxl with
 | [c0, c1, c2], _, [y0, y1, y2], _ =>
  have g0 := hf 0 _ rfl
  have g1 := hf 1 _ rfl
  have g2 := hf 2 _ rfl
  have ec0 : Tryz.prog.cellsOf 22 = 1 := by kernel_rfl
  have ec1 : Tryz.prog.cellsOf 23 = 1 := by kernel_rfl
  have ec2 : Tryz.prog.cellsOf 4 = 1 := by kernel_rfl
  simp [ec0, ec1, ec2] at g0 g1 g2
  obtain ⟨wa, wn, wc, eW⟩ := Joins.slice_form Tryz.underlying22 g0
  obtain ⟨la, ln, lc, eL⟩ := Joins.slice_form Tryz.underlying23 g1
  obtain ⟨F, eF, -⟩ := DataW.trod_bool Tryz.underlying4 g2
  simp only [List.cons.injEq, and_true] at eW eL eF
  subst eW eL eF
  obtain ⟨ws, w1, w2, w3⟩ := open_words (a := wa) (len := wn) (cap := wc) Tryz.underlying22 Tryz.underlying26 (by kernel_rfl) g0
  obtain ⟨bs, b1, b2⟩ := open_boolrow (a := la) (len := ln) (cap := lc) g1
  subst w1 b1
  exact ⟨⟨ws, bs, F⟩, wa, wc, la, lc, rfl, ⟨w2, b2⟩, w3⟩
set_option maxRecDepth 100000 in
theorem open_nd4 {fuel : Nat} {cs : List Value} {y : DataW H × List MemPlace} (hl : cs.length = 4) (h : DataW.trod enc Tryz.prog w base (fun _ => true) held fuel 42 cs = some y) : ∃ m : Nd, cs = nd4 m ∧ m.Ok := by
 obtain ⟨xs, k, -, -, -, hxl, hf⟩ := DataW.trod_struct Tryz.underlying42 h
 match cs, hl, xs, hxl with
 | [c0, c1, c2, c3], _, [y0, y1, y2, y3], _ =>
  have g0 := hf 0 _ rfl
  have g1 := hf 1 _ rfl
  have g2 := hf 2 _ rfl
  have g3 := hf 3 _ rfl
  have ec0 : Tryz.prog.cellsOf 26 = 1 := by kernel_rfl
  simp [ec0] at g0 g1 g2 g3
  obtain ⟨z0, e0, _, w0⟩ := DataW.trod_int Tryz.underlying26 g0
  obtain ⟨n0, rfl, q0⟩ := nat_of_wf w0
  obtain ⟨z1, e1, _, w1⟩ := DataW.trod_int Tryz.underlying26 g1
  obtain ⟨n1, rfl, q1⟩ := nat_of_wf w1
  obtain ⟨z2, e2, _, w2⟩ := DataW.trod_int Tryz.underlying26 g2
  obtain ⟨n2, rfl, q2⟩ := nat_of_wf w2
  obtain ⟨z3, e3, _, w3⟩ := DataW.trod_int Tryz.underlying26 g3
  obtain ⟨n3, rfl, q3⟩ := nat_of_wf w3
  simp only [List.cons.injEq, and_true] at e0 e1 e2 e3
  subst e0 e1 e2 e3
  exact ⟨(n0, n1, n2, n3), rfl, ⟨q0, q1, q2, q3⟩⟩
set_option maxRecDepth 100000 in
theorem open_jb5 {fuel : Nat} {cs : List Value} {y : DataW H × List MemPlace} (hl : cs.length = 5) (h : DataW.trod enc Tryz.prog w base (fun _ => true) held fuel 66 cs = some y) : ∃ j : Jb, cs = jb5 j ∧ j.2.Ok := by
 obtain ⟨xs, k, -, -, -, hxl, hf⟩ := DataW.trod_struct Tryz.underlying66 h
 match cs, hl, xs, hxl with
 | [c0, c1, c2, c3, c4], _, [y0, y1], _ =>
  have g0 := hf 0 _ rfl
  have g1 := hf 1 _ rfl
  have ec0 : Tryz.prog.cellsOf 4 = 1 := by kernel_rfl
  have ec1 : Tryz.prog.cellsOf 42 = 4 := by kernel_rfl
  simp [ec0, ec1] at g0 g1
  obtain ⟨b, e0, -⟩ := DataW.trod_bool Tryz.underlying4 g0
  obtain ⟨m, e1, hm⟩ := open_nd4 rfl g1
  simp only [List.cons.injEq, and_true] at e0
  subst e0
  exact ⟨(b, m), by rw [e1]; rfl, hm⟩
set_option maxRecDepth 100000 in
theorem open_jobs {fuel : Nat} {a : Option Addr} {len cap : Nat} {x : DataW H × List MemPlace} (h : DataW.trod enc Tryz.prog w base (fun _ => true) held fuel 27 (Value.slice a len cap).cells.toList = some x) :
  ∃ js : List Jb, js.length = len ∧ Leads w a len cap (jbcells js) ∧ ∀ j ∈ js, j.2.Ok :=
 open_each jb5 (fun j => j.2.Ok) Tryz.underlying27 (k := 5) (by kernel_rfl) (by decide) (fun q hq => rfl) (fun n cs y hl hy => open_jb5 hl hy) h
set_option maxRecDepth 100000 in
theorem open_keys {fuel : Nat} {a : Option Addr} {len cap : Nat} {x : DataW H × List MemPlace} (h : DataW.trod enc Tryz.prog w base (fun _ => true) held fuel 28 (Value.slice a len cap).cells.toList = some x) :
  ∃ ks : List (Nat × Nat), ks.length = len ∧ Leads w a len cap (kycells ks) ∧ ∀ k ∈ ks, k.1 < 18446744073709551616 ∧ k.2 < 18446744073709551616 :=
 open_each ky2 (fun k => k.1 < 18446744073709551616 ∧ k.2 < 18446744073709551616) Tryz.underlying28 (k := 2) (by kernel_rfl) (by decide) (fun q hq => rfl) (fun n cs y hl hy => by
  match cs, hl with
  | [c0, c1], _ =>
   obtain ⟨y0, y1, n', g0, g1⟩ := trod_array2 Tryz.underlying68 (by kernel_rfl) hy
   obtain ⟨z0, e0, _, w0⟩ := DataW.trod_int Tryz.underlying26 g0
   obtain ⟨n0, rfl, q0⟩ := nat_of_wf w0
   obtain ⟨z1, e1, _, w1⟩ := DataW.trod_int Tryz.underlying26 g1
   obtain ⟨n1, rfl, q1⟩ := nat_of_wf w1
   simp only [List.cons.injEq, and_true] at e0 e1
   subst e0 e1
   exact ⟨(n0, n1), rfl, q0, q1⟩) h
set_option maxRecDepth 100000 in
theorem open_walk {r : Reach} {b0 : Nat} {v : Value} {d : DataW H} {p : List MemPlace} (hv : Value.okWide Tryz.prog w r b0 30 v) (h : DataW.Trod enc Tryz.prog w base (fun _ => true) held 30 v d p) :
  ∃ (m : Wal) (wa : Option Addr) (wc : Nat) (la : Option Addr) (lc : Nat) (ja : Option Addr) (nj jc : Nat) (ka : Option Addr) (nk kc : Nat), v = walV wa wc la lc ja nj jc ka nk kc m ∧ WalL w wa wc la lc ja nj jc ka nk kc m := by
 obtain ⟨cs, rfl, hsz⟩ := okWide_struct Tryz.underlying30 hv
 have hc : Tryz.prog.cellsOf 30 = 6 := by kernel_rfl
 obtain ⟨fuel, hf⟩ := h
 have hl : cs.toList.length = 6 := by rw [Array.length_toList, hsz, hc]
 have ht : cs = cs.toList.toArray := rfl
 have hf' : DataW.trod enc Tryz.prog w base (fun _ => true) held fuel 30 cs.toList = some (d, p) := hf
 clear hf hv
 rw [ht]
 clear ht hsz
 generalize cs.toList = l at hl hf'
 obtain ⟨xs, k, -, -, -, hxl, hg⟩ := DataW.trod_struct Tryz.underlying30 hf'
 match l, hl, xs, hxl with
 | [c0, c1, c2, c3, c4, c5], _, [y0, y1, y2, y3], _ =>
  have g0 := hg 0 _ rfl
  have g1 := hg 1 _ rfl
  have g2 := hg 2 _ rfl
  have g3 := hg 3 _ rfl
  have ec0 : Tryz.prog.cellsOf 25 = 3 := by kernel_rfl
  have ec1 : Tryz.prog.cellsOf 26 = 1 := by kernel_rfl
  have ec2 : Tryz.prog.cellsOf 27 = 1 := by kernel_rfl
  have ec3 : Tryz.prog.cellsOf 28 = 1 := by kernel_rfl
  simp [ec0, ec1, ec2, ec3] at g0 g1 g2 g3
  obtain ⟨M, wa, wc, la, lc, eM, hm, hW⟩ := open_mem3 rfl g0
  obtain ⟨z, ez, _, wz⟩ := DataW.trod_int Tryz.underlying26 g1
  obtain ⟨hd, rfl, hh⟩ := nat_of_wf wz
  obtain ⟨ja, nj, jc, eJ⟩ := Joins.slice_form Tryz.underlying27 g2
  obtain ⟨ka, nk, kc, eK⟩ := Joins.slice_form Tryz.underlying28 g3
  simp only [List.cons.injEq, and_true] at eM ez eJ eK
  obtain ⟨rfl, rfl, rfl⟩ := eM
  subst ez eJ eK
  obtain ⟨js, j1, j2, j3⟩ := open_jobs (a := ja) (len := nj) (cap := jc) g2
  obtain ⟨ks, k1, k2, k3⟩ := open_keys (a := ka) (len := nk) (cap := kc) g3
  exact ⟨⟨M, hd, js, ks⟩, wa, wc, la, lc, ja, nj, jc, ka, nk, kc, rfl, ⟨hm, hh, hW, j2, j1, j3, k2, k1, k3⟩⟩
end
end Go.Proofs.YtipohagcppfgiaaGreat
