/- Scripts: words of records; put. -/
import Derived.Test.YtpehnahmdfoobaaDoorScriptPack
import Derived.Test.YtpehnahmdfoobaaDoorRegion3
namespace Go.Proofs.YtpehnahmdfoobaaDoor
open Go.RowKit
open Go.Proofs
set_option linter.unusedVariables false

theorem word_any (fs : List FieldI) (vs : List Nat) (p : Nat) (a : Option Addr) (n cap : Nat) (a' : Option Addr) (cap' : Nat) (w : World) (hfl : fs.length = n) (hvl : vs.length = n) (hl : Leads w a n cap (fcells fs)) (hf : fok fs) (hn : n ≤ 1000) (hl' : Leads w a' n cap' (wcells vs)) (hv : wok vs) (hap : apGo [] fs = true) (hp : packGo 0 (fs.zip vs) = some p) :
    Calls Tryd.prog 33 #[.slice a n cap, .slice a' n cap'] w (Ret (.int .u64 ((p : Nat) : Int)) w) := by
  have H := Pack_any fs vs a cap a' cap' w (by rw [hfl]; exact hl) hf (by omega) (by rw [hvl]; exact hl') hv
  have e : packV fs vs = .tuple #[.int .u64 ((p : Nat) : Int), .int .i64 0] := by
    unfold packV
    rw [hap, if_pos rfl, if_pos (by omega), hp]
  rw [e, hfl, hvl] at H
  have HH := hid H
  clear H e hl hl' hf hv hap hp hfl hvl
  go_enter Tryd.func33, Tryd.ntmps33
  go_wp2_with fail
  refine HH.out.mono ?_
  rintro e w2 ⟨rfl, hb2⟩
  go_wp2
  go_ret
  exact ⟨rfl, hb2⟩
theorem set_app (x a c v : Nat) (hx : x < 2 ^ a) (h : a + c ≤ 64) (hv : v < 2 ^ c) : Pl.set x a c v = x + v * 2 ^ a := by
  have hx64 : x < 18446744073709551616 := Nat.lt_of_lt_of_le hx (by have := Nat.pow_le_pow_right (n := 2) (by decide) (show a ≤ 64 by omega); simpa using this)
  have e : x &&& (18446744073709551615 - Pl.mask a c) = x := by
    apply Nat.eq_of_testBit_eq
    intro i
    rw [Nat.testBit_and, Pl.not_bit _ _ (Pl.mask_lt a c h), Pl.mask_bit]
    cases hb : x.testBit i with
    | false => rfl
    | true =>
      have hi : i < a := by
        refine Classical.byContradiction fun hn => ?_
        have := Nat.testBit_lt_two_pow (Nat.lt_of_lt_of_le hx (Nat.pow_le_pow_right (by decide) (show a ≤ i by omega)))
        rw [hb] at this
        cases this
      rw [decide_eq_true (by omega : i < 64), decide_eq_false (by omega : ¬ (a ≤ i ∧ i < a + c))]
      rfl
  unfold Pl.set
  rw [e, Nat.or_comm, Nat.mul_comm, ← Nat.two_pow_add_eq_or_of_lt hx]
  omega

def wdA (C P : Nat) : Nat := C + P * 256
def wdC (cpu : Nat) : Nat := 1 + cpu * 256
def wdR (cpu n : Nat) : Nat := 2 + cpu * 256 + n * 65536
theorem pack_A (C P : Nat) (hC : C < 8) (hP : P < 64) : packGo 0 ([((0 : Int), (3 : Int)), (8, 6)].zip [C, P]) = some (wdA C P) := by
  have e1 : Pl.set 0 0 3 C = C := by rw [set_app 0 0 3 C (by decide) (by decide) hC]; simp
  have e2 : Pl.set C 8 6 P = wdA C P := by rw [set_app C 8 6 P (by simp; omega) (by decide) hP]; rfl
  simp only [List.zip_cons_cons, List.zip_nil_right, packGo]
  rw [if_pos (show C < 2 ^ (3 : Int).toNat from hC), if_pos (show P < 2 ^ (6 : Int).toNat from hP)]
  show some (Pl.set (Pl.set 0 0 3 C) 8 6 P) = _
  rw [e1, e2]
theorem pack_C (cpu : Nat) (h : cpu < 8) : packGo 0 ([((0 : Int), (2 : Int)), (8, 3)].zip [1, cpu]) = some (wdC cpu) := by
  have e1 : Pl.set 0 0 2 1 = 1 := by rw [set_app 0 0 2 1 (by decide) (by decide) (by decide)]
  have e2 : Pl.set 1 8 3 cpu = wdC cpu := by rw [set_app 1 8 3 cpu (by decide) (by decide) h]; rfl
  simp only [List.zip_cons_cons, List.zip_nil_right, packGo]
  rw [if_pos (by decide), if_pos (show cpu < 2 ^ (3 : Int).toNat from h)]
  show some (Pl.set (Pl.set 0 0 2 1) 8 3 cpu) = _
  rw [e1, e2]
theorem pack_R (cpu n : Nat) (h : cpu < 8) (hn : n < 256) : packGo 0 ([((0 : Int), (2 : Int)), (8, 3), (16, 8)].zip [2, cpu, n]) = some (wdR cpu n) := by
  have e1 : Pl.set 0 0 2 2 = 2 := by rw [set_app 0 0 2 2 (by decide) (by decide) (by decide)]
  have e2 : Pl.set 2 8 3 cpu = 2 + cpu * 256 := by rw [set_app 2 8 3 cpu (by decide) (by decide) h]
  have e3 : Pl.set (2 + cpu * 256) 16 8 n = wdR cpu n := by rw [set_app _ 16 8 n (by simp; omega) (by decide) hn]; rfl
  simp only [List.zip_cons_cons, List.zip_nil_right, packGo]
  rw [if_pos (by decide), if_pos (show cpu < 2 ^ (3 : Int).toNat from h), if_pos (show n < 2 ^ (8 : Int).toNat from hn)]
  show some (Pl.set (Pl.set (Pl.set 0 0 2 2) 8 3 cpu) 16 8 n) = _
  rw [e1, e2, e3]

/-- Words that are gathered in a variable. -/
structure OutJ (D base : Nat) (out : List Nat) (v : Value) (w W : World) : Prop where
  blk : W.heap[D]? = some (.cells #[v] 30 (0, 0))
  row : W.ownsRow base 32 1 v out.length (wcells out)
  below : Below w.heap.size w W
  lo : w.heap.size ≤ base ∧ base ≤ D ∧ base ≤ W.heap.size
theorem OutJ.grow {D base : Nat} {out : List Nat} {v : Value} {w W W' : World} (h : OutJ D base out v w W) (hb : Below W.heap.size W W') : OutJ D base out v w W' :=
  ⟨keep_laid h.blk hb, own_grow h.row hb, step h.below hb, by have := h.lo; have := hb.size; omega⟩
/-- What a put leaves as it was. -/
structure PutK (D : Nat) (v v' : Value) (W W' : World) : Prop where
  size : W.heap.size ≤ W'.heap.size
  same : ∀ (k : Nat) (o : Obj), W.heap[k]? = some o → k ≠ D → v.ownBlock ≠ some k → W'.heap[k]? = some o
  moved : Moved W v v'
theorem OutJ.other {D base : Nat} {out : List Nat} {v : Value} {w W : World} (h : OutJ D base out v w W) {k : Nat} {cur : Array Value} {e : TypeId} (hk : W.heap[k]? = some (.cells cur e (0, 0))) (he : e ≠ 32) : v.ownBlock ≠ some k := fun hv => by
  obtain ⟨cur', hc⟩ := own_type h.row k hv
  exact type_ne hk hc he rfl
theorem PutK.typed {D base : Nat} {out : List Nat} {v v' : Value} {w W W' : World} (h : PutK D v v' W W') (hO : OutJ D base out v w W) {k : Nat} {cur : Array Value} {e : TypeId} (hk : W.heap[k]? = some (.cells cur e (0, 0))) (hD : k ≠ D) (he : e ≠ 32) : W'.heap[k]? = some (.cells cur e (0, 0)) :=
  h.same k _ hk hD (hO.other hk he)
theorem PutK.others {D base : Nat} {out : List Nat} {v v' : Value} {w W W' : World} (h : PutK D v v' W W') (hO : OutJ D base out v w W) : KeepsOthers W W' :=
  ⟨h.size, fun k o hk ho => h.same k o hk (by rintro rfl; rw [hO.blk] at hk; cases hk; cases ho) (fun e => by
    obtain ⟨cur, hc⟩ := own_type hO.row k e
    rw [hc] at hk
    cases hk
    cases ho)⟩

set_option maxRecDepth 100000 in
theorem put_any (D base : Nat) (out l : List Nat) (v : Value) (ad : Addr) (n c : Nat) (w W : World) (hO : OutJ D base out v w W) (hl : l.length = n) (h : ∀ (j : Nat) (u : Value), (wcells l)[j]? = some u → W.cell? (ad.add j) = some u) (hn : out.length + n ≤ 100000) :
    Calls Tryd.prog 34 #[.slice (some ad) n c, .pointer (some ⟨D, 0, none⟩)] W (fun e W' => (∃ v, e = .returned v) ∧ ∃ v', OutJ D base (out ++ l) v' w W' ∧ PutK D v v' W W') := by
  have hD := hO.blk
  have ho := hO.row
  obtain ⟨a1, c1, rfl, -⟩ := Leads.of_own ho
  have hc0 := cell_laid (i := 0) hD rfl
  have HD := hid hD
  have HO := hid ho
  have HOJ := hid hO
  have HC := hid h
  have HLN := hid hl
  clear hD ho hO h hl
  go_enter Tryd.func34, Tryd.ntmps34
  go_wp2_with (at_builtin; refine wp_appendM elemWords rfl _ _ rfl base _ _ _ rfl HO.out ad n c (wcells l) rfl ?q1 ?q2 ?q3 ?q4 ?q5 ?_)
  case q1 => rw [wcells, List.length_map, HLN.out, Nat.mul_one]
  case q2 => exact HC.out
  case q3 =>
    intro u hu
    obtain ⟨z, -, rfl⟩ := List.mem_map.1 hu
    rfl
  case q4 => omega
  case q5 => exact HOJ.out.lo.2.2
  intro v' W' ho' hg' hm'
  have hDW := keep_grown HD.out hg' (fun e => by
    obtain ⟨cur, hc⟩ := own_type HO.out D e
    exact type_ne hc HD.out (by decide) rfl)
  obtain ⟨a9, c9, rfl, -⟩ := Leads.of_own ho'
  have t8 := cell_laid (i := 0) hDW rfl
  have t9 := free_laid (i := 0) hDW
  have HF : Hid (OutJ D base (out ++ l) (.slice a9 (out.length + n) c9) w (W'.setCell ⟨D, 0, none⟩ (.slice a9 (out.length + n) c9))) := hid (by
    refine ⟨set_laid hDW _, ?_, ?_, ?_⟩
    · rw [List.length_append, HLN.out, show wcells (out ++ l) = wcells out ++ wcells l by simp [wcells]]
      exact own_keep ho' (fun k o hk hh => by
        obtain ⟨cur, hc⟩ := own_type ho' k hk
        exact other_laid hh (type_ne hc hDW (by decide)) _)
    · refine (HOJ.out.below.trans ((own_below HO.out hg' HOJ.out.lo.2.2).mono HOJ.out.lo.1)).setCell ?_ _
      show w.heap.size ≤ D
      have := HOJ.out.lo; omega
    · have := HOJ.out.lo
      have := hg'.size
      have hs : (W'.setCell ⟨D, 0, none⟩ (.slice a9 (out.length + n) c9)).heap.size = W'.heap.size := by simp [World.setCell]
      omega)
  have HK : Hid (PutK D (.slice a1 out.length c1) (.slice a9 (out.length + n) c9) W (W'.setCell ⟨D, 0, none⟩ (.slice a9 (out.length + n) c9))) := hid (by
    refine ⟨?_, fun k o hk hne hty => other_laid (keep_grown hk hg' hty) hne _, hm'⟩
    have := hg'.size
    have hs : (W'.setCell ⟨D, 0, none⟩ (.slice a9 (out.length + n) c9)).heap.size = W'.heap.size := by simp [World.setCell]
    omega)
  clear ho' hg' hm' hDW
  go_wp2
  go_returns
  exact ⟨⟨_, rfl⟩, _, HF.out, HK.out⟩
end Go.Proofs.YtpehnahmdfoobaaDoor
