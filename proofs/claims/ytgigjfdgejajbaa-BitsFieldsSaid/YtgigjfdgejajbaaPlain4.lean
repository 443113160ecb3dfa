/- What is packed is split; what was set is there, whatever is set elsewhere. -/
import Derived.Test.YtgigjfdgejajbaaPack
namespace Go.Proofs.Ytgigjfdgejajbaa
open Go.RowKit
open Go.Proofs
set_option linter.unusedVariables false

theorem ap_symm (f g : FieldI) : ap f g = ap g f := by
  unfold ap
  rw [Bool.eq_iff_iff, decide_eq_true_iff, decide_eq_true_iff]
  omega
theorem apGo_done : ∀ (fs done : List FieldI), apGo done fs = true → ∀ f ∈ fs, ∀ g ∈ done, ap f g = true
  | [], _, _, f, hf, _, _ => by cases hf
  | h :: r, done, hh, f, hf, g, hg => by
    unfold apGo at hh
    rw [Bool.and_eq_true, Bool.and_eq_true] at hh
    rcases List.mem_cons.1 hf with rfl | hf
    · exact List.all_eq_true.1 hh.1.2 g hg
    · exact apGo_done r _ hh.2 f hf g (List.mem_append_left _ hg)
theorem get_apart (x v : Nat) (f g : FieldI) (hf : isF f.1 f.2 = true) (hg : isF g.1 g.2 = true) (hap : ap f g = true) (hx : x < 18446744073709551616) (hv : v < 2 ^ f.2.toNat) :
    Pl.get (Pl.set x f.1.toNat f.2.toNat v) g.1.toNat g.2.toNat = Pl.get x g.1.toNat g.2.toNat := by
  obtain ⟨i1, i2, i3, i4, i5⟩ := isF_in hf
  obtain ⟨k1, k2, k3, k4, k5⟩ := isF_in hg
  have h := of_decide_eq_true hap
  exact Pl.get_set_apart x _ _ v _ _ (by omega) hx hv (by omega)
theorem pack_split : ∀ (fs : List FieldI) (vs : List Nat) (done : List FieldI) (x p : Nat), x < 18446744073709551616 → vs.length = fs.length → apGo done fs = true → (∀ g ∈ done, isF g.1 g.2 = true) → packGo x (fs.zip vs) = some p →
    p < 18446744073709551616 ∧ gets p fs = vs ∧ ∀ g ∈ done, Pl.get p g.1.toNat g.2.toNat = Pl.get x g.1.toNat g.2.toNat
  | [], vs, done, x, p, hx, hl, hap, hd, h => by
    obtain rfl := List.eq_nil_of_length_eq_zero (show vs.length = 0 by simpa using hl)
    simp [packGo] at h
    subst h
    exact ⟨hx, rfl, fun _ _ => rfl⟩
  | f :: r, [], done, x, p, hx, hl, hap, hd, h => by simp at hl
  | f :: r, v :: vs, done, x, p, hx, hl, hap, hd, h => by
    have hdone := apGo_done (f :: r) done hap f (by simp)
    unfold apGo at hap
    rw [Bool.and_eq_true, Bool.and_eq_true] at hap
    rw [List.zip_cons_cons, packGo] at h
    by_cases hv : v < 2 ^ f.2.toNat
    · obtain ⟨i1, i2, i3, i4, i5⟩ := isF_in hap.1.1
      have h' : packGo (Pl.set x f.1.toNat f.2.toNat v) (r.zip vs) = some p := by simpa [hv] using h
      have hx2 : Pl.set x f.1.toNat f.2.toNat v < 18446744073709551616 := Pl.set_lt x _ _ v (by omega) hx hv
      have hd2 : ∀ g ∈ done ++ [f], isF g.1 g.2 = true := by
        intro g hg
        rw [List.mem_append] at hg
        rcases hg with hg | hg
        · exact hd g hg
        · simp at hg; subst hg; exact hap.1.1
      obtain ⟨h1, h2, h3⟩ := pack_split r vs (done ++ [f]) _ p hx2 (by simpa using hl) hap.2 hd2 h'
      refine ⟨h1, ?_, fun g hg => ?_⟩
      · have h4 := h3 f (by simp)
        rw [Pl.get_set x _ _ v (by omega) hx hv] at h4
        show Pl.get p f.1.toNat f.2.toNat :: gets p r = v :: vs
        rw [h4, h2]
      · rw [h3 g (List.mem_append_left _ hg)]
        exact get_apart x v f g hap.1.1 (hd g hg) (hdone g hg) hx hv
    · simp [hv] at h
theorem apGo_pair : ∀ (fs done : List FieldI), apGo done fs = true → ∀ (i j : Nat) (f g : FieldI), i < j → fs[i]? = some f → fs[j]? = some g → ap g f = true
  | [], _, _, i, j, f, g, _, h, _ => by simp at h
  | h :: r, done, hh, i, j, f, g, hij, hf, hg => by
    unfold apGo at hh
    rw [Bool.and_eq_true, Bool.and_eq_true] at hh
    cases j with
    | zero => omega
    | succ j =>
      have hg' : r[j]? = some g := by simpa using hg
      cases i with
      | zero =>
        have : h = f := by simpa using hf
        subst this
        exact apGo_done r _ hh.2 g (List.mem_of_getElem? hg') h (by simp)
      | succ i => exact apGo_pair r _ hh.2 i j f g (by omega) (by simpa using hf) hg'
theorem gets_set (fs : List FieldI) (x v i : Nat) (f : FieldI) (hap : apGo [] fs = true) (hi : fs[i]? = some f) (hx : x < 18446744073709551616) (hv : v < 2 ^ f.2.toNat) : gets (Pl.set x f.1.toNat f.2.toNat v) fs = (gets x fs).set i v := by
  have hisf := apGo_isF fs [] hap
  have hff := hisf f (List.mem_of_getElem? hi)
  obtain ⟨i1, i2, i3, i4, i5⟩ := isF_in hff
  apply List.ext_getElem?
  intro j
  rw [List.getElem?_set]
  have hlen : (gets x fs).length = fs.length := by unfold gets; simp
  unfold gets
  rw [List.getElem?_map]
  by_cases hij : i = j
  · subst hij
    rw [hi, if_pos rfl]
    have : i < fs.length := (List.getElem?_eq_some_iff.1 hi).1
    simp [this, Pl.get_set x _ _ v (show f.1.toNat + f.2.toNat ≤ 64 by omega) hx hv]
  · rw [if_neg hij, List.getElem?_map]
    cases hj : fs[j]? with
    | none => rfl
    | some g =>
      have hap2 : ap f g = true := by
        rcases Nat.lt_or_gt_of_ne hij with h | h
        · rw [ap_symm]; exact apGo_pair fs [] hap i j f g h hi hj
        · exact apGo_pair fs [] hap j i g f h hj hi
      simp [get_apart x v f g hff (hisf g (List.mem_of_getElem? hj)) hap2 hx hv]

theorem fcells_len (fs : List FieldI) : (fcells fs).length = fs.length * 2 := by
  unfold fcells
  induction fs with
  | nil => rfl
  | cons f r ih => rw [List.flatMap_cons, List.length_append, ih]; simp; omega
theorem fcells_take (fs : List FieldI) (m i : Nat) (v : Value) (h : (fcells (fs.take m))[i]? = some v) : (fcells fs)[i]? = some v := by
  have e : fcells fs = fcells (fs.take m) ++ fcells (fs.drop m) := by
    unfold fcells; rw [← List.flatMap_append, List.take_append_drop]
  rw [e, List.getElem?_append_left (List.getElem?_eq_some_iff.1 h).1, h]
theorem Leads.part {w : World} {a : Option Addr} {n cap m : Nat} {cs cs' : List Value} (h : Leads w a n cap cs) (hm : m ≤ n) (h0 : n = 0 → cs' = []) (hc : ∀ (i : Nat) (v : Value), cs'[i]? = some v → cs[i]? = some v) : Leads w a m cap cs' := by
  obtain ⟨h1, h2, ⟨h3, h4⟩ | ⟨b, off, h3, h4, h5⟩⟩ := h
  · exact ⟨by omega, h2, .inl ⟨by omega, h0 h3⟩⟩
  · exact ⟨by omega, h2, .inr ⟨b, off, h3, h4, fun i v hv => h5 i v (hc i v hv)⟩⟩
theorem Leads.fields {w : World} {a : Option Addr} {n cap m : Nat} {fs : List FieldI} (h : Leads w a n cap (fcells fs)) (hn : fs.length = n) (hm : m ≤ n) : Leads w a m cap (fcells (fs.take m)) :=
  h.part hm (fun h0 => by rw [List.eq_nil_of_length_eq_zero (hn.trans h0)]; simp [fcells]) (fun i v hv => fcells_take fs m i v hv)
theorem Leads.words {w : World} {a : Option Addr} {n cap m : Nat} {xs : List Nat} (h : Leads w a n cap (wcells xs)) (hn : xs.length = n) (hm : m ≤ n) : Leads w a m cap (wcells (xs.take m)) :=
  h.part hm (fun h0 => by rw [List.eq_nil_of_length_eq_zero (hn.trans h0)]; simp [wcells]) (fun i v hv => by
    unfold wcells at *
    rw [List.map_take, List.getElem?_take] at hv
    split at hv
    · exact hv
    · cases hv)
theorem one_fields (fs : List FieldI) : ∀ u ∈ fcells fs, u.oneCell' = true := by
  intro u hu
  unfold fcells at hu
  rw [List.mem_flatMap] at hu
  obtain ⟨f, _, hu⟩ := hu
  simp at hu
  rcases hu with rfl | rfl <;> rfl
theorem one_words (xs : List Nat) : ∀ u ∈ wcells xs, u.oneCell' = true := by
  intro u hu
  unfold wcells at hu
  rw [List.mem_map] at hu
  obtain ⟨f, _, rfl⟩ := hu
  rfl
theorem wcells_at (xs : List Nat) (j : Nat) (v : Value) (h : (wcells xs)[j]? = some v) : ∃ x : Int, v = .int .u64 x := by
  unfold wcells at h
  rw [List.getElem?_map] at h
  cases hx : xs[j]? with
  | none => rw [hx] at h; cases h
  | some x => rw [hx] at h; cases h; exact ⟨_, rfl⟩
theorem fcells_at (fs : List FieldI) (k : Nat) (h : k < fs.length) : ∃ x y : Int, (fcells fs)[k * 2]? = some (.int .i64 x) ∧ (fcells fs)[k * 2 + 1]? = some (.int .i64 y) := by
  have hs := List.getElem?_eq_getElem h
  exact ⟨_, _, flat_at _ 2 (fun _ => rfl) fs k 0 _ hs (by omega), flat_at _ 2 (fun _ => rfl) fs k 1 _ hs (by omega)⟩
theorem packV_ok (fs : List FieldI) (vs : List Nat) : (∃ p : Nat, packV fs vs = .tuple #[.int .u64 (p : Int), .int .i64 0] ∧ p < 18446744073709551616 ∧ apGo [] fs = true ∧ vs.length = fs.length ∧ gets p fs = vs) ∨
    ∃ E : Int, (2 ≤ E ∧ E ≤ 111) ∧ packV fs vs = .tuple #[.int .u64 0, .int .i64 E] := by
  unfold packV
  cases hap : apGo [] fs with
  | false => exact .inr ⟨110, by decide, rfl⟩
  | true =>
    rw [if_pos rfl]
    by_cases hl : vs.length = fs.length
    · rw [if_pos hl]
      cases hp : packGo 0 (fs.zip vs) with
      | none => exact .inr ⟨111, by decide, rfl⟩
      | some p =>
        obtain ⟨h1, h2, _⟩ := pack_split fs vs [] 0 p (by decide) hl hap (fun g hg => by cases hg) hp
        exact .inl ⟨p, rfl, h1, rfl, hl, h2⟩
    · rw [if_neg hl]
      exact .inr ⟨2, by decide, rfl⟩
end Go.Proofs.Ytgigjfdgejajbaa
