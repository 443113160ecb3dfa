/- Layer 17, several texts in one. -/
import Derived.Test.YtipohagcppfgiaaLs13
import Derived.Test.YtipohagcppfgiaaLsPlain1
import Derived.Test.YtipohagcppfgiaaLs10
import Derived.Test.YtipohagcppfgiaaLsC
import Derived.Test.YtipohagcppfgiaaMemRefStep
import Derived.Laws.StructEq
import Derived.DeepKeys
import Derived.Lib.SliceRun
import Derived.Deep.RegionLaw
import Derived.Shelf.RegionOpenPlain
import Derived.WalkKit
import Derived.Lib.Walk
import Derived.Lib.AppendZeros
import Derived.Lib.AppendZerosOnto
import Derived.Lib.Overlaps
import Derived.Laws.Externs
import Derived.Laws.IdiomCopy
import Derived.Laws.NewBlocks
import Derived.Shelf.Spec.SlicesInsert
namespace Go.Proofs.Ytipohagcppfgiaa
open Go.RowKit
open Go.Proofs
set_option linter.unusedVariables false
attribute [local go_sem] Oper.semAt_some

theorem Tch.drop {R S : Nat} {V W : World} (h : Tch (fun k => k = R ∨ k = S) V W) (hS : V.heap.size ≤ S) : Tch (fun k => k = R) V W :=
  ⟨h.os, h.tape, h.output, h.size, fun k hk hn => h.block k hk (by rintro (e | e) <;> omega)⟩
theorem stepM_load_ok {M : Mem} {q : Nat} (hok : okM M = true) (hW : ∀ x ∈ M.W, x < 18446744073709551616) : okM (stepM M false ((q : Nat) : Int) 0).1 = true ∧ (∀ x ∈ (stepM M false ((q : Nat) : Int) 0).1.W, x < 18446744073709551616) ∧ (stepM M false ((q : Nat) : Int) 0).2.1 < 18446744073709551616 := by
  unfold stepM
  split
  · refine ⟨hok, hW, ?_⟩
    dsimp only
    rw [List.getD_eq_getElem?_getD]
    cases h : M.W[((q : Nat) : Int).toNat]? with
    | none => simp
    | some x => exact hW x (List.mem_of_getElem? h)
  · exact ⟨by unfold okM at hok ⊢; exact hok, hW, by show (0 : Nat) < _; decide⟩
theorem cmpS_ok {s : Sk} {n want : Nat} {ph : Int} (hs : s.Ok) (h0 : 0 ≤ ph) (h5 : ph ≤ 5) : (cmpS s n want ph).Ok ∧ 0 ≤ (cmpS s n want ph).ph ∧ (cmpS s n want ph).ph ≤ 5 := by
  unfold cmpS
  split
  · exact ⟨⟨by dsimp only; decide, hs.hash, hs.key, Nat.mod_lt _ (by decide), hs.node, hs.val⟩, by dsimp only; decide, by dsimp only; decide⟩
  · split
    · exact ⟨⟨by dsimp only; decide, hs.hash, hs.key, hs.link, hs.node, hs.val⟩, by dsimp only; decide, by dsimp only; decide⟩
    · exact ⟨⟨by dsimp only; omega, hs.hash, hs.key, hs.link, hs.node, hs.val⟩, h0, h5⟩
theorem seekE_ok {M : Mem} {s : Sk} (hok : okM M = true) (hW : ∀ x ∈ M.W, x < 18446744073709551616) (hs : s.Ok) (h0 : 0 ≤ s.ph) (h5 : s.ph ≤ 5) : okM (seekE M s).1 = true ∧ (∀ x ∈ (seekE M s).1.W, x < 18446744073709551616) ∧ (seekE M s).2.1.Ok ∧ 0 ≤ (seekE M s).2.1.ph ∧ (seekE M s).2.1.ph ≤ 5 := by
  by_cases h4 : 4 ≤ s.ph
  · have e : seekE M s = (M, s, false) := by unfold seekE; rw [if_pos h4]
    rw [e]
    exact ⟨hok, hW, hs, h0, h5⟩
  · obtain ⟨k1, k2, k3⟩ := stepM_load_ok (q := needS s s.ph.toNat) hok hW
    unfold seekE
    rw [if_neg h4]
    refine ⟨k1, k2, ?_⟩
    dsimp only
    split
    · rcases (show s.ph.toNat = 0 ∨ s.ph.toNat = 1 ∨ s.ph.toNat = 2 ∨ s.ph.toNat = 3 by omega) with e | e | e | e
      · rw [e]
        rw [e] at k3
        generalize (stepM M false ((needS s 0 : Nat) : Int) 0).2.1 = x at k3 ⊢
        have e0 : thenS s x 0 = ⟨if x = 0 then 4 else 1, s.hash, s.key, s.link, x, s.val, s.found⟩ := rfl
        rw [e0]
        by_cases hx : x = 0
        · rw [if_pos hx]; exact ⟨⟨by show -9223372036854775808 ≤ (4 : Int) ∧ (4 : Int) ≤ _; decide, hs.hash, hs.key, hs.link, k3, hs.val⟩, by show (0 : Int) ≤ 4; decide, by show (4 : Int) ≤ 5; decide⟩
        · rw [if_neg hx]; exact ⟨⟨by show -9223372036854775808 ≤ (1 : Int) ∧ (1 : Int) ≤ _; decide, hs.hash, hs.key, hs.link, k3, hs.val⟩, by show (0 : Int) ≤ 1; decide, by show (1 : Int) ≤ 5; decide⟩
      · rw [e]; exact cmpS_ok hs (by decide) (by decide)
      · rw [e]; exact cmpS_ok hs (by decide) (by decide)
      · rw [e]
        rw [e] at k3
        generalize (stepM M false ((needS s 3 : Nat) : Int) 0).2.1 = x at k3 ⊢
        have e0 : thenS s x 3 = ⟨4, s.hash, s.key, s.link, s.node, x, true⟩ := rfl
        rw [e0]
        exact ⟨⟨by show -9223372036854775808 ≤ (4 : Int) ∧ (4 : Int) ≤ _; decide, hs.hash, hs.key, hs.link, hs.node, k3⟩, by show (0 : Int) ≤ 4; decide, by show (4 : Int) ≤ 5; decide⟩
    · exact ⟨⟨by dsimp only; decide, hs.hash, hs.key, hs.link, hs.node, hs.val⟩, by dsimp only; decide, by dsimp only; decide⟩
/-- Who seeks, on its way. -/
structure Fnd (B R S Z : Nat) (V : World) (M : Mem) (s : Sk) (n g : Nat) (res : Mem × Sk × Nat) (W : World) : Prop where
  run : RunC B R M n W
  bs : W.heap[S]? = some (.cells (sk7 s) 41 (0, 0))
  bz : W.heap[Z]? = some (.cells #[.int .i64 0, .int .u64 0, .int .u64 0, .int .u64 0, .int .u64 0, .int .u64 0, .bool false] 41 (0, 0))
  tch : Tch (fun k => k = R ∨ k = S) V W
  ok : okM M = true
  wok : ∀ x ∈ M.W, x < 18446744073709551616
  sok : s.Ok
  p0 : 0 ≤ s.ph
  p5 : s.ph ≤ 5
  res : seekRun g M s n = res
  cnt : g + n = 4200
/-- What Find gives. -/
def findP (M : Mem) (head hash key : Nat) : Sk × Nat × Nat := if (nodesP M head).2 ≠ 0 then (zeroSk, 0, (nodesP M head).2) else ((findS hash key head (nodesP M head).1).1, (findS hash key head (nodesP M head).1).2, 0)
theorem nodesP_ok {M : Mem} {head : Nat} (h : (nodesP M head).2 = 0) : okM M = true ∧ nodesR M head = some (nodesP M head).1 := by
  unfold nodesP at h ⊢
  cases hok : okM M with
  | false => rw [hok, if_pos rfl] at h; cases h
  | true =>
    rw [hok, if_neg (by decide)] at h
    rw [if_neg (by decide)]
    cases hn : nodesR M head with
    | none => rw [hn] at h; cases h
    | some xs => exact ⟨rfl, rfl⟩
/-- Worlds in which two variables lie so. -/
structure RFd (R S : Nat) (cs cs' : Array Value) where
  w : World
  br : w.heap[R]? = some (.cells cs 121 (0, 0))
  bs : w.heap[S]? = some (.cells cs' 41 (0, 0))
end Go.Proofs.Ytipohagcppfgiaa
namespace Go.Proofs.Ytipohagcppfgiaa
open Go.RowKit
open Go.Proofs
set_option linter.unusedVariables false
attribute [local go_sem] Oper.semAt_some

def ncells (l : List Nat) : List Value := l.map fun x => .int .i64 ((x : Nat) : Int)
theorem ncell_at {l : List Nat} {k x : Nat} (h : l[k]? = some x) : (ncells l)[k]? = some (.int .i64 ((x : Nat) : Int)) := by unfold ncells; rw [List.getElem?_map, h]; rfl
theorem ncells_len (l : List Nat) : (ncells l).length = l.length := by simp [ncells]
theorem ncells_app (l r : List Nat) : ncells (l ++ r) = ncells l ++ ncells r := by simp [ncells]

end Go.Proofs.Ytipohagcppfgiaa
namespace Go.Proofs.Ytipohagcppfgiaa
open Go.RowKit
open Go.Proofs
set_option linter.unusedVariables false
attribute [local go_sem] Oper.semAt_some

theorem elemInts : Elem Try.prog 31 3 1 8 := Elem.mk' (z := .int .i64 0) Try.underlying31 (by kernel_rfl) rfl (by decide) (by decide)
/-- What the document's walk over nodes has made. -/
structure RNs (V : World) (X : Nat) (cs : Array Value) (met : List Nat) (pre : List Nd) (v6 v7 : Value) (W : World) : Prop where
  bx : W.heap[X]? = some (.cells cs 25 (0, 0))
  r6 : W.ownsRow V.heap.size 37 4 v6 pre.length (ndcells pre)
  r7 : W.ownsRow V.heap.size 3 1 v7 met.length (ncells met)
  below : Below V.heap.size V W
structure RNc (V : World) (X : Nat) (cs : Array Value) where
  w : World
  bx : w.heap[X]? = some (.cells cs 25 (0, 0))
  below : Below V.heap.size V w
section
variable {V W W' : World} {X : Nat} {cs : Array Value} {met : List Nat} {pre : List Nd} {v6 v7 v : Value}
theorem RNs.grow (h : RNs V X cs met pre v6 v7 W) (hb : Below W.heap.size W W') : RNs V X cs met pre v6 v7 W' :=
  ⟨keep_laid h.bx hb, own_grow h.r6 hb, own_grow h.r7 hb, h.below.trans (hb.mono h.below.size)⟩
theorem RNs.cls (h : RNs V X cs met pre v6 v7 W) : ∃ z : RNc V X cs, W = z.w := ⟨⟨W, h.bx, h.below⟩, rfl⟩
theorem own_ne {e e' : TypeId} {size base n : Nat} {xs : List Value} {cur : Array Value} (h : W.ownsRow base e size v n xs) (hX : W.heap[X]? = some (.cells cur e' (0, 0))) (hne : e ≠ e') : v.ownBlock ≠ some X := by
  intro hk
  obtain ⟨c, hc⟩ := own_type h X hk
  exact type_ne hc hX hne rfl
theorem own_own {e e' : TypeId} {size size' base base' n n' : Nat} {xs xs' : List Value} {u : Value} (h : W.ownsRow base e size v n xs) (h' : W.ownsRow base' e' size' u n' xs') (hne : e ≠ e') (hg : W.grownBy W' v.ownBlock) : W'.ownsRow base' e' size' u n' xs' := by
  refine own_keep h' fun k o hk ho => keep_grown ho hg fun hv => ?_
  obtain ⟨c, hc⟩ := own_type h k hv
  obtain ⟨c', hc'⟩ := own_type h' k hk
  exact type_ne hc hc' hne rfl
theorem RNs.app7 {q : Nat} {v7' : Value} (h : RNs V X cs met pre v6 v7 W) (ho : W'.ownsRow V.heap.size 3 1 v7' (met.length + 1) (ncells met ++ [.int .i64 ((q : Nat) : Int)])) (hg : W.grownBy W' v7.ownBlock) : RNs V X cs (met ++ [q]) pre v6 v7' W' := by
  refine ⟨keep_grown h.bx hg (own_ne h.r7 h.bx (by decide)), own_own h.r7 h.r6 (by decide) hg, ?_, h.below.trans (own_below h.r7 hg h.below.size)⟩
  rw [List.length_append, ncells_app]
  exact ho
theorem RNs.app6 {t : Nd} {v6' : Value} (h : RNs V X cs met pre v6 v7 W) (ho : W'.ownsRow V.heap.size 37 4 v6' (pre.length + 1) (ndcells pre ++ nd4 t)) (hg : W.grownBy W' v6.ownBlock) : RNs V X cs met (pre ++ [t]) v6' v7 W' := by
  refine ⟨keep_grown h.bx hg (own_ne h.r6 h.bx (by decide)), ?_, own_own h.r6 h.r7 (by decide) hg, h.below.trans (own_below h.r6 hg h.below.size)⟩
  rw [List.length_append, ndcells_snoc]
  exact ho
end
def GivesRN (M : Mem) (head : Nat) (V : World) (e : Ending) (W : World) : Prop := ∃ v b, e = .returned (.tuple #[v, .bool b]) ∧ Below V.heap.size V W ∧ (nodesR M head = none → b = false ∧ v = .slice none 0 0) ∧ (∀ xs, nodesR M head = some xs → b = true ∧ W.ownsRow V.heap.size 37 4 v xs.length (ndcells xs))
def endR : Option (List Nd) → Option (List Nd)
  | none => none
  | some xs => if incr xs = true then some xs else none
theorem nodesR_eq (M : Mem) (head : Nat) : nodesR M head = endR (nodesW M head) := by unfold nodesR endR; rfl
theorem endR_bad {M : Mem} {f place : Nat} {met : List Nat} {out : List Nd} (h : incr out = false) : endR (goW M f place met out) = none := by
  cases hg : goW M f place met out with
  | none => rfl
  | some xs =>
    show (if incr xs = true then some xs else none) = none
    have hp := goW_prefix _ _ _ _ _ hg
    cases hi : incr xs with
    | false => rfl
    | true => rw [incr_prefix hp hi] at h; cases h

end Go.Proofs.Ytipohagcppfgiaa
namespace Go.Proofs.Ytipohagcppfgiaa
open Go.RowKit
open Go.Proofs
set_option linter.unusedVariables false
attribute [local go_sem] Oper.semAt_some

theorem four_snoc (p j : Nat) (h : j < 4) : ([posL p 0, posL p 1, posL p 2, posL p 3] : List Nat).take (j + 1) = ([posL p 0, posL p 1, posL p 2, posL p 3] : List Nat).take j ++ [posL p j] := by
  match j, h with
  | 0, _ => rfl
  | 1, _ => rfl
  | 2, _ => rfl
  | 3, _ => rfl
/-- Does a node fit? -/
def fitsP (M : Mem) (head : Nat) (xs : List Nd) (t : Nd) : Bool := decide (t.1 ≠ 0) && (List.range' 0 4).all fun k => liveN M (posL t.1 k) && !decide (posL t.1 k ∈ wordsL head xs)
/-- Between two rounds of the gathering of words. -/
structure Ft (V : World) (X Y : Nat) (csx csy : Array Value) (tk : List Nat) (v9 : Value) (W : World) : Prop where
  bx : W.heap[X]? = some (.cells csx 25 (0, 0))
  by_ : W.heap[Y]? = some (.cells csy 37 (0, 0))
  r9 : W.ownsRow V.heap.size 3 1 v9 tk.length (ncells tk)
  below : Below V.heap.size V W
theorem Ft.grow {V W W' : World} {X Y : Nat} {csx csy : Array Value} {tk : List Nat} {v9 : Value} (h : Ft V X Y csx csy tk v9 W) (hb : Below W.heap.size W W') : Ft V X Y csx csy tk v9 W' :=
  ⟨keep_laid h.bx hb, keep_laid h.by_ hb, own_grow h.r9 hb, h.below.trans (hb.mono h.below.size)⟩
theorem Ft.app {V W W' : World} {X Y q : Nat} {csx csy : Array Value} {tk : List Nat} {v9 v9' : Value} (h : Ft V X Y csx csy tk v9 W) (ho : W'.ownsRow V.heap.size 3 1 v9' (tk.length + 1) (ncells tk ++ [.int .i64 ((q : Nat) : Int)])) (hg : W.grownBy W' v9.ownBlock) : Ft V X Y csx csy (tk ++ [q]) v9' W' := by
  refine ⟨keep_grown h.bx hg (own_ne h.r9 h.bx (by decide)), keep_grown h.by_ hg (own_ne h.r9 h.by_ (by decide)), ?_, h.below.trans (own_below h.r9 hg h.below.size)⟩
  rw [List.length_append, ncells_app]
  exact ho
end Go.Proofs.Ytipohagcppfgiaa
namespace Go.Proofs.Ytipohagcppfgiaa
open Go.RowKit
open Go.Proofs
set_option linter.unusedVariables false
attribute [local go_sem] Oper.semAt_some

/-- Who edits, on its way. -/
structure Edl (B R E Z : Nat) (V : World) (M : Mem) (s : Ede) (n g : Nat) (res : Mem × Ede × Nat) (W : World) : Prop where
  run : RunC B R M n W
  be : W.heap[E]? = some (.cells (ed8 s) 39 (0, 0))
  bz : W.heap[Z]? = some (.cells #[.slice none 0 0, .slice none 0 0, .bool false] 25 (0, 0))
  below : Below V.heap.size V W
  ok : okM M = true
  wok : ∀ x ∈ M.W, x < 18446744073709551616
  sok : s.Ok
  p0 : 0 ≤ s.ph
  p7 : s.ph ≤ 7
  res : editRun g M s n = res
  fuel : 6 ≤ g + s.ph
  cnt : g + n ≤ 5000
theorem Edl.grow {B R E Z : Nat} {V : World} {M : Mem} {s : Ede} {n g : Nat} {res : Mem × Ede × Nat} {W W' : World} (h : Edl B R E Z V M s n g res W) (hb : Below W.heap.size W W') : Edl B R E Z V M s n g res W' :=
  ⟨h.run.grow hb, keep_laid h.be hb, keep_laid h.bz hb, h.below.trans (hb.mono h.below.size), h.ok, h.wok, h.sok, h.p0, h.p7, h.res, h.fuel, h.cnt⟩
theorem editRun_step {f : Nat} {M M' : Mem} {s s' : Ede} {b : Bool} {n : Nat} (h : ¬ 6 ≤ s.ph) (e : editE M s = (M', s', b)) : editRun (f + 1) M s n = editRun f M' s' (n + 1) := by
  conv => lhs; unfold editRun
  rw [if_neg h, e]
/-- What Insert gives. -/
def insP (M : Mem) (head : Nat) (t : Nd) : Mem × Nat × Nat := if (nodesP M head).2 ≠ 0 then (zeroM, 0, (nodesP M head).2) else
  if fitsP M head (nodesP M head).1 t = false then (zeroM, 0, 2) else
  if (findS t.2.2.2 t.2.1 head (nodesP M head).1).1.found = true then (zeroM, 0, 5) else
  ((editRun 8 M (putK (findS t.2.2.2 t.2.1 head (nodesP M head).1).1.link t (findS t.2.2.2 t.2.1 head (nodesP M head).1).1.node) (findS t.2.2.2 t.2.1 head (nodesP M head).1).2).1,
   (editRun 8 M (putK (findS t.2.2.2 t.2.1 head (nodesP M head).1).1.link t (findS t.2.2.2 t.2.1 head (nodesP M head).1).1.node) (findS t.2.2.2 t.2.1 head (nodesP M head).1).2).2.2, 0)
/-- What Remove gives. -/
def remP (M : Mem) (head hash key : Nat) : Mem × Nat × Nat := if (nodesP M head).2 ≠ 0 then (zeroM, 0, (nodesP M head).2) else
  if (findS hash key head (nodesP M head).1).1.found = false then (zeroM, 0, 4) else
  ((editRun 8 M (cutK (findS hash key head (nodesP M head).1).1.link (findS hash key head (nodesP M head).1).1.node) (findS hash key head (nodesP M head).1).2).1, (findS hash key head (nodesP M head).1).1.node, 0)
def GivesI (R : Mem × Nat × Nat) (w : World) (e : Ending) (W : World) : Prop := ∃ wa wc la lc, e = .returned (.tuple #[memV wa wc la lc R.1, .int .i64 ((R.2.1 : Nat) : Int), .int .i64 ((R.2.2 : Nat) : Int)]) ∧ MemO w.heap.size wa wc la lc R.1 W ∧ Below w.heap.size w W
def GivesU (R : Mem × Nat × Nat) (w : World) (e : Ending) (W : World) : Prop := ∃ wa wc la lc, e = .returned (.tuple #[memV wa wc la lc R.1, .int .u64 ((R.2.1 : Nat) : Int), .int .i64 ((R.2.2 : Nat) : Int)]) ∧ MemO w.heap.size wa wc la lc R.1 W ∧ Below w.heap.size w W
/-- A world in which a variable lies so. -/
structure RRn (R S : Nat) (cs cs' : Array Value) where
  w : World
  br : w.heap[R]? = some (.cells cs 121 (0, 0))
  bs : w.heap[S]? = some (.cells cs' 41 (0, 0))
theorem findS_ok {hash key : Nat} (hha : hash < 18446744073709551616) (hke : key < 18446744073709551616) : ∀ (link : Nat) (xs : List Nd), link < 18446744073709551616 → (∀ x ∈ xs, x.1 + 2 < 18446744073709551616 ∧ x.2.2.1 < 18446744073709551616) → (findS hash key link xs).1.Ok
  | link, [], hl, hx => ⟨by show -9223372036854775808 ≤ (4 : Int) ∧ (4 : Int) ≤ _; decide, hha, hke, hl, by show 0 < _; decide, by show 0 < _; decide⟩
  | link, x :: r, hl, hx => by
    have hx0 := hx x (List.mem_cons_self ..)
    have hr := fun y hy => hx y (List.mem_cons_of_mem _ hy)
    unfold findS
    split
    · exact findS_ok hha hke _ r (by omega) hr
    · split
      · exact ⟨by show -9223372036854775808 ≤ (4 : Int) ∧ (4 : Int) ≤ _; decide, hha, hke, hl, by show x.1 < _; omega, by show 0 < _; decide⟩
      · split
        · exact findS_ok hha hke _ r (by omega) hr
        · split
          · exact ⟨by show -9223372036854775808 ≤ (4 : Int) ∧ (4 : Int) ≤ _; decide, hha, hke, hl, by show x.1 < _; omega, by show 0 < _; decide⟩
          · exact ⟨by show -9223372036854775808 ≤ (4 : Int) ∧ (4 : Int) ≤ _; decide, hha, hke, hl, by show x.1 < _; omega, hx0.2⟩
theorem chain_facts {M : Mem} (hok : okM M = true) (hW : ∀ x ∈ M.W, x < 18446744073709551616) : ∀ (p : Nat) (xs : List Nd), ChainP M p xs → ∀ x ∈ xs, x.1 < 4096 ∧ x.Ok
  | p, [], h, x, hx => by cases hx
  | p, y :: r, h, x, hx => by
    obtain ⟨h1, h2, h3, h4⟩ := h
    rcases List.mem_cons.1 hx with rfl | hx
    · have := live_small hok (h3 0 (by decide))
      rw [h1]
      exact ⟨this.1, by show p < _; omega, wAt_lt hW _ _, wAt_lt hW _ _, wAt_lt hW _ _⟩
    · exact chain_facts hok hW _ r h4 x hx
theorem nodesP_nodes {M : Mem} {head : Nat} (hW : ∀ x ∈ M.W, x < 18446744073709551616) (h : (nodesP M head).2 = 0) : ∀ x ∈ (nodesP M head).1, x.1 < 4096 ∧ x.Ok := by
  obtain ⟨h1, h2⟩ := nodesP_ok h
  obtain ⟨h3, -⟩ := nodesR_some h2
  exact chain_facts h1 hW _ _ (nodesW_chain h3).2
end Go.Proofs.Ytipohagcppfgiaa
namespace Go.Proofs.Ytipohagcppfgiaa
open Go.RowKit
open Go.Proofs
set_option linter.unusedVariables false
attribute [local go_sem] Oper.semAt_some
theorem wf_u64 {x : Nat} (h : x < 18446744073709551616) : (Lit.int .u64 ((x : Nat) : Int)).wf = true := by
  simp [Lit.wf, IntKind.min, IntKind.max, IntKind.signed, IntKind.bits]
  omega
theorem wf_i64 {x : Int} (h : -9223372036854775808 ≤ x ∧ x ≤ 9223372036854775807) : (Lit.int .i64 x).wf = true := by
  simp [Lit.wf, IntKind.min, IntKind.max, IntKind.signed, IntKind.bits]
  omega
theorem key_u64 (d : Nat) {x : Nat} (h : x < 18446744073709551616) : Try.prog.keyLits (d + 1) 26 [.int .u64 ((x : Nat) : Int)] = some [.int .u64 ((x : Nat) : Int)] := by
  simp [Program.keyLits, Try.underlying26, wf_u64 h]
theorem key_i64 (d : Nat) {x : Int} (h : -9223372036854775808 ≤ x ∧ x ≤ 9223372036854775807) : Try.prog.keyLits (d + 1) 3 [.int .i64 x] = some [.int .i64 x] := by
  simp [Program.keyLits, Try.underlying3, wf_i64 h]
theorem key_bool (d : Nat) (b : Bool) : Try.prog.keyLits (d + 1) 4 [.bool b] = some [.bool b] := by
  simp [Program.keyLits, Try.underlying4]
theorem key_nd {x0 x1 x2 x3 : Nat} (h : x0 < 18446744073709551616 ∧ x1 < 18446744073709551616 ∧ x2 < 18446744073709551616 ∧ x3 < 18446744073709551616) : Try.prog.keyLits 2 37 [.int .u64 ((x0 : Nat) : Int), .int .u64 ((x1 : Nat) : Int), .int .u64 ((x2 : Nat) : Int), .int .u64 ((x3 : Nat) : Int)] = some [.int .u64 ((x0 : Nat) : Int), .int .u64 ((x1 : Nat) : Int), .int .u64 ((x2 : Nat) : Int), .int .u64 ((x3 : Nat) : Int)] := by
  have hc0 : Try.prog.cellsOf 26 = 1 := by kernel_rfl
  have hc1 : Try.prog.cellsOf 37 = 4 := by kernel_rfl
  unfold Program.keyLits
  simp only [Try.underlying37]
  simp [hc0, hc1, key_u64 0 h.1, key_u64 0 h.2.1, key_u64 0 h.2.2.1, key_u64 0 h.2.2.2]
set_option maxRecDepth 100000 in
theorem nd_eq (x0 x1 x2 x3 y0 y1 y2 y3 : Nat) (hx : x0 < 18446744073709551616 ∧ x1 < 18446744073709551616 ∧ x2 < 18446744073709551616 ∧ x3 < 18446744073709551616) (hy : y0 < 18446744073709551616 ∧ y1 < 18446744073709551616 ∧ y2 < 18446744073709551616 ∧ y3 < 18446744073709551616) (w : World) :
    (Op.equalIn 10000 37 (.agg #[.int .u64 ((x0 : Nat) : Int), .int .u64 ((x1 : Nat) : Int), .int .u64 ((x2 : Nat) : Int), .int .u64 ((x3 : Nat) : Int)]) (.agg #[.int .u64 ((y0 : Nat) : Int), .int .u64 ((y1 : Nat) : Int), .int .u64 ((y2 : Nat) : Int), .int .u64 ((y3 : Nat) : Int)])).run Try.prog w = .ok (decide ((x0, x1, x2, x3) = (y0, y1, y2, y3))) w := by
  have h1 := key_nd hx
  have h2 := key_nd hy
  obtain ⟨r, hr, hiff⟩ := run_equalIn_deep (P := Try.prog) 9998 2 37 (by kernel_rfl) w 2 2 (.agg #[.int .u64 ((x0 : Nat) : Int), .int .u64 ((x1 : Nat) : Int), .int .u64 ((x2 : Nat) : Int), .int .u64 ((x3 : Nat) : Int)]) (.agg #[.int .u64 ((y0 : Nat) : Int), .int .u64 ((y1 : Nat) : Int), .int .u64 ((y2 : Nat) : Int), .int .u64 ((y3 : Nat) : Int)]) _ _ (by simp [Value.formed, Try.underlying37]; exact (by kernel_rfl : 4 = Try.prog.cellsOf 37)) (by simp [Value.formed, Try.underlying37]; exact (by kernel_rfl : 4 = Try.prog.cellsOf 37)) h1 h2
  rw [hr]
  congr 1
  rw [Bool.eq_iff_iff, hiff]
  simp
  omega
theorem key_sk {s : Sk} (h : s.Ok) : Try.prog.keyLits 2 41 [.int .i64 s.ph, .int .u64 ((s.hash : Nat) : Int), .int .u64 ((s.key : Nat) : Int), .int .u64 ((s.link : Nat) : Int), .int .u64 ((s.node : Nat) : Int), .int .u64 ((s.val : Nat) : Int), .bool s.found] = some [.int .i64 s.ph, .int .u64 ((s.hash : Nat) : Int), .int .u64 ((s.key : Nat) : Int), .int .u64 ((s.link : Nat) : Int), .int .u64 ((s.node : Nat) : Int), .int .u64 ((s.val : Nat) : Int), .bool s.found] := by
  have hc0 : Try.prog.cellsOf 26 = 1 := by kernel_rfl
  have hc1 : Try.prog.cellsOf 3 = 1 := by kernel_rfl
  have hc2 : Try.prog.cellsOf 4 = 1 := by kernel_rfl
  have hc3 : Try.prog.cellsOf 41 = 7 := by kernel_rfl
  unfold Program.keyLits
  simp only [Try.underlying41]
  simp [hc0, hc1, hc2, hc3, key_i64 0 h.ph, key_bool 0, key_u64 0 h.hash, key_u64 0 h.key, key_u64 0 h.link, key_u64 0 h.node, key_u64 0 h.val]
theorem Sk.ext_iff' (s t : Sk) : s = t ↔ s.ph = t.ph ∧ s.hash = t.hash ∧ s.key = t.key ∧ s.link = t.link ∧ s.node = t.node ∧ s.val = t.val ∧ s.found = t.found := by
  cases s; cases t; simp
instance : DecidableEq Sk := fun s t => decidable_of_iff _ (Sk.ext_iff' s t).symm
set_option maxRecDepth 100000 in
theorem sk_eq (s t : Sk) (hs : s.Ok) (ht : t.Ok) (w : World) :
    (Op.equalIn 10000 41 (.agg #[.int .i64 s.ph, .int .u64 ((s.hash : Nat) : Int), .int .u64 ((s.key : Nat) : Int), .int .u64 ((s.link : Nat) : Int), .int .u64 ((s.node : Nat) : Int), .int .u64 ((s.val : Nat) : Int), .bool s.found]) (.agg #[.int .i64 t.ph, .int .u64 ((t.hash : Nat) : Int), .int .u64 ((t.key : Nat) : Int), .int .u64 ((t.link : Nat) : Int), .int .u64 ((t.node : Nat) : Int), .int .u64 ((t.val : Nat) : Int), .bool t.found])).run Try.prog w = .ok (decide (s = t)) w := by
  have h1 := key_sk hs
  have h2 := key_sk ht
  obtain ⟨r, hr, hiff⟩ := run_equalIn_deep (P := Try.prog) 9998 2 41 (by kernel_rfl) w 2 2 (.agg #[.int .i64 s.ph, .int .u64 ((s.hash : Nat) : Int), .int .u64 ((s.key : Nat) : Int), .int .u64 ((s.link : Nat) : Int), .int .u64 ((s.node : Nat) : Int), .int .u64 ((s.val : Nat) : Int), .bool s.found]) (.agg #[.int .i64 t.ph, .int .u64 ((t.hash : Nat) : Int), .int .u64 ((t.key : Nat) : Int), .int .u64 ((t.link : Nat) : Int), .int .u64 ((t.node : Nat) : Int), .int .u64 ((t.val : Nat) : Int), .bool t.found]) _ _ (by simp [Value.formed, Try.underlying41]; exact (by kernel_rfl : 7 = Try.prog.cellsOf 41)) (by simp [Value.formed, Try.underlying41]; exact (by kernel_rfl : 7 = Try.prog.cellsOf 41)) h1 h2
  rw [hr]
  congr 1
  rw [Bool.eq_iff_iff, hiff, decide_eq_true_iff, Sk.ext_iff']
  simp
  intro _
  constructor
  · rintro ⟨a, b, c, d, e, f⟩; exact ⟨by omega, by omega, by omega, by omega, by omega, f⟩
  · rintro ⟨a, b, c, d, e, f⟩; exact ⟨by omega, by omega, by omega, by omega, by omega, f⟩
theorem key_ed {s : Ede} (h : s.Ok) : Try.prog.keyLits 3 39 [.int .i64 s.ph, .bool s.cuts, .int .u64 ((s.link : Nat) : Int), .int .u64 ((s.at_ : Nat) : Int), .int .u64 ((s.key : Nat) : Int), .int .u64 ((s.val : Nat) : Int), .int .u64 ((s.hash : Nat) : Int), .int .u64 ((s.next : Nat) : Int)] = some [.int .i64 s.ph, .bool s.cuts, .int .u64 ((s.link : Nat) : Int), .int .u64 ((s.at_ : Nat) : Int), .int .u64 ((s.key : Nat) : Int), .int .u64 ((s.val : Nat) : Int), .int .u64 ((s.hash : Nat) : Int), .int .u64 ((s.next : Nat) : Int)] := by
  have hc0 : Try.prog.cellsOf 26 = 1 := by kernel_rfl
  have hc1 : Try.prog.cellsOf 3 = 1 := by kernel_rfl
  have hc2 : Try.prog.cellsOf 4 = 1 := by kernel_rfl
  have hc3 : Try.prog.cellsOf 37 = 4 := by kernel_rfl
  have hc4 : Try.prog.cellsOf 39 = 8 := by kernel_rfl
  have ht := key_nd (x0 := s.at_) (x1 := s.key) (x2 := s.val) (x3 := s.hash) ⟨h.at_, h.key, h.val, h.hash⟩
  unfold Program.keyLits
  simp only [Try.underlying39]
  simp [hc0, hc1, hc2, hc3, hc4, key_i64 1 h.ph, key_bool 1, key_u64 1 h.link, key_u64 1 h.next, ht]
theorem Ede.ext_iff' (s t : Ede) : s = t ↔ s.ph = t.ph ∧ s.cuts = t.cuts ∧ s.link = t.link ∧ s.at_ = t.at_ ∧ s.key = t.key ∧ s.val = t.val ∧ s.hash = t.hash ∧ s.next = t.next := by
  cases s; cases t; simp
instance : DecidableEq Ede := fun s t => decidable_of_iff _ (Ede.ext_iff' s t).symm
set_option maxRecDepth 100000 in
theorem ed_eq (s t : Ede) (hs : s.Ok) (ht : t.Ok) (w : World) :
    (Op.equalIn 10000 39 (.agg #[.int .i64 s.ph, .bool s.cuts, .int .u64 ((s.link : Nat) : Int), .int .u64 ((s.at_ : Nat) : Int), .int .u64 ((s.key : Nat) : Int), .int .u64 ((s.val : Nat) : Int), .int .u64 ((s.hash : Nat) : Int), .int .u64 ((s.next : Nat) : Int)]) (.agg #[.int .i64 t.ph, .bool t.cuts, .int .u64 ((t.link : Nat) : Int), .int .u64 ((t.at_ : Nat) : Int), .int .u64 ((t.key : Nat) : Int), .int .u64 ((t.val : Nat) : Int), .int .u64 ((t.hash : Nat) : Int), .int .u64 ((t.next : Nat) : Int)])).run Try.prog w = .ok (decide (s = t)) w := by
  have h1 := key_ed hs
  have h2 := key_ed ht
  obtain ⟨r, hr, hiff⟩ := run_equalIn_deep (P := Try.prog) 9997 3 39 (by kernel_rfl) w 3 3 (.agg #[.int .i64 s.ph, .bool s.cuts, .int .u64 ((s.link : Nat) : Int), .int .u64 ((s.at_ : Nat) : Int), .int .u64 ((s.key : Nat) : Int), .int .u64 ((s.val : Nat) : Int), .int .u64 ((s.hash : Nat) : Int), .int .u64 ((s.next : Nat) : Int)]) (.agg #[.int .i64 t.ph, .bool t.cuts, .int .u64 ((t.link : Nat) : Int), .int .u64 ((t.at_ : Nat) : Int), .int .u64 ((t.key : Nat) : Int), .int .u64 ((t.val : Nat) : Int), .int .u64 ((t.hash : Nat) : Int), .int .u64 ((t.next : Nat) : Int)]) _ _ (by simp [Value.formed, Try.underlying39]; exact (by kernel_rfl : 8 = Try.prog.cellsOf 39)) (by simp [Value.formed, Try.underlying39]; exact (by kernel_rfl : 8 = Try.prog.cellsOf 39)) h1 h2
  rw [hr]
  congr 1
  rw [Bool.eq_iff_iff, hiff, decide_eq_true_iff, Ede.ext_iff']
  simp
  omega
/-- A node of a row. -/
theorem Leads.nd {w : World} {a : Option Addr} {n cap k : Nat} {xs : List Nd} {x : Nd} (h : Leads w a n cap (ndcells xs)) (hk : k < n) (hx : xs[k]? = some x) : ∃ b off, a = some ⟨b, off, none⟩ ∧ b < w.heap.size ∧ ∀ w', Below w.heap.size w w' → w'.cell? ⟨b, off + k * 4, none⟩ = some (.int .u64 ((x.1 : Nat) : Int)) ∧ w'.cell? ⟨b, off + k * 4 + 1, none⟩ = some (.int .u64 ((x.2.1 : Nat) : Int)) ∧ w'.cell? ⟨b, off + k * 4 + 2, none⟩ = some (.int .u64 ((x.2.2.1 : Nat) : Int)) ∧ w'.cell? ⟨b, off + k * 4 + 3, none⟩ = some (.int .u64 ((x.2.2.2 : Nat) : Int)) := by
  obtain ⟨_, _, ⟨q, _⟩ | ⟨b, off, rfl, hb, hc⟩⟩ := h
  · omega
  · have hat : ∀ i, i < 4 → (ndcells xs)[k * 4 + i]? = (nd4 x)[i]? := fun i hi => flat_at nd4 4 (fun _ => rfl) xs k i _ hx hi
    refine ⟨b, off, rfl, hb, fun w' hw => ⟨?_, ?_, ?_, ?_⟩⟩
    · exact (hw.cell (p := ⟨b, off + k * 4, none⟩) hb).trans (hc (k * 4 + 0) _ (hat 0 (by decide)))
    · exact (hw.cell (p := ⟨b, off + k * 4 + 1, none⟩) hb).trans (hc (k * 4 + 1) _ (hat 1 (by decide)))
    · exact (hw.cell (p := ⟨b, off + k * 4 + 2, none⟩) hb).trans (hc (k * 4 + 2) _ (hat 2 (by decide)))
    · exact (hw.cell (p := ⟨b, off + k * 4 + 3, none⟩) hb).trans (hc (k * 4 + 3) _ (hat 3 (by decide)))
def NdsOk (xs : List Nd) : Prop := ∀ t ∈ xs, t.1 < 18446744073709551616 ∧ t.2.1 < 18446744073709551616 ∧ t.2.2.1 < 18446744073709551616 ∧ t.2.2.2 < 18446744073709551616
set_option maxRecDepth 100000 in
set_option maxHeartbeats 2000000 in
theorem EqN_any (xs ys : List Nd) (a a' : Option Addr) (n n' cap cap' : Nat) (w : World) (hx : xs.length = n) (hy : ys.length = n') (hxb : NdsOk xs) (hyb : NdsOk ys) (h : Leads w a n cap (ndcells xs)) (h' : Leads w a' n' cap' (ndcells ys)) :
    Calls Try.prog 11 #[.slice a n cap, .slice a' n' cap'] w (Ret (.bool (decide (xs = ys))) w) := by
  have hn := h.len.1
  have hn' := h'.len.1
  by_cases hnn : n = n'
  · subst hnn
    have H := hid h
    have H' := hid h'
    have HX := hid hx
    have HY := hid hy
    have HXB := hid hxb
    have HYB := hid hyb
    clear h h' hx hy hxb hyb
    go_enter Try.func11, Try.ntmps11
    go_wp2
    go_loopg [13] n (fun g  i wr => ∃ k : Nat, g + k = n ∧ i = .int .i64 (k : Nat) ∧ Hid (xs.take k = ys.take k) ∧ Hid (Below w.heap.size w wr))
    case atStart => exact ⟨0, rfl, rfl, hid rfl, hid (Below.refl _ _)⟩
    case round =>
      obtain ⟨k, hk, rfl, hs, hb⟩ := hrel
      have HK := hid hk
      clear hk
      by_cases hlt : k < n
      · obtain ⟨⟨x0, x1, x2, x3⟩, hxk⟩ : ∃ x, xs[k]? = some x := ⟨_, List.getElem?_eq_getElem (by rw [HX.out]; exact hlt)⟩
        obtain ⟨⟨y0, y1, y2, y3⟩, hyk⟩ : ∃ x, ys[k]? = some x := ⟨_, List.getElem?_eq_getElem (by rw [HY.out]; exact hlt)⟩
        obtain ⟨b, off, rfl, -, hcx⟩ := H.out.nd hlt hxk
        obtain ⟨b', off', rfl, -, hcy⟩ := H'.out.nd hlt hyk
        have heq := nd_eq x0 x1 x2 x3 y0 y1 y2 y3 (HXB.out _ (List.mem_of_getElem? hxk)) (HYB.out _ (List.mem_of_getElem? hyk))
        obtain ⟨E, hE⟩ : ∃ E, decide ((x0, x1, x2, x3) = (y0, y1, y2, y3)) = E := ⟨_, rfl⟩
        rw [hE] at heq
        have HB1 := hid hb.out
        have f0 : ∀ z : Ext wr, z.v.cell? ⟨b, off + k * 4, none⟩ = some (.int .u64 ((x0 : Nat) : Int)) := fun z => (hcx z.v (step hb.out z.b)).1
        have f1 : ∀ z : Ext wr, z.v.cell? ⟨b, off + k * 4 + 1, none⟩ = some (.int .u64 ((x1 : Nat) : Int)) := fun z => (hcx z.v (step hb.out z.b)).2.1
        have f2 : ∀ z : Ext wr, z.v.cell? ⟨b, off + k * 4 + 2, none⟩ = some (.int .u64 ((x2 : Nat) : Int)) := fun z => (hcx z.v (step hb.out z.b)).2.2.1
        have f3 : ∀ z : Ext wr, z.v.cell? ⟨b, off + k * 4 + 3, none⟩ = some (.int .u64 ((x3 : Nat) : Int)) := fun z => (hcx z.v (step hb.out z.b)).2.2.2
        have g0 : ∀ z : Ext wr, z.v.cell? ⟨b', off' + k * 4, none⟩ = some (.int .u64 ((y0 : Nat) : Int)) := fun z => (hcy z.v (step HB1.out z.b)).1
        have g1 : ∀ z : Ext wr, z.v.cell? ⟨b', off' + k * 4 + 1, none⟩ = some (.int .u64 ((y1 : Nat) : Int)) := fun z => (hcy z.v (step HB1.out z.b)).2.1
        have g2 : ∀ z : Ext wr, z.v.cell? ⟨b', off' + k * 4 + 2, none⟩ = some (.int .u64 ((y2 : Nat) : Int)) := fun z => (hcy z.v (step HB1.out z.b)).2.2.1
        have g3 : ∀ z : Ext wr, z.v.cell? ⟨b', off' + k * 4 + 3, none⟩ = some (.int .u64 ((y3 : Nat) : Int)) := fun z => (hcy z.v (step HB1.out z.b)).2.2.2
        go_upto_region 6 with (fail)
        by_cases he : (x0, x1, x2, x3) = (y0, y1, y2, y3)
        · have HT := hid (eq_take _ _ k _ _ hs.out hxk hyk he)
          have hEt : E = true := by rw [← hE]; exact decide_eq_true he
          subst hEt
          clear hcx hcy hxk hyk hs hE he
          refine wp_region_ext (by kernel_rfl) (by kernel_rfl) ?_
          repeat (go_big_quiet_step (fail))
          refine wpQuiet_nil ?_
          rintro v8 ⟨x8, e8⟩
          have HB2 := hid (step HB1.out x8.b)
          rw [← e8] at HB2
          clear e8 x8
          go_wp2
          go_roundg (gk - 1)
          case measure => have := HK.out; omega
          case rel => exact ⟨k + 1, by have := HK.out; omega, by go_num, HT, HB2⟩
        · have HT := hid (ne_at _ _ k _ _ hxk hyk he)
          have hEt : E = false := by rw [← hE]; exact decide_eq_false he
          subst hEt
          clear hcx hcy hxk hyk hs hE he
          refine wp_region_ext (by kernel_rfl) (by kernel_rfl) ?_
          repeat (go_big_quiet_step (fail))
          refine wpQuiet_nil ?_
          rintro v8 ⟨x8, e8⟩
          have HB2 := hid (step HB1.out x8.b)
          rw [← e8] at HB2
          clear e8 x8
          go_wp2
          go_ret
          exact ⟨retb (decide_eq_false HT.out).symm, HB2.out⟩
      · have e := HK.out
        obtain rfl : k = n := by omega
        have HE : Hid (xs = ys) := hid (by
          have := hs.out
          rwa [List.take_of_length_le (by rw [HX.out]; exact Nat.le_refl _), List.take_of_length_le (by rw [HY.out]; exact Nat.le_refl _)] at this)
        clear hs e HK
        go_wp2
        go_ret
        exact ⟨retb (decide_eq_true HE.out).symm, hb.out⟩
  · have hne : xs ≠ ys := fun e => hnn (by rw [← hx, ← hy, e])
    have HE := hid hne
    have q : (((n : Nat) : Int) != ((n' : Nat) : Int)) = true := by simp; omega
    clear h h' hx hy hxb hyb hne hnn
    go_enter Try.func11, Try.ntmps11
    go_wp2
    go_ret
    exact ⟨retb (decide_eq_false HE.out).symm, Below.refl _ _⟩
end Go.Proofs.Ytipohagcppfgiaa
namespace Go.Proofs.Ytipohagcppfgiaa
open Go.RowKit
open Go.Proofs
set_option linter.unusedVariables false

end Go.Proofs.Ytipohagcppfgiaa
namespace Go.Proofs.Ytipohagcppfgiaa
open Go.RowKit
open Go.Proofs
set_option linter.unusedVariables false
attribute [local go_sem] Oper.semAt_some

/-- Many cells of a block are written: the block, and all others, behind it. -/
theorem setCells_at {e : TypeId} {g : Nat} : ∀ (vs : List Value) (o : Nat) (W : World) (cur : Array Value), W.heap[g]? = some (.cells cur e (0, 0)) →
    ∃ cur', (W.setCells g o vs).heap[g]? = some (.cells cur' e (0, 0)) ∧ cur'.size = cur.size ∧ (∀ i, (i < o ∨ o + vs.length ≤ i) → cur'[i]? = cur[i]?) ∧ (∀ j v, vs[j]? = some v → o + j < cur.size → cur'[o + j]? = some v) ∧
      (∀ b ob, b ≠ g → W.heap[b]? = some ob → (W.setCells g o vs).heap[b]? = some ob) ∧ (∀ B w, B ≤ g → Below B w W → Below B w (W.setCells g o vs))
  | [], o, W, cur, h => ⟨cur, h, rfl, fun _ _ => rfl, fun j v h => by simp at h, fun _ _ _ h => h, fun _ _ _ h => h⟩
  | v :: r, o, W, cur, h => by
    obtain ⟨cur', h1, h2, h3, h4, h5, h6⟩ := setCells_at r (o + 1) (W.setCell ⟨g, o, none⟩ v) _ (set_laid (i := o) h v)
    refine ⟨cur', h1, by rw [h2]; simp, fun i hi => ?_, fun j u hj ho => ?_, fun b ob hb hob => h5 b ob hb (other_laid hob hb v), fun B w hB hw => h6 B w hB (hw.setCell (p := ⟨g, o, none⟩) hB v)⟩
    · have hl : (v :: r).length = r.length + 1 := rfl
      rw [h3 i (by omega), Array.getElem?_setIfInBounds]
      rw [if_neg (by omega)]
    · rcases j with _ | j
      · rw [h3 _ (by omega)]
        simp only [List.getElem?_cons_zero, Option.some.injEq] at hj
        subst hj
        rw [Nat.add_zero, Array.getElem?_setIfInBounds, if_pos rfl, if_pos (by simpa using ho)]
      · have := h4 j u (by simpa using hj) (by simp; omega)
        rw [show o + (j + 1) = o + 1 + j by omega]
        exact this

/-- 'clear' at one node. -/
theorem run_clear_nd (w : World) (ty : TypeId) (g o c : Nat) (hc : ∀ j, j < 4 → (w.cell? ⟨g, o + j, none⟩).isSome = true) (hf : ∀ j, j < 4 → w.frozen? ⟨g, o + j, none⟩ = false) :
    (Builtin.clear_ #[47] ty #[.slice (some ⟨g, o, none⟩) 1 c]).run Try.prog w = .ok (.tuple #[]) (w.setCells g o [.int .u64 0, .int .u64 0, .int .u64 0, .int .u64 0]) := by
  have hst := run_storeCells_cells (P := Try.prog) g o [.int .u64 0, .int .u64 0, .int .u64 0, .int .u64 0] 0 w (by simpa using hc) (by simpa using hf) (by intro v hv; simp at hv; subst hv; rfl)
  simp only [Nat.add_zero] at hst
  have hz : (Builtin.zeroCells (Value.agg #[.int .u64 0, .int .u64 0, .int .u64 0, .int .u64 0]).cells 1).toList = [.int .u64 0, .int .u64 0, .int .u64 0, .int .u64 0] := by kernel_rfl
  have hu := run_underlying (P := Try.prog) Try.underlying47 (w := w)
  simp [Builtin.clear_, hu, hz, hst]

theorem ndcells_drop (xs : List Nd) (k : Nat) : (ndcells xs).drop (k * 4) = ndcells (xs.drop k) := by
  induction xs generalizing k with
  | nil => simp [ndcells]
  | cons x xs ih =>
    cases k with
    | zero => simp
    | succ k =>
      have e : (k + 1) * 4 = k * 4 + 1 + 1 + 1 + 1 := by omega
      rw [e]
      exact ih k
theorem ndcells_take (xs : List Nd) (k : Nat) : (ndcells xs).take (k * 4) = ndcells (xs.take k) := by
  induction xs generalizing k with
  | nil => simp [ndcells]
  | cons x xs ih =>
    cases k with
    | zero => simp [ndcells]
    | succ k =>
      have e : (k + 1) * 4 = k * 4 + 1 + 1 + 1 + 1 := by omega
      rw [e]
      show _ :: _ :: _ :: _ :: (ndcells xs).take (k * 4) = _
      rw [ih k]
      rfl
theorem ndcells_append (xs ys : List Nd) : ndcells (xs ++ ys) = ndcells xs ++ ndcells ys := by simp [ndcells]
theorem nd4_one (t : Nd) : ∀ u ∈ nd4 t, u.oneCell' = true := by
  intro u hu
  simp only [nd4, List.mem_cons, List.not_mem_nil, or_false] at hu
  rcases hu with rfl | rfl | rfl | rfl <;> rfl
theorem ndcells_one (xs : List Nd) : ∀ u ∈ ndcells xs, u.oneCell' = true := by
  intro u hu
  simp only [ndcells, List.mem_flatMap] at hu
  obtain ⟨t, -, h⟩ := hu
  exact nd4_one t u h
set_option maxRecDepth 100000 in
set_option maxHeartbeats 4000000 in
/-- A row of one's own without one of its nodes. -/
theorem Delete_any (xs : List Nd) (g n m cap k base : Nat) (z : Int) (V : World) (h : V.ownsRow base 37 4 (.slice (some ⟨g, 0, none⟩) n cap) n (ndcells xs)) (hk : k < n) (hn : n = m + 1) (hn5 : n ≤ 5000) (hz : z = (k : Int) + 1) :
    Calls Try.prog 30 #[.slice (some ⟨g, 0, none⟩) n cap, .int .i64 ((k : Nat) : Int), .int .i64 z] V (fun e W => e = .returned (.slice (some ⟨g, 0, none⟩) m cap) ∧
      W.ownsRow base 37 4 (.slice (some ⟨g, 0, none⟩) m cap) m (ndcells (xs.eraseIdx k)) ∧ (∀ b o, b ≠ g → V.heap[b]? = some o → W.heap[b]? = some o) ∧ (∀ B w, B ≤ g → Below B w V → Below B w W)) := by
  obtain ⟨-, ⟨h, -⟩ | ⟨g', cap', cur, he, hbg, hG, hnc, hcm, hcs, hct⟩⟩ := h
  · cases h
  simp only [Value.slice.injEq, Option.some.injEq, Addr.mk.injEq, and_true, true_and] at he
  obtain ⟨rfl, rfl⟩ := he
  obtain ⟨j, hj⟩ : ∃ j, j = k + 1 := ⟨_, rfl⟩
  obtain rfl : z = ((j : Nat) : Int) := by omega
  have hxl : xs.length = n := by
    have h0 := congrArg List.length hct
    rw [ndcells_len, List.length_take, Array.length_toList, hcs] at h0
    omega
  have hcell : ∀ i, i < n * 4 → cur[i]? = (ndcells xs)[i]? := by
    intro i hi
    rw [← hct, List.getElem?_take, if_pos hi, Array.getElem?_toList]
  have hdl : (ndcells (xs.drop j)).length = (n - j) * 4 := by rw [ndcells_len, List.length_drop, hxl]; omega
  obtain ⟨W1, hW1⟩ : ∃ W1, W1 = V.drew.setCells g (k * 4) (ndcells (xs.drop j)) := ⟨_, rfl⟩
  have hGd : V.drew.heap[g]? = some (.cells cur 37 (0, 0)) := hG
  obtain ⟨cur1, c1, c2, c3, c4, c5, c6⟩ := setCells_at (ndcells (xs.drop j)) (k * 4) V.drew cur hGd
  rw [← hW1] at c1 c5 c6
  obtain ⟨cur2, d1, d2, d3, d4, d5, d6⟩ := setCells_at [.int .u64 0, .int .u64 0, .int .u64 0, .int .u64 0] (m * 4) W1 cur1 c1
  obtain ⟨W2, hW2⟩ : ∃ W2, W2 = W1.setCells g (m * 4) [.int .u64 0, .int .u64 0, .int .u64 0, .int .u64 0] := ⟨_, rfl⟩
  rw [← hW2] at d1 d5 d6
  have hsrc : ∃ A : Addr, (if cap = j then (some ⟨g, 0, none⟩ : Option Addr) else some ⟨g, j * 4, none⟩) = some A ∧ Hid (∀ t u, (ndcells (xs.drop j))[t]? = some u → V.drew.cell? (A.add t) = some u) := by
    have hread : ∀ t u, (ndcells (xs.drop j))[t]? = some u → V.drew.cell? ⟨g, j * 4 + t, none⟩ = some u := by
      intro t u hu
      have ht : t < (n - j) * 4 := by
        have := (List.getElem?_eq_some_iff.1 hu).1
        rwa [hdl] at this
      refine at_block hGd ?_
      rw [hcell _ (by omega)]
      rw [← ndcells_drop, List.getElem?_drop] at hu
      exact hu
    by_cases hc : cap = j
    · refine ⟨⟨g, 0, none⟩, by simp [hc], hid fun t u hu => ?_⟩
      have h0 : (ndcells (xs.drop j)).length = 0 := by rw [hdl]; omega
      rw [List.length_eq_zero_iff.1 h0] at hu
      simp at hu
    · exact ⟨⟨g, j * 4, none⟩, by simp [hc], hid fun t u hu => by rw [Addr.add_lit]; exact hread t u hu⟩
  obtain ⟨A, hA, HA⟩ := hsrc
  have s1 : Hid ((ndcells (xs.drop j)).length = (n - j) * 4) := hid hdl
  have s2 : Hid (∀ u ∈ ndcells (xs.drop j), u.oneCell' = true) := hid (ndcells_one _)
  have s3 : Hid (∀ t, t < (ndcells (xs.drop j)).length → (V.drew.cell? ⟨g, 0 + k * 4 + t, none⟩).isSome = true ∧ V.drew.frozen? ⟨g, 0 + k * 4 + t, none⟩ = false) := hid (fun t ht => by
    rw [hdl] at ht
    obtain ⟨v, hv⟩ : ∃ v, cur[0 + k * 4 + t]? = some v := ⟨_, Array.getElem?_eq_getElem (by omega)⟩
    exact ⟨by rw [at_block hGd hv]; rfl, free_laid hGd⟩)
  have hcl : ∀ ty c, (Builtin.clear_ #[47] ty #[.slice (some ⟨g, m * 4, none⟩) 1 c]).run Try.prog W1 = .ok (.tuple #[]) W2 := by
    intro ty c
    rw [hW2]
    refine run_clear_nd W1 ty g (m * 4) c (fun t ht => ?_) (fun t ht => free_laid c1)
    obtain ⟨v, hv⟩ : ∃ v, cur1[m * 4 + t]? = some v := ⟨_, Array.getElem?_eq_getElem (by omega)⟩
    rw [at_block c1 hv]; rfl
  have hend : Hid (W2.ownsRow base 37 4 (.slice (some ⟨g, 0, none⟩) m cap) m (ndcells (xs.eraseIdx k)) ∧ (∀ b o, b ≠ g → V.heap[b]? = some o → W2.heap[b]? = some o) ∧ (∀ B w, B ≤ g → Below B w V → Below B w W2)) := hid (by
    have hel : (xs.eraseIdx k).length = m := by rw [List.length_eraseIdx, if_pos (by omega)]; omega
    refine ⟨⟨by rw [ndcells_len, hel]; omega, .inr ⟨g, cap, cur2, rfl, hbg, d1, by omega, hcm, by rw [d2, c2, hcs], ?_⟩⟩, fun b o hb ho => d5 b o hb (c5 b o hb ho), fun B w hB hw => d6 B w hB (c6 B w hB hw.drew)⟩
    apply List.ext_getElem?
    intro i
    rw [List.getElem?_take]
    by_cases hi : i < m * 4
    · rw [if_pos hi, Array.getElem?_toList, d3 i (.inl hi), List.eraseIdx_eq_take_drop_succ, ndcells_append]
      by_cases hik : i < k * 4
      · rw [c3 i (.inl hik), hcell i (by omega), List.getElem?_append_left (by rw [ndcells_len, List.length_take]; omega), ← ndcells_take, List.getElem?_take, if_pos hik]
      · obtain ⟨t, rfl⟩ : ∃ t, i = k * 4 + t := ⟨i - k * 4, by omega⟩
        have ht : t < (ndcells (xs.drop j)).length := by rw [hdl]; omega
        rw [c4 t _ (List.getElem?_eq_getElem ht) (by omega), List.getElem?_append_right (by rw [ndcells_len, List.length_take]; omega), ← hj]
        rw [show k * 4 + t - (ndcells (xs.take k)).length = t by rw [ndcells_len, List.length_take]; omega, List.getElem?_eq_getElem ht]
    · rw [if_neg hi, List.getElem?_eq_none (by rw [ndcells_len, hel]; omega)])
  have HW := hid hW1
  have e1 : k + (n - j) = m := by omega
  have e2 : n - m = 1 := by omega
  have hkc : k ≤ cap := by omega
  have hjc : j ≤ cap := by omega
  have hjn : j ≤ n := by omega
  have hne : k ≠ j := by omega
  have mixed : Try.prog.follows .mixedOrders = true := by kernel_rfl
  clear hG hGd c1 c2 c3 c4 c5 c6 d1 d2 d3 d4 d5 d6 hW1 hW2 hcell hct hcs hxl hdl hbg hn hj hz
  go_enter Try.func30, Try.ntmps30
  go_wp2_with fail
  go_region_law_o (refine step_append_room rfl (.tmp 22) (.tmp 25) 47 rfl 37 Try.t37 4 Try.underlying47 (by kernel_rfl) (by kernel_rfl) g 0 k cap (by simp [Act.eval, Act.put]) A (n - j) (cap - j) (ndcells (xs.drop j)) (by simp [Act.eval, Act.put]) s1.out HA.out s2.out (by omega) s3.out ?_; rw [Nat.zero_add, ← HW.out])
  go_wp2
  go_ret
  exact ⟨rfl, hend.out⟩
end Go.Proofs.Ytipohagcppfgiaa
namespace Go.Proofs.Ytipohagcppfgiaa
open Go.RowKit
open Go.Proofs
set_option linter.unusedVariables false
attribute [local go_sem] Oper.semAt_some
theorem run_copy_wide (w : World) (dT sT ty elem : TypeId) (m b o dLen dCap : Nat) (a : Addr) (sLen sCap k : Nat) (cs : List Value)
    (hu : Try.prog.underlying dT = some (.slice elem)) (hs : (Try.prog.info? elem).map (·.size) = some m) (hk : Nat.min sLen dLen = k) (hn : cs.length = k * m)
    (hsrc : ∀ j v, cs[j]? = some v → w.cell? (a.add j) = some v) (hc : ∀ j, j < cs.length → (w.cell? ⟨b, o + j, none⟩).isSome = true) (hf : ∀ j, j < cs.length → w.frozen? ⟨b, o + j, none⟩ = false) (h1 : ∀ v ∈ cs, v.oneCell' = true) :
    (Builtin.copy_ #[dT, sT] ty #[.slice (some ⟨b, o, none⟩) dLen dCap, .slice (some a) sLen sCap]).run Try.prog w = .ok (goInt k) (w.setCells b o cs) := by
  have hl := run_loadCells_list (P := Try.prog) w a cs hsrc
  have hst := run_storeCells_cells (P := Try.prog) b o cs 0 w (by simpa using hc) (by simpa using hf) h1
  cases hq : Try.prog.info? elem with
  | none => simp [hq] at hs
  | some i =>
    have hi : i.size = m := by simpa [hq] using hs
    have hn' : Nat.min sLen dLen * m = cs.length := by rw [hk, hn]
    have hk' : min sLen dLen = k := hk
    simp [Builtin.copy_, run_underlying hu, Builtin.lenOf, Builtin.firstCells, sizeOf, typeInfo, hq, hi, hk', ← hn, hl, hst]
/-- What Insert gives. -/
def GivesIns (L : List Nd) (base g : Nat) (V : World) (e : Ending) (W : World) : Prop := ∃ v, e = .returned v ∧ W.ownsRow base 37 4 v L.length (ndcells L) ∧ V.grownBy W (some g)
theorem grownBy_setCells (g : Nat) : ∀ (vs : List Value) (o : Nat) (A : World), A.grownBy (A.setCells g o vs) (some g)
  | [], o, A => ⟨rfl, rfl, rfl, Nat.le_refl _, fun _ _ _ => rfl⟩
  | v :: r, o, A => grownBy_trans (grownBy_setCell A g o v) (grownBy_setCells g r (o + 1) _)
theorem grownBy_drew {A B : World} {g : Option Nat} (h : A.grownBy B g) : A.grownBy B.drew g := ⟨h.os, h.tape, h.output, h.size, h.block⟩
theorem take_of_cells {xs ys : List Value} {n m : Nat} (hx : xs.length = n) (hm : n ≤ m) (h : ∀ j, j < n → ys[j]? = xs[j]?) (hl : n ≤ ys.length) : ys.take n = xs := by
  apply List.ext_getElem?
  intro j
  rw [List.getElem?_take]
  by_cases hj : j < n
  · rw [if_pos hj, h j hj]
  · rw [if_neg hj, List.getElem?_eq_none (by omega)]
/-- The cells of a row with one more. -/
theorem ins_cells (L : List Nd) (t : Nd) (i n : Nat) (hi : i ≤ n) (hn : L.length = n) (cur : Array Value) (hs : (n + 1) * 4 ≤ cur.size)
    (h1 : ∀ j, j < i * 4 → cur[j]? = (ndcells L)[j]?) (h2 : ∀ j v, (nd4 t)[j]? = some v → cur[i * 4 + j]? = some v) (h3 : ∀ j v, (ndcells (L.drop i))[j]? = some v → cur[(i + 1) * 4 + j]? = some v) :
    cur.toList.take ((n + 1) * 4) = ndcells (L.take i ++ t :: L.drop i) := by
  have hlen : (ndcells (L.take i ++ t :: L.drop i)).length = (n + 1) * 4 := by rw [ndcells_len]; simp; omega
  have hta : (ndcells (L.take i)).length = i * 4 := by rw [ndcells_len, List.length_take]; omega
  have hdr : (ndcells (L.drop i)).length = (n - i) * 4 := by rw [ndcells_len, List.length_drop, hn]; omega
  refine take_of_cells hlen (Nat.le_refl _) (fun j hj => ?_) (by simpa using hs)
  rw [Array.getElem?_toList, ndcells_append]
  by_cases c1 : j < i * 4
  · rw [h1 j c1, List.getElem?_append_left (by omega), ← ndcells_take, List.getElem?_take, if_pos c1]
  · rw [List.getElem?_append_right (by omega), hta]
    show cur[j]? = (nd4 t ++ ndcells (L.drop i))[j - i * 4]?
    by_cases c2 : j < (i + 1) * 4
    · have hj4 : j - i * 4 < (nd4 t).length := by show _ < 4; omega
      rw [List.getElem?_append_left hj4, List.getElem?_eq_getElem hj4]
      have := h2 (j - i * 4) _ (List.getElem?_eq_getElem hj4)
      rwa [show i * 4 + (j - i * 4) = j by omega] at this
    · have h4 : (nd4 t).length = 4 := rfl
      rw [List.getElem?_append_right (by omega), h4]
      have hj5 : j - i * 4 - 4 < (ndcells (L.drop i)).length := by omega
      rw [List.getElem?_eq_getElem hj5]
      have := h3 (j - i * 4 - 4) _ (List.getElem?_eq_getElem hj5)
      rwa [show (i + 1) * 4 + (j - i * 4 - 4) = j by omega] at this
set_option maxRecDepth 100000 in
set_option maxHeartbeats 4000000 in
/-- At the end. -/
theorem InsEnd_any (L : List Nd) (t : Nd) (g n c i vb base : Nat) (V : World) (h : V.ownsRow base 37 4 (.slice (some ⟨g, 0, none⟩) n c) n (ndcells L)) (hln : L.length = n) (hn : n ≤ 5000) (hv : V.heap[vb]? = some (.cells #[.int .u64 ((t.1 : Nat) : Int), .int .u64 ((t.2.1 : Nat) : Int), .int .u64 ((t.2.2.1 : Nat) : Int), .int .u64 ((t.2.2.2 : Nat) : Int)] 37 (0, 0))) (hvg : vb ≠ g) (hbase : base ≤ V.heap.size) (hi : i = n) :
    Calls Try.prog 31 #[.slice (some ⟨g, 0, none⟩) n c, .int .i64 ((i : Nat) : Int), .slice (some ⟨vb, 0, none⟩) 1 1] V (GivesIns (L.take i ++ t :: L.drop i) base g V) := by
  subst hi
  have hlen : (L.take i ++ t :: L.drop i).length = i + 1 := by simp; omega
  have HE : Hid (L.take i ++ t :: L.drop i = L ++ [t]) := hid (by rw [List.take_of_length_le (by omega), List.drop_eq_nil_of_le (by omega)])
  have HLE := hid hlen
  have H := hid h
  have hl := (Leads.of_own1 h).len
  have hic : i ≤ c := (Leads.of_own1 h).1
  have HVC : Hid (∀ (k : Nat) u, (nd4 t)[k]? = some u → V.cell? ⟨vb, k, none⟩ = some u) := hid (fun k u hk => cell_laid hv (by simpa [nd4] using hk))
  clear h hlen hv hln
  obtain ⟨A, hA⟩ : ∃ A : Option Addr, A = (if c = i then some ⟨g, 0, none⟩ else some ⟨g, i * 4, none⟩) := ⟨_, rfl⟩
  have mE : (if c = i then (some ⟨g, 0, none⟩ : Option Addr) else some ⟨g, i * 4, none⟩) = A := hA.symm
  clear hA
  go_enter Try.func31, Try.ntmps31
  go_wp2_with (at_builtin; refine wp_appendM elemNd rfl _ _ rfl base _ _ _ rfl H.out ⟨vb, 0, none⟩ 1 1 (nd4 t) rfl ?qc1 ?qc2 ?qc3 ?qc4 ?qc5 ?_)
  case qc1 => rfl
  case qc2 =>
    intro j u hj
    rw [Addr.add_lit, Nat.zero_add]
    exact HVC.out j u hj
  case qc3 => exact nd4_one t
  case qc4 => omega
  case qc5 => exact hbase
  intro v' w1 hown hgrow hmv
  have HO := hid hown
  have HG := hid hgrow
  clear hown hgrow hmv
  go_wp2
  go_ret
  exact ⟨v', rfl, by rw [HLE.out, HE.out, ndcells_snoc]; exact HO.out, HG.out⟩
set_option maxRecDepth 100000 in
set_option maxHeartbeats 8000000 in
/-- In the midst, with room to spare. -/
theorem InsRoom_any (L : List Nd) (t : Nd) (g n c i vb base : Nat) (V : World) (h : V.ownsRow base 37 4 (.slice (some ⟨g, 0, none⟩) n c) n (ndcells L)) (hln : L.length = n) (hn : n ≤ 5000) (hv : V.heap[vb]? = some (.cells #[.int .u64 ((t.1 : Nat) : Int), .int .u64 ((t.2.1 : Nat) : Int), .int .u64 ((t.2.2.1 : Nat) : Int), .int .u64 ((t.2.2.2 : Nat) : Int)] 37 (0, 0))) (hvg : vb ≠ g) (hbase : base ≤ V.heap.size) (hi : i < n) (hroom : n + 1 ≤ c) :
    Calls Try.prog 31 #[.slice (some ⟨g, 0, none⟩) n c, .int .i64 ((i : Nat) : Int), .slice (some ⟨vb, 0, none⟩) 1 1] V (GivesIns (L.take i ++ t :: L.drop i) base g V) := by
  obtain ⟨-, ⟨h, -⟩ | ⟨g', cap', cur, he, hbg, hG, hnc, hcm, hcs, hct⟩⟩ := h
  · cases h
  simp only [Value.slice.injEq, Option.some.injEq, Addr.mk.injEq, and_true, true_and] at he
  obtain ⟨rfl, rfl⟩ := he
  obtain ⟨j, hj⟩ : ∃ j, j = i + 1 := ⟨_, rfl⟩
  obtain ⟨N, hN⟩ : ∃ N, N = n + 1 := ⟨_, rfl⟩
  have hcell : ∀ k, k < n * 4 → cur[k]? = (ndcells L)[k]? := by
    intro k hk
    rw [← hct, List.getElem?_take, if_pos hk, Array.getElem?_toList]
  have hdl : (ndcells (L.drop i)).length = (n - i) * 4 := by rw [ndcells_len, List.length_drop, hln]; omega
  have hl63 : c ≤ 9223372036854775807 := hcm
  have hGd : V.drew.heap[g]? = some (.cells cur 37 (0, 0)) := hG
  obtain ⟨W1, hW1⟩ : ∃ W1, W1 = V.drew.setCells g (j * 4) (ndcells (L.drop i)) := ⟨_, rfl⟩
  obtain ⟨cur1, c1, c2, c3, c4, c5, c6⟩ := setCells_at (ndcells (L.drop i)) (j * 4) V.drew cur hGd
  rw [← hW1] at c1 c5 c6
  obtain ⟨W2, hW2⟩ : ∃ W2, W2 = W1.setCells g (i * 4) (nd4 t) := ⟨_, rfl⟩
  obtain ⟨cur2, d1, d2, d3, d4, d5, d6⟩ := setCells_at (nd4 t) (i * 4) W1 cur1 c1
  rw [← hW2] at d1 d5 d6
  have hov : ∀ lb cb, (callFunc 47 #[.slice (some ⟨vb, 0, none⟩) 1 1, .slice (some ⟨g, j * 4, none⟩) lb cb]).run Try.prog V = .ok (.value (.bool false)) V := fun lb cb => by
    rw [run_callFunc_extern Try.func47 (by kernel_rfl) (by kernel_rfl) (by kernel_rfl) (e := Extern.SlicesOverlaps.overlaps #[47, 47] #[4]) (by kernel_rfl),
      Lib.run_overlaps_apart V 47 4 37 Try.underlying47 4 Try.sizeOf37 ⟨vb, 0, none⟩ ⟨g, j * 4, none⟩ 1 1 lb cb hvg 37 37 4 cur.size (by simp [World.shape?, hv]) (by simp [World.shape?, hG]) (by omega) (free_laid hv) (free_laid (i := 4) hv)]
    rfl
  have hsz : (Try.prog.info? 37).map (·.size) = some 4 := by kernel_rfl
  have hcp1 : ∀ ty dc sc, (Builtin.copy_ #[47, 47] ty #[.slice (some ⟨g, j * 4, none⟩) (N - j) dc, .slice (some ⟨g, i * 4, none⟩) (N - i) sc]).run Try.prog V.drew = .ok (goInt (n - i : Nat)) W1 := fun ty dc sc => by
    rw [hW1]
    refine run_copy_wide V.drew _ _ ty 37 4 g (j * 4) (N - j) dc ⟨g, i * 4, none⟩ (N - i) sc (n - i) (ndcells (L.drop i)) Try.underlying47 hsz (by simp only [Nat.min_def]; split <;> omega) hdl ?_ ?_ ?_ (ndcells_one _)
    · intro k u hu
      have hk : k < (n - i) * 4 := by
        have := (List.getElem?_eq_some_iff.1 hu).1
        rwa [hdl] at this
      rw [Addr.add_lit]
      refine at_block hGd ?_
      rw [hcell _ (by omega)]
      rw [← ndcells_drop, List.getElem?_drop] at hu
      exact hu
    · intro k hk
      rw [hdl] at hk
      obtain ⟨v, hv⟩ : ∃ v, cur[j * 4 + k]? = some v := ⟨_, Array.getElem?_eq_getElem (by omega)⟩
      rw [at_block hGd hv]; rfl
    · exact fun k hk => free_laid hGd
  have hvd : W1.heap[vb]? = some (.cells #[.int .u64 ((t.1 : Nat) : Int), .int .u64 ((t.2.1 : Nat) : Int), .int .u64 ((t.2.2.1 : Nat) : Int), .int .u64 ((t.2.2.2 : Nat) : Int)] 37 (0, 0)) := c5 vb _ hvg hv
  have hcp2 : ∀ (W : World), W = W1 → ∀ ty dc, (Builtin.copy_ #[47, 47] ty #[.slice (some ⟨g, i * 4, none⟩) (N - i) dc, .slice (some ⟨vb, 0, none⟩) 1 1]).run Try.prog W = .ok (goInt (1 : Nat)) W2 := fun W hW ty dc => by
    rw [hW2, hW]
    refine run_copy_wide W1 _ _ ty 37 4 g (i * 4) (N - i) dc ⟨vb, 0, none⟩ 1 1 1 (nd4 t) Try.underlying47 hsz (by simp only [Nat.min_def]; split <;> omega) rfl ?_ ?_ ?_ (nd4_one t)
    · intro k u hu
      rw [Addr.add_lit, Nat.zero_add]
      exact cell_laid hvd (by simpa [nd4] using hu)
    · intro k hk
      have hk4 : k < 4 := hk
      obtain ⟨v, hv⟩ : ∃ v, cur1[i * 4 + k]? = some v := ⟨_, Array.getElem?_eq_getElem (by omega)⟩
      rw [at_block c1 hv]; rfl
    · exact fun k hk => free_laid c1
  have hlen : (L.take i ++ t :: L.drop i).length = N := by simp; omega
  have hend : Hid (W2.ownsRow base 37 4 (.slice (some ⟨g, 0, none⟩) N c) N (ndcells (L.take i ++ t :: L.drop i)) ∧ V.grownBy W2 (some g)) := hid (by
    refine ⟨⟨by rw [ndcells_len, hlen]; omega, .inr ⟨g, c, cur2, rfl, hbg, d1, by omega, hcm, by rw [d2, c2, hcs], ?_⟩⟩, ?_⟩
    · rw [hN]
      refine ins_cells L t i n (Nat.le_of_lt hi) hln cur2 (by rw [d2, c2, hcs]; omega) ?_ ?_ ?_
      · intro k hk
        rw [d3 k (.inl hk), c3 k (.inl (by omega)), hcell k (by omega)]
      · intro k v hk
        have hk4 : k < 4 := (List.getElem?_eq_some_iff.1 hk).1
        exact d4 k v hk (by rw [c2, hcs]; omega)
      · intro k v hk
        have hk4 : k < (n - i) * 4 := by
          have := (List.getElem?_eq_some_iff.1 hk).1
          rwa [hdl] at this
        have h4 : (nd4 t).length = 4 := rfl
        rw [← hj, d3 _ (.inr (by omega))]
        exact c4 k v hk (by rw [hcs]; omega)
    · rw [hW2, hW1]
      exact grownBy_trans (grownBy_trans (show V.grownBy V.drew (some g) from ⟨rfl, rfl, rfl, Nat.le_refl _, fun _ _ _ => rfl⟩) (grownBy_setCells g _ _ _)) (grownBy_setCells g _ _ _))
  have e1 : IntKind.i64.wrap ((n : Int) + 1) = ((N : Nat) : Int) := by rw [IntKind.wrap_i64]; omega
  have e2 : IntKind.i64.wrap ((i : Int) + 1) = ((j : Nat) : Int) := by rw [IntKind.wrap_i64]; omega
  have t1 : decide ((c : Int) < (N : Int)) = false := by simp; omega
  have t1' : ¬ ((c : Int) < (N : Int)) := by omega
  have t2 : ((i : Int) == (n : Int)) = false := by simp; omega
  have t2' : ¬ ((i : Int) = (n : Int)) := by omega
  have k1 : N ≤ c := by omega
  have k2 : j ≤ N := by omega
  have k3 : i ≤ N := by omega
  have k4 : ¬ (c = j) := by omega
  have k5 : ¬ (c = i) := by omega
  have k6 : j ≤ c := by omega
  have k7 : i ≤ c := by omega
  have k8 : i ≤ n := by omega
  have k9 : n ≤ c := by omega
  have HLEN := hid hlen
  have mixed : Try.prog.follows .mixedOrders = true := by kernel_rfl
  clear hG hGd c1 c2 c3 c4 c5 c6 d1 d2 d3 d4 d5 d6 hW1 hW2 hcell hct hcs hln hdl hbg hN hj hv hvd hroom hi hlen hsz hcm
  go_enter Try.func31, Try.ntmps31
  go_wp2_with (simp only [hov])
  go_region_law_o (refine step_copy_runI rfl _ _ 47 47 rfl _ _ (by simp [Act.eval, Act.put]) (by simp [Act.eval, Act.put]) (hcp1 _ _ _) ?_)
  go_wp2_with (at_builtin; refine wpList_copy_runI _ rfl _ _ 47 47 rfl _ _ rfl rfl (hcp2 _ rfl _ _) ?_)
  go_ret
  exact ⟨_, rfl, by rw [HLEN.out]; exact hend.out.1, hend.out.2⟩
set_option maxRecDepth 100000 in
set_option maxHeartbeats 8000000 in
/-- In the midst, with no room to spare. -/
theorem InsGrow_any (L : List Nd) (t : Nd) (g n c i vb base : Nat) (V : World) (h : V.ownsRow base 37 4 (.slice (some ⟨g, 0, none⟩) n c) n (ndcells L)) (hln : L.length = n) (hn : n ≤ 5000) (hv : V.heap[vb]? = some (.cells #[.int .u64 ((t.1 : Nat) : Int), .int .u64 ((t.2.1 : Nat) : Int), .int .u64 ((t.2.2.1 : Nat) : Int), .int .u64 ((t.2.2.2 : Nat) : Int)] 37 (0, 0))) (hvg : vb ≠ g) (hbase : base ≤ V.heap.size) (hi : i < n) (hroom : c < n + 1) :
    Calls Try.prog 31 #[.slice (some ⟨g, 0, none⟩) n c, .int .i64 ((i : Nat) : Int), .slice (some ⟨vb, 0, none⟩) 1 1] V (GivesIns (L.take i ++ t :: L.drop i) base g V) := by
  obtain ⟨-, ⟨h, -⟩ | ⟨g', cap', cur, he, hbg, hG, hnc, hcm, hcs, hct⟩⟩ := h
  · cases h
  simp only [Value.slice.injEq, Option.some.injEq, Addr.mk.injEq, and_true, true_and] at he
  obtain ⟨rfl, rfl⟩ := he
  obtain ⟨j, hj⟩ : ∃ j, j = i + 1 := ⟨_, rfl⟩
  obtain ⟨N, hN⟩ : ∃ N, N = n + 1 := ⟨_, rfl⟩
  obtain ⟨K, hK⟩ : ∃ K, K = N - i := ⟨_, rfl⟩
  have hik : i + K = N := by omega
  have hgs : g < V.heap.size := lt_laid hG
  have hvs : vb < V.heap.size := lt_laid hv
  have hcell : ∀ k, k < n * 4 → cur[k]? = (ndcells L)[k]? := by
    intro k hk
    rw [← hct, List.getElem?_take, if_pos hk, Array.getElem?_toList]
  have hdl : (ndcells (L.drop i)).length = (n - i) * 4 := by rw [ndcells_len, List.length_drop, hln]; omega
  have htl : (ndcells (L.take i)).length = i * 4 := by rw [ndcells_len, List.length_take]; omega
  have hl63 : c ≤ 9223372036854775807 := hcm
  obtain ⟨i0, z, hi0, hz0, hzs, hzb, hzc⟩ := elemNd.info
  have hold : (Builtin.firstCells i0.size i (.slice (some ⟨g, 0, none⟩) i c)).run Try.prog V.drew = .ok (ndcells (L.take i)).toArray V.drew := by
    rw [hzs]
    exact run_firstCells_some V.drew 4 i ⟨g, 0, none⟩ i c (ndcells (L.take i)) htl (fun k u hk => by
      rw [Addr.add_lit, Nat.zero_add]
      have h4 : k < i * 4 := by
        have := (List.getElem?_eq_some_iff.1 hk).1
        rwa [htl] at this
      have hGd : V.drew.heap[g]? = some (.cells cur 37 (0, 0)) := hG
      refine at_block hGd ?_
      rw [hcell k (by omega)]
      rw [← ndcells_take, List.getElem?_take, if_pos h4] at hk
      exact hk)
  obtain ⟨G, hGe⟩ : ∃ G, G = grownCap V N c 37 := ⟨_, rfl⟩
  obtain ⟨ROW, hROW⟩ : ∃ ROW : Array Value, ROW = (ndcells (L.take i)).toArray ++ Builtin.zeroCells z.cells K ++ Builtin.zeroCells z.cells (G - N) := ⟨_, rfl⟩
  obtain ⟨Y, hY⟩ : ∃ Y, V.heap.size = Y := ⟨_, rfl⟩
  have hrz : ∀ ty, (Builtin.append_ #[47, 3] ty #[.slice (some ⟨g, 0, none⟩) i c, .int .i64 ((K : Nat) : Int)]).run Try.prog V = .ok (.slice (some ⟨Y, 0, none⟩) N G) (V.drew.alloc (.cells ROW 37)) := fun ty => by
    have h := Lib.run_append_grow_zeros V 47 3 ty 37 i0 z .i64 .i64 Try.underlying47 (by kernel_rfl) hi0 hz0 (some ⟨g, 0, none⟩) i c (ndcells (L.take i)) hold K (by omega) (by omega) (by omega) (by omega) (by rw [hzb]; omega) (by rw [hzb, hik]; exact growslice_fits (by omega) (by omega))
    rw [hik, ← hGe, hY] at h
    rw [hROW]
    exact h
  have hGn : N ≤ G := by rw [hGe]; exact grownCap_ge V _ _ _
  have hG63 : G ≤ 9223372036854775807 := by
    have := grownCap_le_maxLen V N c 37 (by unfold maxLen; omega)
    rw [← hGe] at this
    unfold maxLen at this
    omega
  have hRs : ROW.size = G * 4 := by
    rw [hROW]
    simp only [Array.size_append, List.size_toArray, Builtin.zeroCells, Array.size_map, Array.size_range, hzc, htl]
    omega
  have hRl : ∀ k, k < i * 4 → ROW[k]? = (ndcells (L.take i))[k]? := by
    intro k hk
    rw [hROW, Array.append_assoc, Array.getElem?_append_left (by simpa [htl] using hk), List.getElem?_toArray]
  obtain ⟨W0, hW0⟩ : ∃ W0, W0 = V.drew.alloc (.cells ROW 37) := ⟨_, rfl⟩
  have hG0 : W0.heap[Y]? = some (.cells ROW 37 (0, 0)) := by rw [hW0, ← hY]; show (V.heap.push _)[V.heap.size]? = _; simp
  have hb0 : Below V.heap.size V W0 := by rw [hW0]; exact (Below.refl _ _).drew.alloc (Nat.le_refl _) _
  obtain ⟨W1, hW1⟩ : ∃ W1, W1 = W0.setCells Y (i * 4) (nd4 t) := ⟨_, rfl⟩
  obtain ⟨cur1, c1, c2, c3, c4, c5, c6⟩ := setCells_at (nd4 t) (i * 4) W0 ROW hG0
  rw [← hW1] at c1 c5 c6
  have c1d : W1.drew.heap[Y]? = some (.cells cur1 37 (0, 0)) := c1
  obtain ⟨W2, hW2⟩ : ∃ W2, W2 = W1.drew.setCells Y (j * 4) (ndcells (L.drop i)) := ⟨_, rfl⟩
  obtain ⟨cur2, d1, d2, d3, d4, d5, d6⟩ := setCells_at (ndcells (L.drop i)) (j * 4) W1.drew cur1 c1d
  rw [← hW2] at d1 d5 d6
  have hsz : (Try.prog.info? 37).map (·.size) = some 4 := by kernel_rfl
  have hv0 : W0.heap[vb]? = some (.cells #[.int .u64 ((t.1 : Nat) : Int), .int .u64 ((t.2.1 : Nat) : Int), .int .u64 ((t.2.2.1 : Nat) : Int), .int .u64 ((t.2.2.2 : Nat) : Int)] 37 (0, 0)) := keep_laid hv hb0
  have hg0 : W0.heap[g]? = some (.cells cur 37 (0, 0)) := keep_laid hG hb0
  have hg1 : W1.drew.heap[g]? = some (.cells cur 37 (0, 0)) := c5 g _ (by omega) hg0
  have hcp1 : ∀ (W : World), W = W0 → ∀ ty dc, (Builtin.copy_ #[47, 47] ty #[.slice (some ⟨Y, i * 4, none⟩) (N - i) dc, .slice (some ⟨vb, 0, none⟩) 1 1]).run Try.prog W = .ok (goInt (1 : Nat)) W1 := fun W hW ty dc => by
    rw [hW1, hW]
    refine run_copy_wide W0 _ _ ty 37 4 Y (i * 4) (N - i) dc ⟨vb, 0, none⟩ 1 1 1 (nd4 t) Try.underlying47 hsz (by simp only [Nat.min_def]; split <;> omega) rfl ?_ ?_ ?_ (nd4_one t)
    · intro k u hu
      rw [Addr.add_lit, Nat.zero_add]
      exact cell_laid hv0 (by simpa [nd4] using hu)
    · intro k hk
      have hk4 : k < 4 := hk
      obtain ⟨v, hv⟩ : ∃ v, ROW[i * 4 + k]? = some v := ⟨_, Array.getElem?_eq_getElem (by omega)⟩
      rw [at_block hG0 hv]; rfl
    · exact fun k hk => free_laid hG0
  have hcp2 : ∀ ty dc sc, (Builtin.copy_ #[47, 47] ty #[.slice (some ⟨Y, j * 4, none⟩) (N - j) dc, .slice (some ⟨g, i * 4, none⟩) (n - i) sc]).run Try.prog W1.drew = .ok (goInt (n - i : Nat)) W2 := fun ty dc sc => by
    rw [hW2]
    refine run_copy_wide W1.drew _ _ ty 37 4 Y (j * 4) (N - j) dc ⟨g, i * 4, none⟩ (n - i) sc (n - i) (ndcells (L.drop i)) Try.underlying47 hsz (by simp only [Nat.min_def]; split <;> omega) hdl ?_ ?_ ?_ (ndcells_one _)
    · intro k u hu
      have hk : k < (n - i) * 4 := by
        have := (List.getElem?_eq_some_iff.1 hu).1
        rwa [hdl] at this
      rw [Addr.add_lit]
      refine at_block hg1 ?_
      rw [hcell _ (by omega)]
      rw [← ndcells_drop, List.getElem?_drop] at hu
      exact hu
    · intro k hk
      rw [hdl] at hk
      obtain ⟨v, hv⟩ : ∃ v, cur1[j * 4 + k]? = some v := ⟨_, Array.getElem?_eq_getElem (by omega)⟩
      rw [at_block c1d hv]; rfl
    · exact fun k hk => free_laid c1d
  have hlen : (L.take i ++ t :: L.drop i).length = N := by simp; omega
  have hend : Hid (W2.ownsRow base 37 4 (.slice (some ⟨Y, 0, none⟩) N G) N (ndcells (L.take i ++ t :: L.drop i)) ∧ V.grownBy W2 (some g)) := hid (by
    refine ⟨⟨by rw [ndcells_len, hlen]; omega, .inr ⟨Y, G, cur2, rfl, by omega, d1, hGn, hG63, by rw [d2, c2, hRs], ?_⟩⟩, ?_⟩
    · rw [hN]
      refine ins_cells L t i n (Nat.le_of_lt hi) hln cur2 (by rw [d2, c2, hRs]; omega) ?_ ?_ ?_
      · intro k hk
        rw [d3 k (.inl (by omega)), c3 k (.inl hk), hRl k hk, ← ndcells_take, List.getElem?_take, if_pos hk]
      · intro k v hk
        have hk4 : k < 4 := (List.getElem?_eq_some_iff.1 hk).1
        rw [d3 _ (.inl (by omega))]
        exact c4 k v hk (by rw [hRs]; omega)
      · intro k v hk
        have hk4 : k < (n - i) * 4 := by
          have := (List.getElem?_eq_some_iff.1 hk).1
          rwa [hdl] at this
        rw [← hj]
        exact d4 k v hk (by rw [c2, hRs]; omega)
    · have hb2 : Below V.heap.size V W2 := d6 _ _ (by omega) (c6 _ _ (by omega) hb0).drew
      exact ⟨hb2.os, hb2.tape, hb2.output, hb2.size, fun k hk _ => hb2.block k hk⟩)
  have e1 : IntKind.i64.wrap ((n : Int) + 1) = ((N : Nat) : Int) := by rw [IntKind.wrap_i64]; omega
  have e2 : IntKind.i64.wrap ((i : Int) + 1) = ((j : Nat) : Int) := by rw [IntKind.wrap_i64]; omega
  have e3 : IntKind.i64.wrap ((N : Int) - (i : Int)) = ((K : Nat) : Int) := by rw [IntKind.wrap_i64]; omega
  have t1 : decide ((c : Int) < (N : Int)) = true := by simp; omega
  have t1' : (c : Int) < (N : Int) := by omega
  have t2 : ((i : Int) == (n : Int)) = false := by simp; omega
  have t2' : ¬ ((i : Int) = (n : Int)) := by omega
  have k2 : j ≤ N := by omega
  have k3 : i ≤ N := by omega
  have k4 : ¬ (G = j) := by omega
  have k5 : ¬ (c = i) := by omega
  have k5' : ¬ (G = i) := by omega
  have k6 : j ≤ G := by omega
  have k7 : i ≤ c := by omega
  have k8 : i ≤ n := by omega
  have k9 : n ≤ c := by omega
  have k10 : i ≤ G := by omega
  have HLEN := hid hlen
  have mixed : Try.prog.follows .mixedOrders = true := by kernel_rfl
  rw [← hW0] at hrz
  clear hG hv hb0 hG0 c1 c1d c2 c3 c4 c5 c6 d1 d2 d3 d4 d5 d6 hW0 hW1 hW2 hcell hct hcs hln hdl htl hbg hN hj hv0 hg0 hg1 hroom hi hlen hsz hcm hY hRs hRl hROW hGe hold hi0 hz0 hzs hzb hzc hik hK hgs hvs
  go_enter Try.func31, Try.ntmps31
  go_wp2_with (first
    | (at_builtin; refine Lib.wpList_append_run _ rfl _ _ _ _ rfl _ _ rfl rfl _ _ (hrz _) ?_)
    | (at_builtin; refine wpList_copy_runI _ rfl _ _ 47 47 rfl _ _ rfl rfl (hcp1 _ rfl _ _) ?_))
  go_region_law_o (refine step_copy_runI rfl _ _ 47 47 rfl _ _ (by simp [Act.eval, Act.put]) (by simp [Act.eval, Act.put]) (hcp2 _ _ _) ?_)
  go_wp2
  go_ret
  exact ⟨_, rfl, by rw [HLEN.out]; exact hend.out.1, hend.out.2⟩
theorem Ins_any (L : List Nd) (t : Nd) (g n c i vb base : Nat) (V : World) (h : V.ownsRow base 37 4 (.slice (some ⟨g, 0, none⟩) n c) n (ndcells L)) (hln : L.length = n) (hn : n ≤ 5000) (hv : V.heap[vb]? = some (.cells #[.int .u64 ((t.1 : Nat) : Int), .int .u64 ((t.2.1 : Nat) : Int), .int .u64 ((t.2.2.1 : Nat) : Int), .int .u64 ((t.2.2.2 : Nat) : Int)] 37 (0, 0))) (hvg : vb ≠ g) (hbase : base ≤ V.heap.size) (hi : i ≤ n) :
    Calls Try.prog 31 #[.slice (some ⟨g, 0, none⟩) n c, .int .i64 ((i : Nat) : Int), .slice (some ⟨vb, 0, none⟩) 1 1] V (GivesIns (L.take i ++ t :: L.drop i) base g V) := by
  rcases Nat.eq_or_lt_of_le hi with e | e
  · exact InsEnd_any L t g n c i vb base V h hln hn hv hvg hbase e
  · by_cases hr : n + 1 ≤ c
    · exact InsRoom_any L t g n c i vb base V h hln hn hv hvg hbase e hr
    · exact InsGrow_any L t g n c i vb base V h hln hn hv hvg hbase e (by omega)
end Go.Proofs.Ytipohagcppfgiaa
namespace Go.Proofs.Ytipohagcppfgiaa
open Go.RowKit
open Go.Proofs
set_option linter.unusedVariables false

theorem editE_store {M : Mem} {s : Ede} (k q new : Nat) (hph : s.ph = k) (hk : k < 6) (h4 : k ≠ 4) (hq : (needE s k).2.1 = q) (hn : (needE s k).2.2 = new) (hl : liveN M q = true) :
    editE M s = (⟨M.W.set q new, M.L, M.F⟩, { s with ph := nextE k }, true) := by
  have e : s.ph.toNat = k := by omega
  have e1 : (s.ph != 4) = true := by simp; omega
  unfold editE
  rw [if_neg (by omega), e, hq, hn, e1, store_live hl, if_pos rfl, if_neg (by omega)]
theorem editE_load {M : Mem} {s : Ede} (q : Nat) (hph : s.ph = 4) (hq : posL s.at_ 2 = q) (hl : liveN M q = true) :
    editE M s = (M, { s with ph := 5, next := M.W.getD q 0 }, true) := by
  have e : s.ph.toNat = 4 := by omega
  have e1 : (s.ph != 4) = false := by simp; omega
  unfold editE
  rw [if_neg (by omega), e, e1]
  show ((stepM M false ((posL s.at_ 2 : Nat) : Int) 0).1, (if (stepM M false ((posL s.at_ 2 : Nat) : Int) 0).2.2 = true then ({ s with ph := 5, next := if s.ph = 4 then (stepM M false ((posL s.at_ 2 : Nat) : Int) 0).2.1 else s.next } : Ede) else { s with ph := 7 }), true) = _
  rw [hq, load_live hl, if_pos rfl, if_pos hph]
theorem liveN_set (M : Mem) (W : List Nat) (F : Bool) (q : Nat) : liveN ⟨W, M.L, F⟩ q = liveN M q := rfl
/-- All steps of who puts a node whose words are live. -/
theorem put_run {M : Mem} {link next : Nat} {t : Nd} (n : Nat) (ht : ∀ k, k < 4 → liveN M (posL t.1 k) = true) (hl : liveN M (posL link 0) = true) :
    editRun 8 M (putK link t next) n = (⟨((((M.W.set (posL t.1 0) t.2.1).set (posL t.1 1) t.2.2.1).set (posL t.1 3) t.2.2.2).set (posL t.1 2) next).set (posL link 0) t.1, M.L, M.F⟩, ⟨6, false, link, t.1, t.2.1, t.2.2.1, t.2.2.2, next⟩, n + 5) := by
  obtain ⟨a, k, v, h⟩ := t
  unfold putK
  dsimp only at ht ⊢
  have n0 : ¬ 6 ≤ (⟨0, false, link, a, k, v, h, next⟩ : Ede).ph := by show ¬ (6 : Int) ≤ 0; decide
  have n1 : ¬ 6 ≤ (⟨1, false, link, a, k, v, h, next⟩ : Ede).ph := by show ¬ (6 : Int) ≤ 1; decide
  have n2 : ¬ 6 ≤ (⟨2, false, link, a, k, v, h, next⟩ : Ede).ph := by show ¬ (6 : Int) ≤ 2; decide
  have n3 : ¬ 6 ≤ (⟨3, false, link, a, k, v, h, next⟩ : Ede).ph := by show ¬ (6 : Int) ≤ 3; decide
  have n5 : ¬ 6 ≤ (⟨5, false, link, a, k, v, h, next⟩ : Ede).ph := by show ¬ (6 : Int) ≤ 5; decide
  rw [editRun_step n0 (editE_store 0 (posL a 0) k rfl (by decide) (by decide) rfl rfl (ht 0 (by decide)))]
  show editRun 7 _ (⟨1, false, link, a, k, v, h, next⟩ : Ede) _ = _
  rw [editRun_step n1 (editE_store (M := ⟨M.W.set (posL a 0) k, M.L, M.F⟩) 1 (posL a 1) v rfl (by decide) (by decide) rfl rfl (ht 1 (by decide)))]
  show editRun 6 _ (⟨2, false, link, a, k, v, h, next⟩ : Ede) _ = _
  rw [editRun_step n2 (editE_store (M := ⟨(M.W.set (posL a 0) k).set (posL a 1) v, M.L, M.F⟩) 2 (posL a 3) h rfl (by decide) (by decide) rfl rfl (ht 3 (by decide)))]
  show editRun 5 _ (⟨3, false, link, a, k, v, h, next⟩ : Ede) _ = _
  rw [editRun_step n3 (editE_store (M := ⟨((M.W.set (posL a 0) k).set (posL a 1) v).set (posL a 3) h, M.L, M.F⟩) 3 (posL a 2) next rfl (by decide) (by decide) rfl rfl (ht 2 (by decide)))]
  show editRun 4 _ (⟨5, false, link, a, k, v, h, next⟩ : Ede) _ = _
  rw [editRun_step n5 (editE_store (M := ⟨(((M.W.set (posL a 0) k).set (posL a 1) v).set (posL a 3) h).set (posL a 2) next, M.L, M.F⟩) 5 (posL link 0) a rfl (by decide) (by decide) rfl rfl hl)]
  show editRun 3 _ (⟨6, false, link, a, k, v, h, next⟩ : Ede) _ = _
  rw [editRun_end (by show (6 : Int) ≤ 6; decide)]
/-- All steps of who cuts a node. -/
theorem cut_run {M : Mem} {link node : Nat} (n : Nat) (ht : liveN M (posL node 2) = true) (hl : liveN M (posL link 0) = true) :
    editRun 8 M (cutK link node) n = (⟨M.W.set (posL link 0) (wAt M node 2), M.L, M.F⟩, ⟨6, true, link, node, 0, 0, 0, wAt M node 2⟩, n + 2) := by
  unfold cutK
  have n4 : ¬ 6 ≤ (⟨4, true, link, node, 0, 0, 0, 0⟩ : Ede).ph := by show ¬ (6 : Int) ≤ 4; decide
  have n5 : ¬ 6 ≤ (⟨5, true, link, node, 0, 0, 0, M.W.getD (posL node 2) 0⟩ : Ede).ph := by show ¬ (6 : Int) ≤ 5; decide
  rw [editRun_step n4 (editE_load (posL node 2) rfl rfl ht)]
  show editRun 7 _ (⟨5, true, link, node, 0, 0, 0, M.W.getD (posL node 2) 0⟩ : Ede) _ = _
  rw [editRun_step n5 (editE_store 5 (posL link 0) (M.W.getD (posL node 2) 0) rfl (by decide) (by decide) rfl rfl hl)]
  show editRun 6 _ (⟨6, true, link, node, 0, 0, 0, M.W.getD (posL node 2) 0⟩ : Ede) _ = _
  rw [editRun_end (by show (6 : Int) ≤ 6; decide)]
  rfl
/-- Where who seeks ends: its link is the head's, or a node's. -/
theorem findS_link {hash key : Nat} : ∀ (link : Nat) (xs : List Nd), (findS hash key link xs).1.link = link ∨ ∃ x ∈ xs, (findS hash key link xs).1.link = x.1 + 2
  | link, [] => .inl rfl
  | link, x :: r => by
    have hr := findS_link (hash := hash) (key := key) (x.1 + 2) r
    have hx : (findS hash key (x.1 + 2) r).1.link = link ∨ ∃ y ∈ x :: r, (findS hash key (x.1 + 2) r).1.link = y.1 + 2 := by
      rcases hr with h | ⟨y, hy, h⟩
      · exact .inr ⟨x, List.mem_cons_self .., h⟩
      · exact .inr ⟨y, List.mem_cons_of_mem _ hy, h⟩
    unfold findS
    split
    · exact hx
    · split
      · exact .inl rfl
      · split
        · exact hx
        · split <;> exact .inl rfl
theorem chain_live {M : Mem} (hok : okM M = true) : ∀ (p : Nat) (xs : List Nd), ChainP M p xs → ∀ x ∈ xs, x.1 < 4096 ∧ (∀ k, k < 4 → liveN M (posL x.1 k) = true) ∧ posL (x.1 + 2) 0 = posL x.1 2
  | p, [], h, x, hx => by cases hx
  | p, y :: r, h, x, hx => by
    obtain ⟨h1, h2, h3, h4⟩ := h
    rcases List.mem_cons.1 hx with rfl | hx
    · obtain ⟨q1, q2, q3⟩ := live_small hok (h3 2 (by decide))
      have e : x.1 = p := by rw [h1]; rfl
      rw [e]
      obtain ⟨o1, o2, -⟩ := okM_spec hok
      exact ⟨q1, h3, by rw [q2]; unfold posL; omega⟩
    · exact chain_live hok _ r h4 x hx
theorem link_live {M : Mem} {head hash key : Nat} {xs : List Nd} (hok : okM M = true) (h : nodesR M head = some xs) : liveN M (posL (findS hash key head xs).1.link 0) = true := by
  obtain ⟨hw, -⟩ := nodesR_some h
  obtain ⟨h1, h2⟩ := nodesW_chain hw
  rcases findS_link (hash := hash) (key := key) head xs with e | ⟨x, hx, e⟩
  · rw [e]; exact h1
  · obtain ⟨-, q2, q3⟩ := chain_live hok _ _ h2 x hx
    rw [e, q3]; exact q2 2 (by decide)
theorem findS_found {hash key : Nat} : ∀ (link : Nat) (xs : List Nd), (findS hash key link xs).1.found = true → ∃ x ∈ xs, (findS hash key link xs).1.node = x.1 ∧ (findS hash key link xs).1.val = x.2.2.1 ∧ x.2.1 = key ∧ x.2.2.2 = hash
  | link, [], h => by cases h
  | link, x :: r, h => by
    unfold findS at h ⊢
    split at h
    · rename_i c
      rw [if_pos c]
      obtain ⟨y, hy, h'⟩ := findS_found _ r h
      exact ⟨y, List.mem_cons_of_mem _ hy, h'⟩
    · rename_i c
      rw [if_neg c]
      split at h
      · cases h
      · rename_i c2
        rw [if_neg c2]
        split at h
        · rename_i c3
          rw [if_pos c3]
          obtain ⟨y, hy, h'⟩ := findS_found _ r h
          exact ⟨y, List.mem_cons_of_mem _ hy, h'⟩
        · rename_i c3
          rw [if_neg c3]
          split at h
          · cases h
          · rename_i c4
            rw [if_neg c4]
            exact ⟨x, List.mem_cons_self .., rfl, rfl, by omega, by omega⟩
theorem fitsP_spec {M : Mem} {head : Nat} {xs : List Nd} {t : Nd} (h : fitsP M head xs t = true) : t.1 ≠ 0 ∧ ∀ k, k < 4 → liveN M (posL t.1 k) = true ∧ posL t.1 k ∉ wordsL head xs := by
  unfold fitsP at h
  rw [Bool.and_eq_true, decide_eq_true_eq, List.all_eq_true] at h
  refine ⟨h.1, fun k hk => ?_⟩
  have := h.2 k (by simp [List.mem_range']; omega)
  rw [Bool.and_eq_true, Bool.not_eq_true', decide_eq_false_iff_not] at this
  exact this
/-- What the document's Insert, and Remove, come to. -/
def rinsP (M : Mem) (head : Nat) (xs : List Nd) (t : Nd) : Mem × Nat × Nat := if fitsP M head xs t = false then (zeroM, 0, 2) else
  if (findS t.2.2.2 t.2.1 head xs).1.found = true then (zeroM, 0, 5) else
  ((editRun 8 M (putK (findS t.2.2.2 t.2.1 head xs).1.link t (findS t.2.2.2 t.2.1 head xs).1.node) 0).1, (findS t.2.2.2 t.2.1 head xs).2 + 5, 0)
def rremP (M : Mem) (head : Nat) (xs : List Nd) (hash key : Nat) : Mem × Nat × Nat := if (findS hash key head xs).1.found = false then (zeroM, 0, 4) else
  ((editRun 8 M (cutK (findS hash key head xs).1.link (findS hash key head xs).1.node) 0).1, (findS hash key head xs).1.node, 0)
theorem nodesP_some {M : Mem} {head : Nat} {xs : List Nd} (hok : okM M = true) (h : nodesR M head = some xs) : nodesP M head = (xs, 0) := by
  unfold nodesP
  rw [hok, if_neg (by decide), h]
theorem nodesP_none {M : Mem} {head : Nat} (hok : okM M = true) (h : nodesR M head = none) : nodesP M head = ([], 250) := by
  unfold nodesP
  rw [hok, if_neg (by decide), h]
theorem nodesP_bad {M : Mem} {head : Nat} (hok : okM M = false) : nodesP M head = ([], 120) := by
  unfold nodesP
  rw [hok, if_pos rfl]
theorem ins_same {M : Mem} {head : Nat} {xs : List Nd} {t : Nd} (hok : okM M = true) (h : nodesR M head = some xs) : insP M head t = rinsP M head xs t := by
  unfold insP rinsP
  rw [nodesP_some hok h]
  rw [if_neg (by simp)]
  dsimp only
  cases hf : fitsP M head xs t with
  | false => rw [if_pos rfl, if_pos rfl]
  | true =>
    rw [if_neg (show ¬ (true = false) by decide), if_neg (show ¬ (true = false) by decide)]
    split
    · rfl
    · obtain ⟨f1, f2⟩ := fitsP_spec hf
      have hl := link_live (hash := t.2.2.2) (key := t.2.1) hok h
      rw [put_run _ (fun k hk => (f2 k hk).1) hl, put_run _ (fun k hk => (f2 k hk).1) hl]
theorem rem_same {M : Mem} {head hash key : Nat} {xs : List Nd} (hok : okM M = true) (h : nodesR M head = some xs) : remP M head hash key = rremP M head xs hash key := by
  unfold remP rremP
  rw [nodesP_some hok h]
  rw [if_neg (by simp)]
  dsimp only
  cases hf : (findS hash key head xs).1.found with
  | false => rw [if_pos rfl, if_pos rfl]
  | true =>
    rw [if_neg (show ¬ (true = false) by decide), if_neg (show ¬ (true = false) by decide)]
    obtain ⟨x, hx, e1, -, -, -⟩ := findS_found head xs hf
    obtain ⟨hw, -⟩ := nodesR_some h
    obtain ⟨-, q2, -⟩ := chain_live hok _ _ (nodesW_chain hw).2 x hx
    have hl := link_live (hash := hash) (key := key) hok h
    have hn : liveN M (posL (findS hash key head xs).1.node 2) = true := by rw [e1]; exact q2 2 (by decide)
    rw [cut_run _ hn hl, cut_run _ hn hl]
end Go.Proofs.Ytipohagcppfgiaa
namespace Go.Proofs.Ytipohagcppfgiaa
open Go.RowKit
open Go.Proofs
set_option linter.unusedVariables false

def rdL (W : List Nat) (a : Nat) : Nat := W.getD a 0
theorem rdL_set {W : List Nat} {j v i : Nat} (hj : j < W.length) : rdL (W.set j v) i = if i = j then v else rdL W i := by
  unfold rdL
  rw [List.getD_eq_getElem?_getD, List.getD_eq_getElem?_getD, List.getElem?_set]
  by_cases h : j = i
  · subst h; rw [if_pos rfl, if_pos hj, if_pos rfl]; rfl
  · rw [if_neg h, if_neg (fun e => h e.symm)]
theorem rdL_same {W : List Nat} {j v : Nat} (hj : j < W.length) : rdL (W.set j v) j = v := by rw [rdL_set hj, if_pos rfl]
theorem rdL_other {W : List Nat} {j v i : Nat} (hj : j < W.length) (h : i ≠ j) : rdL (W.set j v) i = rdL W i := by rw [rdL_set hj, if_neg h]
abbrev w4L (x : Nd) : List Nat := [posL x.1 0, posL x.1 1, posL x.1 2, posL x.1 3]
def wlL (xs : List Nd) : List Nat := xs.flatMap fun x => [posL x.1 0, posL x.1 1, posL x.1 2, posL x.1 3]
theorem wlL_cons (t : Nd) (xs : List Nd) : wlL (t :: xs) = w4L t ++ wlL xs := by simp [wlL]
theorem wlL_append (xs ys : List Nd) : wlL (xs ++ ys) = wlL xs ++ wlL ys := by simp [wlL]
theorem wordsL_eq (head : Nat) (xs : List Nd) : wordsL head xs = posL head 0 :: wlL xs := rfl
theorem mem_w4L (t : Nd) (k : Nat) (hk : k < 4) : posL t.1 k ∈ w4L t := by
  match k, hk with
  | 0, _ => simp
  | 1, _ => simp
  | 2, _ => simp
  | 3, _ => simp
theorem mem_wlL {t : Nd} {xs : List Nd} (h : t ∈ xs) (k : Nat) (hk : k < 4) : posL t.1 k ∈ wlL xs := List.mem_flatMap.2 ⟨t, h, mem_w4L t k hk⟩
/-- Links that lead on from a word. -/
def lnkL (W : List Nat) : Nat → List Nd → Prop
  | a, [] => rdL W a = 0
  | a, t :: ts => rdL W a = t.1 ∧ t.1 ≠ 0 ∧ rdL W (posL t.1 0) = t.2.1 ∧ rdL W (posL t.1 1) = t.2.2.1 ∧ rdL W (posL t.1 3) = t.2.2.2 ∧ lnkL W (posL t.1 2) ts
theorem lnk_of {M : Mem} : ∀ (xs : List Nd) (a : Nat), ChainP M (rdL M.W a) xs → lnkL M.W a xs
  | [], a, h => h
  | x :: r, a, h => by
    obtain ⟨h1, h2, h3, h4⟩ := h
    have e : x.1 = rdL M.W a := by rw [h1]; rfl
    refine ⟨e.symm, by rw [e]; exact h2, ?_, ?_, ?_, lnk_of r _ ?_⟩
    · rw [e]; rw [h1]; rfl
    · rw [e]; rw [h1]; rfl
    · rw [e]; rw [h1]; rfl
    · rw [e]; exact h4
theorem lnk_to {M : Mem} : ∀ (xs : List Nd) (a : Nat), lnkL M.W a xs → (∀ w ∈ wlL xs, liveN M w = true) → ChainP M (rdL M.W a) xs
  | [], a, h, _ => h
  | x :: r, a, h, hl => by
    obtain ⟨h1, h2, h3, h4, h5, h6⟩ := h
    have hx : x = ndAt M (rdL M.W a) := by
      rw [h1]
      show x = (x.1, rdL M.W (posL x.1 0), rdL M.W (posL x.1 1), rdL M.W (posL x.1 3))
      rw [h3, h4, h5]
    refine ⟨hx, by rw [h1]; exact h2, fun k hk => ?_, ?_⟩
    · rw [h1]; exact hl _ (mem_wlL (List.mem_cons_self ..) k hk)
    · rw [h1]; exact lnk_to r _ h6 (fun w hw => hl w (by rw [wlL_cons]; exact List.mem_append_right _ hw))
theorem takeP_mk (M : Mem) (p : Nat) : ∀ (ks met : List Nat), (met ++ ks.map (posL p)).Nodup → (∀ k ∈ ks, liveN M (posL p k) = true) → takeP M p ks met = some (met ++ ks.map (posL p))
  | [], met, hn, hl => by simp [takeP]
  | k :: ks, met, hn, hl => by
    unfold takeP
    have h1 : posL p k ∉ met := by
      intro hm
      rw [List.nodup_append] at hn
      exact hn.2.2 _ hm _ (List.mem_map.2 ⟨k, List.mem_cons_self, rfl⟩) rfl
    rw [if_pos (by unfold freeB; rw [hl k List.mem_cons_self, decide_eq_false h1]; rfl)]
    rw [takeP_mk M p ks _ (by simpa using hn) (fun j hj => hl j (List.mem_cons_of_mem _ hj))]
    simp
theorem goW_mk {M : Mem} : ∀ (new : List Nd) (f place : Nat) (met : List Nat) (out : List Nd), ChainP M place new → (met ++ wlL new).Nodup → new.length < f → goW M f place met out = some (out ++ new)
  | _, 0, _, _, _, _, _, hf => by omega
  | [], f + 1, place, met, out, h1, hn, hf => by
    have h0 : place = 0 := h1
    subst h0
    rw [goW_zero]; simp
  | t :: ts, f + 1, place, met, out, h1, hn, hf => by
    obtain ⟨q1, q2, q3, q4⟩ := h1
    have e : t.1 = place := by rw [q1]; rfl
    rw [wlL_cons] at hn
    have hr : (List.range 4).map (posL place) = w4L t := by rw [← e]; rfl
    have ht := takeP_mk M place (List.range 4) met (by rw [hr]; rw [← List.append_assoc] at hn; exact (List.nodup_append.1 hn).1) (fun k hk => q3 k (List.mem_range.1 hk))
    rw [goW_some q2 ht, hr]
    rw [goW_mk ts f (wAt M place 2) (met ++ w4L t) (out ++ [ndAt M place]) q4 (by rw [List.append_assoc]; exact hn) (by simp at hf; omega)]
    rw [← q1]; simp
/-- A list lies so. -/
structure ChainL (M : Mem) (head : Nat) (xs : List Nd) : Prop where
  nd : (wordsL head xs).Nodup
  live : ∀ w ∈ wordsL head xs, liveN M w = true
  fw : lnkL M.W (posL head 0) xs
  inc : incr xs = true
theorem chain_of {M : Mem} {head : Nat} {xs : List Nd} (h : nodesR M head = some xs) : ChainL M head xs := by
  obtain ⟨hw, hi⟩ := nodesR_some h
  obtain ⟨h1, h2⟩ := nodesW_words hw
  exact ⟨h1, h2, lnk_of _ _ (nodesW_chain hw).2, hi⟩
theorem chain_len {M : Mem} {head : Nat} {xs : List Nd} (hok : okM M = true) (h : ChainL M head xs) : 4 * xs.length + 1 ≤ 4096 := by
  obtain ⟨q1, q2, q3, -⟩ := okM_spec hok
  have := nodup_lt (n := M.L.length) h.nd (fun x hx => live_lt (h.live x hx))
  have e : (wordsL head xs).length = 4 * xs.length + 1 := by unfold wordsL; rw [List.length_cons, flat4_len]
  omega
theorem of_chain {M : Mem} {head : Nat} {xs : List Nd} (hok : okM M = true) (h : ChainL M head xs) : nodesR M head = some xs := by
  have hl := chain_len hok h
  have h0 : liveN M (posL head 0) = true := h.live _ (List.mem_cons_self ..)
  have ht := takeP_mk M head [0] [] (by simp) (fun k hk => by simp at hk; subst hk; exact h0)
  have hg := goW_mk xs 4101 (wAt M head 0) ([] ++ [0].map (posL head)) [] (lnk_to _ _ h.fw (fun w hw => h.live w (List.mem_cons_of_mem _ hw))) h.nd (by omega)
  unfold nodesR
  rw [nodesW_some ht, hg]
  dsimp only
  rw [List.nil_append, if_pos h.inc]
/-- Links that lead on from a word to another one. -/
def segL (W : List Nat) : Nat → List Nd → Prop
  | _, [] => True
  | a, t :: ts => rdL W a = t.1 ∧ t.1 ≠ 0 ∧ rdL W (posL t.1 0) = t.2.1 ∧ rdL W (posL t.1 1) = t.2.2.1 ∧ rdL W (posL t.1 3) = t.2.2.2 ∧ segL W (posL t.1 2) ts
def endL : Nat → List Nd → Nat
  | a, [] => a
  | _, t :: ts => endL (posL t.1 2) ts
def fstL : List Nd → Nat
  | [] => 0
  | t :: _ => t.1
theorem lnk_append {W : List Nat} : ∀ (l1 l2 : List Nd) (a : Nat), lnkL W a (l1 ++ l2) ↔ segL W a l1 ∧ lnkL W (endL a l1) l2
  | [], l2, a => by simp [segL, endL]
  | t :: ts, l2, a => by
    show (rdL W a = t.1 ∧ _ ∧ _ ∧ _ ∧ _ ∧ lnkL W (posL t.1 2) (ts ++ l2)) ↔ (rdL W a = t.1 ∧ _ ∧ _ ∧ _ ∧ _ ∧ segL W (posL t.1 2) ts) ∧ lnkL W (endL (posL t.1 2) ts) l2
    rw [lnk_append ts l2]
    constructor
    · rintro ⟨a1, a2, a3, a4, a5, a6, a7⟩; exact ⟨⟨a1, a2, a3, a4, a5, a6⟩, a7⟩
    · rintro ⟨⟨a1, a2, a3, a4, a5, a6⟩, a7⟩; exact ⟨a1, a2, a3, a4, a5, a6, a7⟩
theorem lnk_fst {W : List Nat} {a : Nat} {xs : List Nd} (h : lnkL W a xs) : rdL W a = fstL xs := by
  cases xs with
  | nil => exact h
  | cons t ts => exact h.1
theorem endL_mem : ∀ (l : List Nd) (a : Nat), endL a l ∈ a :: wlL l
  | [], a => List.mem_cons_self ..
  | t :: ts, a => by
    have := endL_mem ts (posL t.1 2)
    rw [wlL_cons]
    rcases List.mem_cons.1 this with h | h
    · show endL (posL t.1 2) ts ∈ _
      rw [h]; simp
    · exact List.mem_cons_of_mem _ (List.mem_append_right _ h)
theorem lnk_congr {W W' : List Nat} : ∀ (xs : List Nd) (a a' : Nat), lnkL W a xs → rdL W' a' = rdL W a → (∀ w ∈ wlL xs, rdL W' w = rdL W w) → lnkL W' a' xs
  | [], a, a', h, e, _ => by show rdL W' a' = 0; rw [e]; exact h
  | t :: ts, a, a', h, e, hw => by
    obtain ⟨q1, q2, q3, q4, q5, q6⟩ := h
    rw [wlL_cons] at hw
    have hm := fun k hk => hw _ (List.mem_append_left _ (mem_w4L t k hk))
    exact ⟨by rw [e]; exact q1, q2, by rw [hm 0 (by decide)]; exact q3, by rw [hm 1 (by decide)]; exact q4, by rw [hm 3 (by decide)]; exact q5, lnk_congr ts _ _ q6 (hm 2 (by decide)) (fun w h => hw w (List.mem_append_right _ h))⟩
theorem seg_congr {W W' : List Nat} : ∀ (l : List Nd) (a : Nat), segL W a l → (a :: wlL l).Nodup → (∀ w ∈ a :: wlL l, w ≠ endL a l → rdL W' w = rdL W w) → segL W' a l
  | [], a, h, _, _ => trivial
  | t :: ts, a, h, hn, hw => by
    obtain ⟨q1, q2, q3, q4, q5, q6⟩ := h
    have hE := endL_mem ts (posL t.1 2)
    have hn' := hn
    rw [wlL_cons] at hn'
    have hnn : (a :: posL t.1 0 :: posL t.1 1 :: posL t.1 2 :: posL t.1 3 :: wlL ts).Nodup := by simpa using hn'
    simp only [List.nodup_cons, List.mem_cons, not_or] at hnn
    obtain ⟨⟨a0, a1, a2, a3, a4⟩, ⟨b1, b2, b3, b4⟩, ⟨c2, c3, c4⟩, ⟨d3, d4⟩, e4, f⟩ := hnn
    have hE' : endL (posL t.1 2) ts = posL t.1 2 ∨ endL (posL t.1 2) ts ∈ wlL ts := List.mem_cons.1 hE
    have off : ∀ w, w ≠ posL t.1 2 → w ∉ wlL ts → w ≠ endL a (t :: ts) := by
      intro w h1 h2 h3
      have h3 : w = endL (posL t.1 2) ts := h3
      rcases hE' with h4 | h4
      · exact h1 (by rw [h3, h4])
      · exact h2 (by rw [h3]; exact h4)
    have mem : ∀ k, k < 4 → posL t.1 k ∈ a :: wlL (t :: ts) := fun k hk => List.mem_cons_of_mem _ (by rw [wlL_cons]; exact List.mem_append_left _ (mem_w4L t k hk))
    refine ⟨by rw [hw a (List.mem_cons_self ..) (off a a2 a4)]; exact q1, q2, ?_, ?_, ?_, seg_congr ts _ q6 ?_ ?_⟩
    · rw [hw _ (mem 0 (by decide)) (off _ (by omega) b4)]; exact q3
    · rw [hw _ (mem 1 (by decide)) (off _ (by omega) c4)]; exact q4
    · rw [hw _ (mem 3 (by decide)) (off _ (by omega) e4)]; exact q5
    · exact List.nodup_cons.2 ⟨d4, f⟩
    · intro w h1 h2
      refine hw w ?_ h2
      rcases List.mem_cons.1 h1 with h1 | h1
      · rw [h1]; exact mem 2 (by decide)
      · exact List.mem_cons_of_mem _ (by rw [wlL_cons]; exact List.mem_append_right _ h1)
/-- The words of a list that is in two parts. -/
theorem words_append (head : Nat) (l1 l2 : List Nd) : wordsL head (l1 ++ l2) = (posL head 0 :: wlL l1) ++ wlL l2 := by rw [wordsL_eq, wlL_append]; simp
theorem lnk_ins {W W' : List Nat} {head : Nat} {l1 l2 : List Nd} {t : Nd} (hn : (wordsL head (l1 ++ l2)).Nodup) (hf : lnkL W (posL head 0) (l1 ++ l2)) (ht0 : t.1 ≠ 0)
    (hk : ∀ w ∈ wordsL head (l1 ++ l2), w ≠ endL (posL head 0) l1 → rdL W' w = rdL W w) (hE : rdL W' (endL (posL head 0) l1) = t.1)
    (h0 : rdL W' (posL t.1 0) = t.2.1) (h1 : rdL W' (posL t.1 1) = t.2.2.1) (h3 : rdL W' (posL t.1 3) = t.2.2.2) (h2 : rdL W' (posL t.1 2) = fstL l2) : lnkL W' (posL head 0) (l1 ++ t :: l2) := by
  rw [lnk_append] at hf ⊢
  rw [words_append] at hn hk
  obtain ⟨f1, f2⟩ := hf
  obtain ⟨n1, n2, n3⟩ := List.nodup_append.1 hn
  refine ⟨seg_congr _ _ f1 n1 (fun w hw => hk w (List.mem_append_left _ hw)), hE, ht0, h0, h1, h3, lnk_congr l2 _ _ f2 (by rw [h2, lnk_fst f2]) (fun w hw => hk w (List.mem_append_right _ hw) (fun e => n3 _ (endL_mem l1 _) _ hw e.symm))⟩
theorem lnk_rem {W W' : List Nat} {head : Nat} {l1 l2 : List Nd} {t : Nd} (hn : (wordsL head (l1 ++ t :: l2)).Nodup) (hf : lnkL W (posL head 0) (l1 ++ t :: l2))
    (hk : ∀ w ∈ wordsL head (l1 ++ t :: l2), w ≠ endL (posL head 0) l1 → rdL W' w = rdL W w) (hE : rdL W' (endL (posL head 0) l1) = fstL l2) : lnkL W' (posL head 0) (l1 ++ l2) := by
  rw [lnk_append] at hf ⊢
  rw [words_append] at hn hk
  obtain ⟨f1, -, -, -, -, -, f2⟩ := hf
  obtain ⟨n1, n2, n3⟩ := List.nodup_append.1 hn
  refine ⟨seg_congr _ _ f1 n1 (fun w hw => hk w (List.mem_append_left _ hw)), lnk_congr l2 _ _ f2 (by rw [hE, lnk_fst f2]) (fun w hw => ?_)⟩
  have hw' : w ∈ wlL (t :: l2) := by rw [wlL_cons]; exact List.mem_append_right _ hw
  exact hk w (List.mem_append_right _ hw') (fun e => n3 _ (endL_mem l1 _) _ hw' e.symm)
/-- What is cut leads on to where it led. -/
theorem lnk_mid {W : List Nat} {a : Nat} {l1 l2 : List Nd} {t : Nd} (hf : lnkL W a (l1 ++ t :: l2)) : rdL W (posL t.1 2) = fstL l2 := by
  rw [lnk_append] at hf
  exact lnk_fst hf.2.2.2.2.2.2
/-- Order. -/
theorem ahead_trans {a b c : Nd} (h : aheadN a b = true) (h' : aheadN b c = true) : aheadN a c = true := by
  unfold aheadN at *
  simp only [Bool.or_eq_true, Bool.and_eq_true, decide_eq_true_eq] at *
  omega
theorem ahead_iff (a b : Nd) : aheadN a b = true ↔ a.2.2.2 < b.2.2.2 ∨ (a.2.2.2 = b.2.2.2 ∧ a.2.1 < b.2.1) := by
  unfold aheadN
  simp only [Bool.or_eq_true, Bool.and_eq_true, decide_eq_true_eq]
theorem incr_pw : ∀ xs : List Nd, incr xs = true ↔ xs.Pairwise (fun a b => aheadN a b = true)
  | [] => by simp [incr]
  | [x] => by simp [incr]
  | x :: y :: r => by
    have ih := incr_pw (y :: r)
    unfold incr
    rw [Bool.and_eq_true, ih, List.pairwise_cons (l := y :: r)]
    constructor
    · rintro ⟨h1, h2⟩
      refine ⟨fun z hz => ?_, h2⟩
      rcases List.mem_cons.1 hz with rfl | hz
      · exact h1
      · exact ahead_trans h1 ((List.pairwise_cons.1 h2).1 z hz)
    · rintro ⟨h1, h2⟩
      exact ⟨h1 y (List.mem_cons_self ..), h2⟩
/-- The address of a list's last link. -/
def endA : Nat → List Nd → Nat
  | a, [] => a
  | _, t :: ts => endA (t.1 + 2) ts
theorem endA_word {M : Mem} (hok : okM M = true) : ∀ (l : List Nd) (a : Nat), (∀ w ∈ wlL l, liveN M w = true) → posL (endA a l) 0 = endL (posL a 0) l
  | [], a, _ => rfl
  | t :: ts, a, h => by
    rw [wlL_cons] at h
    have hl := h _ (List.mem_append_left _ (mem_w4L t 2 (by decide)))
    obtain ⟨q1, q2, q3⟩ := live_small hok hl
    obtain ⟨o1, o2, -⟩ := okM_spec hok
    have := endA_word hok ts (t.1 + 2) (fun w hw => h w (List.mem_append_right _ hw))
    show posL (endA (t.1 + 2) ts) 0 = endL (posL t.1 2) ts
    rw [this]
    have e : posL (t.1 + 2) 0 = posL t.1 2 := by rw [q2]; unfold posL; omega
    rw [e]
/-- Where who seeks stands: in front of it all is ahead. -/
theorem findS_split (hash key : Nat) : ∀ (link : Nat) (xs : List Nd), ∃ l1 l2, xs = l1 ++ l2 ∧ (findS hash key link xs).1.link = endA link l1 ∧ (findS hash key link xs).1.node = fstL l2 ∧
    (∀ x ∈ l1, x.2.2.2 < hash ∨ (x.2.2.2 = hash ∧ x.2.1 < key)) ∧
    ((findS hash key link xs).1.found = false → ∀ x r, l2 = x :: r → hash < x.2.2.2 ∨ (hash = x.2.2.2 ∧ key < x.2.1)) ∧
    ((findS hash key link xs).1.found = true → ∃ x r, l2 = x :: r ∧ x.2.1 = key ∧ x.2.2.2 = hash ∧ (findS hash key link xs).1.val = x.2.2.1)
  | link, [] => ⟨[], [], rfl, rfl, rfl, by simp, by intro _ x r h; (cases h), by intro h; cases h⟩
  | link, x :: r => by
    obtain ⟨l1, l2, e1, e2, e3, e4, e5, e6⟩ := findS_split hash key (x.1 + 2) r
    have on : (x.2.2.2 < hash ∨ (x.2.2.2 = hash ∧ x.2.1 < key)) → ∀ y ∈ x :: l1, y.2.2.2 < hash ∨ (y.2.2.2 = hash ∧ y.2.1 < key) := by
      intro h y hy
      rcases List.mem_cons.1 hy with rfl | hy
      · exact h
      · exact e4 y hy
    unfold findS
    split
    · exact ⟨x :: l1, l2, by rw [e1]; rfl, e2, e3, on (by omega), e5, e6⟩
    · split
      · exact ⟨[], x :: r, rfl, rfl, rfl, by simp, (by intro _ y s h; cases h; omega), by intro h; cases h⟩
      · split
        · exact ⟨x :: l1, l2, by rw [e1]; rfl, e2, e3, on (by omega), e5, e6⟩
        · split
          · exact ⟨[], x :: r, rfl, rfl, rfl, by simp, (by intro _ y s h; cases h; omega), by intro h; cases h⟩
          · exact ⟨[], x :: r, rfl, rfl, rfl, by simp, (by intro h; cases h), fun _ => ⟨x, r, rfl, by omega, by omega, rfl⟩⟩
/-- Who is in a list in order is found there. -/
theorem findS_in {hash key link : Nat} {xs : List Nd} (hi : incr xs = true) {x : Nd} (hx : x ∈ xs) (hk : x.2.1 = key) (hh : x.2.2.2 = hash) : (findS hash key link xs).1.found = true ∧ (findS hash key link xs).1.node = x.1 ∧ (findS hash key link xs).1.val = x.2.2.1 := by
  obtain ⟨l1, l2, e1, e2, e3, e4, e5, e6⟩ := findS_split hash key link xs
  have hp := (incr_pw xs).1 hi
  rw [e1] at hp hx
  obtain ⟨p1, p2, p3⟩ := List.pairwise_append.1 hp
  rcases List.mem_append.1 hx with h | h
  · have := e4 x h; omega
  · cases l2 with
    | nil => cases h
    | cons y r =>
      have hy : ∀ z ∈ r, aheadN y z = true := (List.pairwise_cons.1 p2).1
      cases hf : (findS hash key link xs).1.found with
      | false =>
        have q := e5 hf y r rfl
        rcases List.mem_cons.1 h with rfl | h
        · omega
        · have := (ahead_iff _ _).1 (hy x h); omega
      | true =>
        obtain ⟨y', r', e, q1, q2, q3⟩ := e6 hf
        cases e
        rcases List.mem_cons.1 h with rfl | h
        · exact ⟨rfl, e3, q3⟩
        · have := (ahead_iff _ _).1 (hy x h); omega
/-- Put in where who seeks stands, the list stays in order. -/
theorem incr_ins {l1 l2 : List Nd} {t : Nd} (hi : incr (l1 ++ l2) = true) (h1 : ∀ x ∈ l1, x.2.2.2 < t.2.2.2 ∨ (x.2.2.2 = t.2.2.2 ∧ x.2.1 < t.2.1)) (h2 : ∀ x r, l2 = x :: r → t.2.2.2 < x.2.2.2 ∨ (t.2.2.2 = x.2.2.2 ∧ t.2.1 < x.2.1)) : incr (l1 ++ t :: l2) = true := by
  rw [incr_pw] at hi ⊢
  obtain ⟨p1, p2, p3⟩ := List.pairwise_append.1 hi
  have ht : ∀ y ∈ l2, aheadN t y = true := by
    intro y hy
    cases l2 with
    | nil => cases hy
    | cons z r =>
      have hz := (ahead_iff t z).2 (h2 z r rfl)
      rcases List.mem_cons.1 hy with rfl | hy
      · exact hz
      · exact ahead_trans hz ((List.pairwise_cons.1 p2).1 y hy)
  refine List.pairwise_append.2 ⟨p1, List.pairwise_cons.2 ⟨ht, p2⟩, fun a ha b hb => ?_⟩
  rcases List.mem_cons.1 hb with rfl | hb
  · exact (ahead_iff _ _).2 (h1 a ha)
  · exact p3 a ha b hb
theorem incr_rem {l1 l2 : List Nd} {t : Nd} (hi : incr (l1 ++ t :: l2) = true) : incr (l1 ++ l2) = true ∧ ∀ x ∈ l1 ++ l2, ¬(x.2.1 = t.2.1 ∧ x.2.2.2 = t.2.2.2) := by
  rw [incr_pw] at hi ⊢
  obtain ⟨p1, p2, p3⟩ := List.pairwise_append.1 hi
  obtain ⟨q1, q2⟩ := List.pairwise_cons.1 p2
  refine ⟨List.pairwise_append.2 ⟨p1, q2, fun a ha b hb => p3 a ha b (List.mem_cons_of_mem _ hb)⟩, fun x hx => ?_⟩
  rcases List.mem_append.1 hx with h | h
  · have := (ahead_iff _ _).1 (p3 x h t (List.mem_cons_self ..)); omega
  · have := (ahead_iff _ _).1 (q1 x h); omega
theorem incr_mid {l1 l2 : List Nd} {t : Nd} (hi : incr (l1 ++ t :: l2) = true) : t ∉ l1 := by
  rw [incr_pw] at hi
  obtain ⟨p1, p2, p3⟩ := List.pairwise_append.1 hi
  intro h
  have := (ahead_iff _ _).1 (p3 t h t (List.mem_cons_self ..)); omega
end Go.Proofs.Ytipohagcppfgiaa
namespace Go.Proofs.Ytipohagcppfgiaa
open Go.RowKit
open Go.Proofs
set_option linter.unusedVariables false

/-- Words that a list does not have may be written. -/
theorem chain_other {M : Mem} {head : Nat} {xs : List Nd} {W : List Nat} {F : Bool} (h : ChainL M head xs) (hw : ∀ w ∈ wordsL head xs, rdL W w = rdL M.W w) : ChainL ⟨W, M.L, F⟩ head xs :=
  ⟨h.nd, h.live, lnk_congr xs _ _ h.fw (hw _ (List.mem_cons_self ..)) (fun w hm => hw w (List.mem_cons_of_mem _ hm)), h.inc⟩
theorem words_ins {head : Nat} {l1 l2 : List Nd} {t : Nd} (w : Nat) : w ∈ wordsL head (l1 ++ t :: l2) ↔ w ∈ w4L t ∨ w ∈ wordsL head (l1 ++ l2) := by
  rw [wordsL_eq, wordsL_eq, wlL_append, wlL_append, wlL_cons]
  simp only [List.mem_cons, List.mem_append]
  constructor
  · rintro (h | h | h | h)
    · exact .inr (.inl h)
    · exact .inr (.inr (.inl h))
    · exact .inl (by simpa using h)
    · exact .inr (.inr (.inr h))
  · rintro (h | h | h | h)
    · exact .inr (.inr (.inl (by simpa using h)))
    · exact .inl h
    · exact .inr (.inl h)
    · exact .inr (.inr (.inr h))
theorem posL_ne {p j k : Nat} (h : j ≠ k) : posL p j ≠ posL p k := by unfold posL; omega
theorem nodup_ins {head : Nat} {l1 l2 : List Nd} {t : Nd} (hn : (wordsL head (l1 ++ l2)).Nodup) (ht : ∀ k, k < 4 → posL t.1 k ∉ wordsL head (l1 ++ l2)) : (wordsL head (l1 ++ t :: l2)).Nodup := by
  have hp : (wordsL head (l1 ++ t :: l2)).Perm (w4L t ++ wordsL head (l1 ++ l2)) := by
    rw [wordsL_eq, wordsL_eq, wlL_append, wlL_append, wlL_cons]
    have h1 : (wlL l1 ++ (w4L t ++ wlL l2)).Perm (w4L t ++ (wlL l1 ++ wlL l2)) := by
      rw [← List.append_assoc, ← List.append_assoc]
      exact List.Perm.append_right _ List.perm_append_comm
    exact (List.Perm.cons _ h1).trans List.perm_middle.symm
  rw [hp.nodup_iff, List.nodup_append]
  refine ⟨?_, hn, ?_⟩
  · simp only [List.nodup_cons, List.mem_cons, List.not_mem_nil, not_or, or_false, not_false_eq_true, List.nodup_nil, and_true]
    exact ⟨⟨posL_ne (by decide), posL_ne (by decide), posL_ne (by decide)⟩, ⟨posL_ne (by decide), posL_ne (by decide)⟩, posL_ne (by decide)⟩
  · intro a ha b hb e
    subst e
    simp only [List.mem_cons, List.not_mem_nil, or_false] at ha
    rcases ha with rfl | rfl | rfl | rfl
    · exact ht 0 (by decide) hb
    · exact ht 1 (by decide) hb
    · exact ht 2 (by decide) hb
    · exact ht 3 (by decide) hb
theorem nodup_rem {head : Nat} {l1 l2 : List Nd} {t : Nd} (hn : (wordsL head (l1 ++ t :: l2)).Nodup) : (wordsL head (l1 ++ l2)).Nodup := by
  rw [wordsL_eq, wlL_append, wlL_cons] at hn
  rw [wordsL_eq, wlL_append]
  have hs : (posL head 0 :: (wlL l1 ++ wlL l2)).Sublist (posL head 0 :: (wlL l1 ++ (w4L t ++ wlL l2))) := List.Sublist.cons_cons _ (List.Sublist.append_left (List.sublist_append_right _ _) _)
  exact hs.nodup hn
/-- The words that are stored one after another. -/
def putW (M : Mem) (t : Nd) (next : Nat) : Nat → List Nat
  | 0 => M.W
  | 1 => M.W.set (posL t.1 0) t.2.1
  | 2 => (M.W.set (posL t.1 0) t.2.1).set (posL t.1 1) t.2.2.1
  | 3 => ((M.W.set (posL t.1 0) t.2.1).set (posL t.1 1) t.2.2.1).set (posL t.1 3) t.2.2.2
  | _ => (((M.W.set (posL t.1 0) t.2.1).set (posL t.1 1) t.2.2.1).set (posL t.1 3) t.2.2.2).set (posL t.1 2) next
theorem putW_other {M : Mem} {t : Nd} {next : Nat} (hl : ∀ k, k < 4 → posL t.1 k < M.W.length) (k w : Nat) (hw : ∀ j, j < 4 → w ≠ posL t.1 j) : rdL (putW M t next k) w = rdL M.W w := by
  have h0 := hl 0 (by decide)
  have h1 := hl 1 (by decide)
  have h2 := hl 2 (by decide)
  have h3 := hl 3 (by decide)
  have g0 := hw 0 (by decide)
  have g1 := hw 1 (by decide)
  have g2 := hw 2 (by decide)
  have g3 := hw 3 (by decide)
  have e1 : rdL (M.W.set (posL t.1 0) t.2.1) w = rdL M.W w := rdL_other h0 g0
  have e2 : rdL ((M.W.set (posL t.1 0) t.2.1).set (posL t.1 1) t.2.2.1) w = rdL M.W w := by rw [rdL_other (by simpa using h1) g1]; exact e1
  have e3 : rdL (((M.W.set (posL t.1 0) t.2.1).set (posL t.1 1) t.2.2.1).set (posL t.1 3) t.2.2.2) w = rdL M.W w := by rw [rdL_other (by simpa using h3) g3]; exact e2
  match k with
  | 0 => rfl
  | 1 => exact e1
  | 2 => exact e2
  | 3 => exact e3
  | _ + 4 => show rdL ((((M.W.set (posL t.1 0) t.2.1).set (posL t.1 1) t.2.2.1).set (posL t.1 3) t.2.2.2).set (posL t.1 2) next) w = _; rw [rdL_other (by simpa using h2) g2]; exact e3
theorem putW_len (M : Mem) (t : Nd) (next k : Nat) : (putW M t next k).length = M.W.length := by
  match k with
  | 0 => rfl
  | 1 => simp [putW]
  | 2 => simp [putW]
  | 3 => simp [putW]
  | _ + 4 => simp [putW]
/-- The memory behind all stores of who puts. -/
def putM' (M : Mem) (link : Nat) (t : Nd) (next : Nat) : Mem := ⟨(putW M t next 4).set (posL link 0) t.1, M.L, M.F⟩
theorem put_law {M : Mem} {head : Nat} {xs : List Nd} {t : Nd} (hok : okM M = true) (h : ChainL M head xs) (hf : fitsP M head xs t = true) (hn : (findS t.2.2.2 t.2.1 head xs).1.found = false) :
    ∃ l1 l2, xs = l1 ++ l2 ∧ ChainL (putM' M (findS t.2.2.2 t.2.1 head xs).1.link t (findS t.2.2.2 t.2.1 head xs).1.node) head (l1 ++ t :: l2) ∧ (∀ k, k ≤ 4 → ChainL ⟨putW M t (findS t.2.2.2 t.2.1 head xs).1.node k, M.L, M.F⟩ head xs) := by
  obtain ⟨f1, f2⟩ := fitsP_spec hf
  obtain ⟨o1, o2, o3, -⟩ := okM_spec hok
  have hl : ∀ k, k < 4 → posL t.1 k < M.W.length := fun k hk => by have := live_lt (f2 k hk).1; omega
  obtain ⟨l1, l2, e1, e2, e3, e4, e5, -⟩ := findS_split t.2.2.2 t.2.1 head xs
  have off : ∀ w ∈ wordsL head xs, ∀ j, j < 4 → w ≠ posL t.1 j := fun w hw j hj e => (f2 j hj).2 (by rw [← e]; exact hw)
  have hst : ∀ k, ChainL ⟨putW M t (findS t.2.2.2 t.2.1 head xs).1.node k, M.L, M.F⟩ head xs := fun k => chain_other h fun w hw => putW_other hl k w (off w hw)
  refine ⟨l1, l2, e1, ?_, fun k _ => hst k⟩
  have hE : posL (findS t.2.2.2 t.2.1 head xs).1.link 0 = endL (posL head 0) l1 := by
    rw [e2]
    exact endA_word hok l1 head (fun w hw => h.live w (by rw [e1, words_append]; exact List.mem_append_left _ (List.mem_cons_of_mem _ hw)))
  have hEm : endL (posL head 0) l1 ∈ wordsL head xs := by rw [e1, words_append]; exact List.mem_append_left _ (endL_mem l1 _)
  have hEl : endL (posL head 0) l1 < (putW M t (findS t.2.2.2 t.2.1 head xs).1.node 4).length := by
    rw [putW_len]; have := live_lt (h.live _ hEm); omega
  have hoff := off _ hEm
  obtain ⟨nx, hnx⟩ : ∃ x, (findS t.2.2.2 t.2.1 head xs).1.node = x := ⟨_, rfl⟩
  rw [hnx] at hst hEl e3 ⊢
  unfold putM'
  rw [hE]
  have rd4 : ∀ w, w ≠ endL (posL head 0) l1 → rdL ((putW M t nx 4).set (endL (posL head 0) l1) t.1) w = rdL (putW M t nx 4) w := fun w hw => rdL_other hEl hw
  have q0 := hl 0 (by decide)
  have q1 := hl 1 (by decide)
  have q2 := hl 2 (by decide)
  have q3 := hl 3 (by decide)
  have w2 : rdL (putW M t nx 4) (posL t.1 2) = nx := rdL_same (by simpa using q2)
  have w3 : rdL (putW M t nx 4) (posL t.1 3) = t.2.2.2 := by
    show rdL ((((M.W.set (posL t.1 0) t.2.1).set (posL t.1 1) t.2.2.1).set (posL t.1 3) t.2.2.2).set (posL t.1 2) nx) (posL t.1 3) = _
    rw [rdL_other (by simpa using q2) (posL_ne (by decide)), rdL_same (by simpa using q3)]
  have w1 : rdL (putW M t nx 4) (posL t.1 1) = t.2.2.1 := by
    show rdL ((((M.W.set (posL t.1 0) t.2.1).set (posL t.1 1) t.2.2.1).set (posL t.1 3) t.2.2.2).set (posL t.1 2) nx) (posL t.1 1) = _
    rw [rdL_other (by simpa using q2) (posL_ne (by decide)), rdL_other (by simpa using q3) (posL_ne (by decide)), rdL_same (by simpa using q1)]
  have w0 : rdL (putW M t nx 4) (posL t.1 0) = t.2.1 := by
    show rdL ((((M.W.set (posL t.1 0) t.2.1).set (posL t.1 1) t.2.2.1).set (posL t.1 3) t.2.2.2).set (posL t.1 2) nx) (posL t.1 0) = _
    rw [rdL_other (by simpa using q2) (posL_ne (by decide)), rdL_other (by simpa using q3) (posL_ne (by decide)), rdL_other (by simpa using q1) (posL_ne (by decide)), rdL_same q0]
  have hne : ∀ j, j < 4 → posL t.1 j ≠ endL (posL head 0) l1 := fun j hj e => hoff j hj e.symm
  refine ⟨?_, ?_, ?_, ?_⟩
  · exact nodup_ins (by rw [← e1]; exact h.nd) (fun k hk => by rw [← e1]; exact (f2 k hk).2)
  · intro w hw
    rcases (words_ins w).1 hw with hw | hw
    · simp only [List.mem_cons, List.not_mem_nil, or_false] at hw
      rcases hw with rfl | rfl | rfl | rfl
      · exact (f2 0 (by decide)).1
      · exact (f2 1 (by decide)).1
      · exact (f2 2 (by decide)).1
      · exact (f2 3 (by decide)).1
    · exact h.live w (by rw [e1]; exact hw)
  · refine lnk_ins (W := M.W) (by rw [← e1]; exact h.nd) (by rw [← e1]; exact h.fw) f1 (fun w hw he => ?_) (rdL_same hEl) ?_ ?_ ?_ ?_
    · rw [rd4 w he]; exact putW_other hl 4 w (off w (by rw [e1]; exact hw))
    · rw [rd4 _ (hne 0 (by decide))]; exact w0
    · rw [rd4 _ (hne 1 (by decide))]; exact w1
    · rw [rd4 _ (hne 3 (by decide))]; exact w3
    · rw [rd4 _ (hne 2 (by decide)), w2]; exact e3
  · exact incr_ins (by rw [← e1]; exact h.inc) e4 (e5 hn)
/-- The memory behind who cuts. -/
def cutM (M : Mem) (link node : Nat) : Mem := ⟨M.W.set (posL link 0) (wAt M node 2), M.L, M.F⟩
theorem cut_law {M : Mem} {head hash key : Nat} {xs : List Nd} (hok : okM M = true) (h : ChainL M head xs) (hf : (findS hash key head xs).1.found = true) :
    ∃ l1 t l2, xs = l1 ++ t :: l2 ∧ t.2.1 = key ∧ t.2.2.2 = hash ∧ (findS hash key head xs).1.node = t.1 ∧ (findS hash key head xs).1.val = t.2.2.1 ∧ ChainL (cutM M (findS hash key head xs).1.link t.1) head (l1 ++ l2) ∧ wAt M t.1 2 = fstL l2 ∧ wAt (cutM M (findS hash key head xs).1.link t.1) t.1 2 = fstL l2 ∧ (∀ x ∈ l1, x.1 ≠ t.1) ∧ liveN M (posL t.1 2) = true := by
  obtain ⟨l1, l2', e1, e2, e3, e4, -, e6⟩ := findS_split hash key head xs
  obtain ⟨t, l2, rfl, q1, q2, q3⟩ := e6 hf
  obtain ⟨o1, o2, o3, -⟩ := okM_spec hok
  have hE : posL (findS hash key head xs).1.link 0 = endL (posL head 0) l1 := by
    rw [e2]
    exact endA_word hok l1 head (fun w hw => h.live w (by rw [e1, words_append]; exact List.mem_append_left _ (List.mem_cons_of_mem _ hw)))
  have hEm : endL (posL head 0) l1 ∈ wordsL head xs := by rw [e1, words_append]; exact List.mem_append_left _ (endL_mem l1 _)
  have hEl : endL (posL head 0) l1 < M.W.length := by have := live_lt (h.live _ hEm); omega
  have hnx : wAt M t.1 2 = fstL l2 := lnk_mid (W := M.W) (a := posL head 0) (l1 := l1) (by rw [← e1]; exact h.fw)
  have hnd := h.nd
  rw [e1, words_append] at hnd
  obtain ⟨n1, n2, n3⟩ := List.nodup_append.1 hnd
  have htw : ∀ k, k < 4 → posL t.1 k ∈ wlL (t :: l2) := fun k hk => mem_wlL (List.mem_cons_self ..) k hk
  have hne : posL t.1 2 ≠ endL (posL head 0) l1 := fun e => n3 _ (endL_mem l1 _) _ (htw 2 (by decide)) e.symm
  refine ⟨l1, t, l2, e1, q1, q2, e3, q3, ?_, hnx, ?_, fun x hx e => ?_, h.live _ (by rw [e1, words_append]; exact List.mem_append_right _ (htw 2 (by decide)))⟩
  · unfold cutM
    rw [hE, hnx]
    refine ⟨nodup_rem (by rw [← e1]; exact h.nd), fun w hw => h.live w (by rw [e1]; exact (words_ins w).2 (.inr hw)), ?_, (incr_rem (by rw [← e1]; exact h.inc)).1⟩
    exact lnk_rem (W := M.W) (by rw [← e1]; exact h.nd) (by rw [← e1]; exact h.fw) (fun w hw he => rdL_other hEl he) (rdL_same hEl)
  · unfold cutM
    rw [hE]
    exact (rdL_other hEl hne).trans hnx
  · have := mem_wlL (xs := l1) hx 0 (by decide)
    rw [e] at this
    exact n3 _ (List.mem_cons_of_mem _ this) _ (htw 0 (by decide)) rfl
end Go.Proofs.Ytipohagcppfgiaa
namespace Go.Proofs.Ytipohagcppfgiaa
open Go.RowKit
open Go.Proofs
set_option linter.unusedVariables false

/-- So many steps are to come; up to the last one the list is xs, behind it ys, and Q holds. -/
inductive Lst (head : Nat) (xs ys : List Nd) (Q : Mem → Prop) : Nat → Mem → Ede → Prop
  | last {M : Mem} {s : Ede} (ok : okM M = true) (wok : ∀ x ∈ M.W, x < 18446744073709551616) (sok : s.Ok) (ph : s.ph = 5) (was : nodesR M head = some xs) (ph' : (editE M s).2.1.ph = 6) (now : nodesR (editE M s).1 head = some ys) (q : Q (editE M s).1) : Lst head xs ys Q 1 M s
  | more {n : Nat} {M : Mem} {s : Ede} (ok : okM M = true) (wok : ∀ x ∈ M.W, x < 18446744073709551616) (sok : s.Ok) (ph0 : 0 ≤ s.ph) (ph : s.ph < 5) (was : nodesR M head = some xs) (ph' : (editE M s).2.1.ph ≤ 5) (next : Lst head xs ys Q n (editE M s).1 (editE M s).2.1) : Lst head xs ys Q (n + 1) M s
theorem Lst.facts {head : Nat} {xs ys : List Nd} {Q : Mem → Prop} {n : Nat} {M : Mem} {s : Ede} (h : Lst head xs ys Q n M s) : okM M = true ∧ (∀ x ∈ M.W, x < 18446744073709551616) ∧ s.Ok ∧ 0 ≤ s.ph ∧ s.ph ≤ 5 ∧ nodesR M head = some xs ∧ 1 ≤ n := by
  cases h with
  | last ok wok sok ph was ph' now q => exact ⟨ok, wok, sok, by omega, by omega, was, by omega⟩
  | more ok wok sok ph0 ph was ph' next => exact ⟨ok, wok, sok, ph0, by omega, was, by omega⟩
theorem edit_ok_set {M : Mem} {s : Ede} (hok : okM M = true) (hW : ∀ x ∈ M.W, x < 18446744073709551616) (hs : s.Ok) (h0 : 0 ≤ s.ph) (h7 : s.ph ≤ 7) {M' : Mem} {s' : Ede} {b : Bool} (e : editE M s = (M', s', b)) : okM M' = true ∧ (∀ x ∈ M'.W, x < 18446744073709551616) ∧ s'.Ok := by
  obtain ⟨q1, q2, q3, -⟩ := editE_ok hok hW hs h0 h7
  rw [e] at q1 q2 q3
  exact ⟨q1, q2, q3⟩
/-- Who puts. -/
theorem put_lst {M : Mem} {head : Nat} {xs : List Nd} {t : Nd} (hok : okM M = true) (hW : ∀ x ∈ M.W, x < 18446744073709551616) (hh : head < 18446744073709551616) (ht : t.Ok) (hx : nodesR M head = some xs) (hf : fitsP M head xs t = true) (hn : (findS t.2.2.2 t.2.1 head xs).1.found = false) :
    ∃ ys, Lst head xs ys (fun M' => okM M' = true ∧ (∀ x ∈ M'.W, x < 18446744073709551616)) 5 M (putK (findS t.2.2.2 t.2.1 head xs).1.link t (findS t.2.2.2 t.2.1 head xs).1.node) ∧ ys ≠ xs := by
  have hL := chain_of hx
  obtain ⟨l1, l2, e1, hC, hst⟩ := put_law hok hL hf hn
  have hsk : (findS t.2.2.2 t.2.1 head xs).1.Ok := findS_ok ht.2.2.2 ht.2.1 head xs hh (fun x hm => by
    have := nodesP_nodes hW (show (nodesP M head).2 = 0 by rw [nodesP_some hok hx]) x (by rw [nodesP_some hok hx]; exact hm)
    exact ⟨by omega, this.2.2.2.1⟩)
  have hlk := link_live (hash := t.2.2.2) (key := t.2.1) hok hx
  obtain ⟨f1, f2⟩ := fitsP_spec hf
  obtain ⟨link, hli⟩ : ∃ x, (findS t.2.2.2 t.2.1 head xs).1.link = x := ⟨_, rfl⟩
  obtain ⟨next, hnx⟩ : ∃ x, (findS t.2.2.2 t.2.1 head xs).1.node = x := ⟨_, rfl⟩
  have k1 := hsk.link
  have k2 := hsk.node
  rw [hli] at hC hlk k1 ⊢
  rw [hnx] at hC hst k2 ⊢
  clear hsk hli hnx
  obtain ⟨a, k, v, h⟩ := t
  dsimp only at f2
  have s0 : (⟨0, false, link, a, k, v, h, next⟩ : Ede).Ok := ⟨by dsimp only; decide, k1, ht.1, ht.2.1, ht.2.2.1, ht.2.2.2, k2⟩
  have e0 := editE_store (M := ⟨putW M (a, k, v, h) next 0, M.L, M.F⟩) (s := ⟨0, false, link, a, k, v, h, next⟩) 0 (posL a 0) k rfl (by decide) (by decide) rfl rfl (f2 0 (by decide)).1
  have e1' := editE_store (M := ⟨putW M (a, k, v, h) next 1, M.L, M.F⟩) (s := ⟨1, false, link, a, k, v, h, next⟩) 1 (posL a 1) v rfl (by decide) (by decide) rfl rfl (f2 1 (by decide)).1
  have e2 := editE_store (M := ⟨putW M (a, k, v, h) next 2, M.L, M.F⟩) (s := ⟨2, false, link, a, k, v, h, next⟩) 2 (posL a 3) h rfl (by decide) (by decide) rfl rfl (f2 3 (by decide)).1
  have e3 := editE_store (M := ⟨putW M (a, k, v, h) next 3, M.L, M.F⟩) (s := ⟨3, false, link, a, k, v, h, next⟩) 3 (posL a 2) next rfl (by decide) (by decide) rfl rfl (f2 2 (by decide)).1
  have e5 := editE_store (M := ⟨putW M (a, k, v, h) next 4, M.L, M.F⟩) (s := ⟨5, false, link, a, k, v, h, next⟩) 5 (posL link 0) a rfl (by decide) (by decide) rfl rfl hlk
  have o0 : okM ⟨putW M (a, k, v, h) next 0, M.L, M.F⟩ = true := hok
  obtain ⟨o1, w1, s1⟩ := edit_ok_set o0 hW s0 (by dsimp only; decide) (by dsimp only; decide) e0
  obtain ⟨o2, w2, s2⟩ := edit_ok_set (M := ⟨putW M (a, k, v, h) next 1, M.L, M.F⟩) (s := ⟨1, false, link, a, k, v, h, next⟩) o1 w1 s1 (by dsimp only; decide) (by dsimp only; decide) e1'
  obtain ⟨o3, w3, s3⟩ := edit_ok_set (M := ⟨putW M (a, k, v, h) next 2, M.L, M.F⟩) (s := ⟨2, false, link, a, k, v, h, next⟩) o2 w2 s2 (by dsimp only; decide) (by dsimp only; decide) e2
  obtain ⟨o4, w4, s4⟩ := edit_ok_set (M := ⟨putW M (a, k, v, h) next 3, M.L, M.F⟩) (s := ⟨3, false, link, a, k, v, h, next⟩) o3 w3 s3 (by dsimp only; decide) (by dsimp only; decide) e3
  obtain ⟨o5, w5, s5⟩ := edit_ok_set (M := ⟨putW M (a, k, v, h) next 4, M.L, M.F⟩) (s := ⟨5, false, link, a, k, v, h, next⟩) o4 w4 s4 (by dsimp only; decide) (by dsimp only; decide) e5
  refine ⟨l1 ++ (a, k, v, h) :: l2, ?_, fun e => by have := congrArg List.length e; rw [e1] at this; simp at this⟩
  have L5 : Lst head xs (l1 ++ (a, k, v, h) :: l2) (fun M' => okM M' = true ∧ (∀ x ∈ M'.W, x < 18446744073709551616)) 1 ⟨putW M (a, k, v, h) next 4, M.L, M.F⟩ ⟨5, false, link, a, k, v, h, next⟩ :=
    .last o4 w4 s4 rfl (of_chain o4 (hst 4 (by decide))) (by rw [e5]; rfl) (by rw [e5]; exact of_chain o5 hC) (by rw [e5]; exact ⟨o5, w5⟩)
  have L3 : Lst head xs (l1 ++ (a, k, v, h) :: l2) (fun M' => okM M' = true ∧ (∀ x ∈ M'.W, x < 18446744073709551616)) 2 ⟨putW M (a, k, v, h) next 3, M.L, M.F⟩ ⟨3, false, link, a, k, v, h, next⟩ :=
    .more o3 w3 s3 (by dsimp only; decide) (by dsimp only; decide) (of_chain o3 (hst 3 (by decide))) (by rw [e3]; show (5 : Int) ≤ 5; decide) (by rw [e3]; exact L5)
  have L2 : Lst head xs (l1 ++ (a, k, v, h) :: l2) (fun M' => okM M' = true ∧ (∀ x ∈ M'.W, x < 18446744073709551616)) 3 ⟨putW M (a, k, v, h) next 2, M.L, M.F⟩ ⟨2, false, link, a, k, v, h, next⟩ :=
    .more o2 w2 s2 (by dsimp only; decide) (by dsimp only; decide) (of_chain o2 (hst 2 (by decide))) (by rw [e2]; show (3 : Int) ≤ 5; decide) (by rw [e2]; exact L3)
  have L1 : Lst head xs (l1 ++ (a, k, v, h) :: l2) (fun M' => okM M' = true ∧ (∀ x ∈ M'.W, x < 18446744073709551616)) 4 ⟨putW M (a, k, v, h) next 1, M.L, M.F⟩ ⟨1, false, link, a, k, v, h, next⟩ :=
    .more o1 w1 s1 (by dsimp only; decide) (by dsimp only; decide) (of_chain o1 (hst 1 (by decide))) (by rw [e1']; show (2 : Int) ≤ 5; decide) (by rw [e1']; exact L2)
  exact .more o0 hW s0 (by show (0 : Int) ≤ 0; decide) (by show (0 : Int) < 5; decide) hx (by have := e0; show (editE ⟨putW M (a, k, v, h) next 0, M.L, M.F⟩ ⟨0, false, link, a, k, v, h, next⟩).2.1.ph ≤ 5; rw [e0]; show (1 : Int) ≤ 5; decide) (by show Lst _ _ _ _ _ (editE ⟨putW M (a, k, v, h) next 0, M.L, M.F⟩ ⟨0, false, link, a, k, v, h, next⟩).1 (editE ⟨putW M (a, k, v, h) next 0, M.L, M.F⟩ ⟨0, false, link, a, k, v, h, next⟩).2.1; rw [e0]; exact L1)
/-- Who cuts. -/
theorem cut_lst {M : Mem} {head hash key : Nat} {xs : List Nd} (hok : okM M = true) (hW : ∀ x ∈ M.W, x < 18446744073709551616) (hh : head < 18446744073709551616) (hha : hash < 18446744073709551616) (hke : key < 18446744073709551616) (hx : nodesR M head = some xs) (hf : (findS hash key head xs).1.found = true) :
    ∃ l1 t l2, xs = l1 ++ t :: l2 ∧ (findS hash key head xs).1.node = t.1 ∧ (∀ x ∈ l1, x.1 ≠ t.1) ∧ t.1 < 4096 ∧
      Lst head xs (l1 ++ l2) (fun M' => okM M' = true ∧ (∀ x ∈ M'.W, x < 18446744073709551616) ∧ posL t.1 2 = t.1 + 2 ∧ liveN M' (t.1 + 2) = true ∧ M'.W.getD (t.1 + 2) 0 = fstL l2) 2 M (cutK (findS hash key head xs).1.link (findS hash key head xs).1.node) := by
  have hL := chain_of hx
  obtain ⟨l1, t, l2, e1, q1, q2, e3, q3, hC, hnx, hnx', hd, hlv⟩ := cut_law hok hL hf
  have hsk : (findS hash key head xs).1.Ok := findS_ok hha hke head xs hh (fun x hm => by
    have := nodesP_nodes hW (show (nodesP M head).2 = 0 by rw [nodesP_some hok hx]) x (by rw [nodesP_some hok hx]; exact hm)
    exact ⟨by omega, this.2.2.2.1⟩)
  have hlk := link_live (hash := hash) (key := key) hok hx
  obtain ⟨r1, r2, r3⟩ := live_small hok hlv
  refine ⟨l1, t, l2, e1, e3, hd, r1, ?_⟩
  rw [e3]
  have k1 := hsk.link
  have k2 := hsk.node
  rw [e3] at k2
  obtain ⟨link, hli⟩ : ∃ x, (findS hash key head xs).1.link = x := ⟨_, rfl⟩
  rw [hli] at hC hlk k1 hnx' ⊢
  have e4 := editE_load (M := M) (s := ⟨4, true, link, t.1, 0, 0, 0, 0⟩) (posL t.1 2) rfl rfl hlv
  have e5 := editE_store (M := M) (s := ⟨5, true, link, t.1, 0, 0, 0, M.W.getD (posL t.1 2) 0⟩) 5 (posL link 0) (M.W.getD (posL t.1 2) 0) rfl (by decide) (by decide) rfl rfl hlk
  have s4 : (⟨4, true, link, t.1, 0, 0, 0, 0⟩ : Ede).Ok := ⟨by dsimp only; decide, k1, k2, by dsimp only; decide, by dsimp only; decide, by dsimp only; decide, by dsimp only; decide⟩
  obtain ⟨-, -, s5⟩ := edit_ok_set hok hW s4 (by dsimp only; decide) (by dsimp only; decide) e4
  obtain ⟨o6, w6, -⟩ := edit_ok_set hok hW s5 (by dsimp only; decide) (by dsimp only; decide) e5
  have L5 : Lst head xs (l1 ++ l2) (fun M' => okM M' = true ∧ (∀ x ∈ M'.W, x < 18446744073709551616) ∧ posL t.1 2 = t.1 + 2 ∧ liveN M' (t.1 + 2) = true ∧ M'.W.getD (t.1 + 2) 0 = fstL l2) 1 M ⟨5, true, link, t.1, 0, 0, 0, M.W.getD (posL t.1 2) 0⟩ :=
    .last hok hW s5 rfl hx (by rw [e5]; rfl) (by rw [e5]; exact of_chain o6 hC) (by
      rw [e5]
      refine ⟨o6, w6, r2, ?_, ?_⟩
      · rw [← r2]; exact hlv
      · rw [← r2]; exact hnx')
  unfold cutK
  exact .more hok hW s4 (by show (0 : Int) ≤ 4; decide) (by show (4 : Int) < 5; decide) hx (by rw [e4]; show (5 : Int) ≤ 5; decide) (by rw [e4]; exact L5)
/-- The place of what is cut. -/
theorem find_at {xs l1 l2 : List Nd} {t : Nd} (e : xs = l1 ++ t :: l2) (hd : ∀ x ∈ l1, x.1 ≠ t.1) : xs[l1.length]? = some t ∧ (∀ j x, j < l1.length → xs[j]? = some x → x.1 ≠ t.1) ∧ (fstL l2 = match xs[l1.length + 1]? with | none => 0 | some x => x.1) ∧ l1.length < xs.length := by
  subst e
  refine ⟨by simp, fun j x hj h => ?_, ?_, by simp⟩
  · rw [List.getElem?_append_left hj] at h
    exact hd x (List.mem_of_getElem? h)
  · rw [List.getElem?_append_right (by omega)]
    rw [show l1.length + 1 - l1.length = 1 by omega]
    cases l2 with
    | nil => rfl
    | cons y r => rfl
end Go.Proofs.Ytipohagcppfgiaa
namespace Go.Proofs.Ytipohagcppfgiaa
open Go.RowKit
open Go.Proofs
set_option linter.unusedVariables false

theorem sk_ok_of {M : Mem} {head hash key : Nat} {xs : List Nd} (hok : okM M = true) (hW : ∀ x ∈ M.W, x < 18446744073709551616) (hh : head < 18446744073709551616) (hha : hash < 18446744073709551616) (hke : key < 18446744073709551616) (hx : nodesR M head = some xs) : (findS hash key head xs).1.Ok :=
  findS_ok hha hke head xs hh (fun x hm => by
    have := nodesP_nodes hW (show (nodesP M head).2 = 0 by rw [nodesP_some hok hx]) x (by rw [nodesP_some hok hx]; exact hm)
    exact ⟨by omega, this.2.2.2.1⟩)
/-- A node that was put. -/
theorem ins_keep {M : Mem} {head : Nat} {xs : List Nd} {t : Nd} (hok : okM M = true) (hW : ∀ x ∈ M.W, x < 18446744073709551616) (hh : head < 18446744073709551616) (ht : t.Ok) (hx : nodesR M head = some xs) (hc : (insP M head t).2.2 = 0) :
    ∃ l1 l2, xs = l1 ++ l2 ∧ okM (insP M head t).1 = true ∧ (∀ x ∈ (insP M head t).1.W, x < 18446744073709551616) ∧ nodesR (insP M head t).1 head = some (l1 ++ t :: l2) ∧ t ∉ l1 ∧
      (findS t.2.2.2 t.2.1 head (l1 ++ t :: l2)).1.found = true ∧ (findS t.2.2.2 t.2.1 head (l1 ++ t :: l2)).1.node = t.1 ∧ (findS t.2.2.2 t.2.1 head (l1 ++ t :: l2)).1.val = t.2.2.1 := by
  rw [ins_same hok hx] at hc ⊢
  unfold rinsP at hc ⊢
  cases hf : fitsP M head xs t with
  | false => rw [hf, if_pos rfl] at hc; cases hc
  | true =>
    rw [hf, if_neg (by decide)] at hc
    rw [if_neg (by decide)]
    cases hn : (findS t.2.2.2 t.2.1 head xs).1.found with
    | true => rw [hn, if_pos rfl] at hc; cases hc
    | false =>
      rw [if_neg (by decide)]
      have hL := chain_of hx
      obtain ⟨l1, l2, e1, hC, -⟩ := put_law hok hL hf hn
      obtain ⟨f1, f2⟩ := fitsP_spec hf
      have hlk := link_live (hash := t.2.2.2) (key := t.2.1) hok hx
      have hs := sk_ok_of (hash := t.2.2.2) (key := t.2.1) hok hW hh ht.2.2.2 ht.2.1 hx
      obtain ⟨r1, r2, -, -⟩ := editRun_keep 8 M (putK (findS t.2.2.2 t.2.1 head xs).1.link t (findS t.2.2.2 t.2.1 head xs).1.node) 0 hok hW ⟨by unfold putK; dsimp only; decide, hs.link, ht.1, ht.2.1, ht.2.2.1, ht.2.2.2, hs.node⟩ (by show (0 : Int) ≤ 0; decide) (by show (0 : Int) ≤ 7; decide)
      have e : (editRun 8 M (putK (findS t.2.2.2 t.2.1 head xs).1.link t (findS t.2.2.2 t.2.1 head xs).1.node) 0).1 = putM' M (findS t.2.2.2 t.2.1 head xs).1.link t (findS t.2.2.2 t.2.1 head xs).1.node := by
        rw [put_run 0 (fun k hk => (f2 k hk).1) hlk]; rfl
      dsimp only
      rw [e] at r1 r2 ⊢
      exact ⟨l1, l2, e1, r1, r2, of_chain r1 hC, incr_mid hC.inc, findS_in hC.inc (x := t) (by simp) rfl rfl⟩
/-- A node that was cut. -/
theorem rem_keep {M : Mem} {head hash key : Nat} {xs : List Nd} (hok : okM M = true) (hW : ∀ x ∈ M.W, x < 18446744073709551616) (hh : head < 18446744073709551616) (hha : hash < 18446744073709551616) (hke : key < 18446744073709551616) (hx : nodesR M head = some xs) (hc : (remP M head hash key).2.2 = 0) :
    ∃ l1 t l2, xs = l1 ++ t :: l2 ∧ t.2.1 = key ∧ t.2.2.2 = hash ∧ (remP M head hash key).2.1 = t.1 ∧ (∀ x ∈ l1, x.1 ≠ t.1) ∧ okM (remP M head hash key).1 = true ∧ (∀ x ∈ (remP M head hash key).1.W, x < 18446744073709551616) ∧ nodesR (remP M head hash key).1 head = some (l1 ++ l2) ∧ (findS hash key head (l1 ++ l2)).1.found = false := by
  rw [rem_same hok hx] at hc ⊢
  unfold rremP at hc ⊢
  cases hf : (findS hash key head xs).1.found with
  | false => rw [hf, if_pos rfl] at hc; cases hc
  | true =>
    rw [if_neg (by decide)]
    have hL := chain_of hx
    obtain ⟨l1, t, l2, e1, q1, q2, e3, -, hC, -, -, hd, hlv⟩ := cut_law hok hL hf
    have hlk := link_live (hash := hash) (key := key) hok hx
    have hs := sk_ok_of (hash := hash) (key := key) hok hW hh hha hke hx
    obtain ⟨r1, r2, -, -⟩ := editRun_keep 8 M (cutK (findS hash key head xs).1.link (findS hash key head xs).1.node) 0 hok hW ⟨by unfold cutK; dsimp only; decide, hs.link, hs.node, by unfold cutK; dsimp only; decide, by unfold cutK; dsimp only; decide, by unfold cutK; dsimp only; decide, by unfold cutK; dsimp only; decide⟩ (by show (0 : Int) ≤ 4; decide) (by show (4 : Int) ≤ 7; decide)
    have e : (editRun 8 M (cutK (findS hash key head xs).1.link (findS hash key head xs).1.node) 0).1 = cutM M (findS hash key head xs).1.link t.1 := by
      rw [e3, cut_run 0 hlv hlk]; rfl
    dsimp only
    rw [e] at r1 r2 ⊢
    have hi := hL.inc
    rw [e1] at hi
    refine ⟨l1, t, l2, e1, q1, q2, e3, hd, r1, r2, of_chain r1 hC, ?_⟩
    cases hff : (findS hash key head (l1 ++ l2)).1.found with
    | false => rfl
    | true =>
      obtain ⟨x, hxm, -, -, k1, k2⟩ := findS_found head _ hff
      exact absurd ⟨k1.trans q1.symm, k2.trans q2.symm⟩ ((incr_rem hi).2 x hxm)
/-- A row without the one that stands there. -/
theorem erase_mid (l1 l2 : List Nd) (t : Nd) : (l1 ++ t :: l2).eraseIdx l1.length = l1 ++ l2 := by
  rw [List.eraseIdx_append_of_length_le (Nat.le_refl _), Nat.sub_self]; rfl
theorem findP_some {M : Mem} {head hash key : Nat} {xs : List Nd} (hok : okM M = true) (hx : nodesR M head = some xs) : findP M head hash key = ((findS hash key head xs).1, (findS hash key head xs).2, 0) := by
  unfold findP
  rw [nodesP_some hok hx]
  rfl
end Go.Proofs.Ytipohagcppfgiaa
namespace Go.Proofs.Ytipohagcppfgiaa
open Go.RowKit
open Go.Proofs
set_option linter.unusedVariables false

theorem Lst.mono {head : Nat} {xs ys : List Nd} {Q Q' : Mem → Prop} {n : Nat} {M : Mem} {s : Ede} (h : Lst head xs ys Q n M s) (hq : ∀ M, Q M → Q' M) : Lst head xs ys Q' n M s := by
  induction h with
  | last ok wok sok ph was ph' now q => exact .last ok wok sok ph was ph' now (hq _ q)
  | more ok wok sok ph0 ph was ph' next ih => exact .more ok wok sok ph0 ph was ph' ih
/-- What holds of memory behind the last step. -/
def Qend (fd : Bool) (nd nxt : Nat) (M : Mem) : Prop := okM M = true ∧ (∀ x ∈ M.W, x < 18446744073709551616) ∧ (fd = true → liveN M (nd + 2) = true ∧ M.W.getD (nd + 2) 0 = nxt)
theorem last_put {M : Mem} {head : Nat} {xs : List Nd} {t : Nd} (nxt : Nat) (hok : okM M = true) (hW : ∀ x ∈ M.W, x < 18446744073709551616) (hh : head < 18446744073709551616) (ht : t.Ok) (hx : nodesR M head = some xs) (hf : (findS t.2.2.2 t.2.1 head xs).1.found = false) (hc : (insP M head t).2.2 = 0) :
    ∃ ys, Lst head xs ys (Qend false (findS t.2.2.2 t.2.1 head xs).1.node nxt) 5 M (putK (findS t.2.2.2 t.2.1 head xs).1.link t (findS t.2.2.2 t.2.1 head xs).1.node) ∧ ys ≠ xs := by
  have hft : fitsP M head xs t = true := by
    rw [ins_same hok hx] at hc
    unfold rinsP at hc
    cases h : fitsP M head xs t with
    | true => rfl
    | false => rw [h, if_pos rfl] at hc; cases hc
  obtain ⟨ys, h1, h2⟩ := put_lst hok hW hh ht hx hft hf
  exact ⟨ys, h1.mono fun M' q => ⟨q.1, q.2, fun e => by cases e⟩, h2⟩
theorem last_cut {M : Mem} {head hash key : Nat} {xs : List Nd} (hok : okM M = true) (hW : ∀ x ∈ M.W, x < 18446744073709551616) (hh : head < 18446744073709551616) (hha : hash < 18446744073709551616) (hke : key < 18446744073709551616) (hx : nodesR M head = some xs) (hf : (findS hash key head xs).1.found = true) :
    ∃ ys l1 t l2 nxt, Lst head xs ys (Qend true (findS hash key head xs).1.node nxt) 2 M (cutK (findS hash key head xs).1.link (findS hash key head xs).1.node) ∧ ys ≠ xs ∧ xs = l1 ++ t :: l2 ∧ (findS hash key head xs).1.node = t.1 ∧ (∀ x ∈ l1, x.1 ≠ t.1) ∧ t.1 < 4096 ∧ (nxt = match xs[l1.length + 1]? with | none => 0 | some x => x.1) := by
  obtain ⟨l1, t, l2, e1, e2, e3, e4, hL⟩ := cut_lst hok hW hh hha hke hx hf
  refine ⟨l1 ++ l2, l1, t, l2, fstL l2, ?_, fun e => by have := congrArg List.length e; rw [e1] at this; simp at this, e1, e2, e3, e4, (find_at e1 e3).2.2.1⟩
  exact hL.mono fun M' q => ⟨q.1, q.2.1, fun _ => by rw [e2]; exact q.2.2.2⟩
theorem Lst.five {head : Nat} {xs ys : List Nd} {Q : Mem → Prop} {n : Nat} {M : Mem} {s : Ede} (h : Lst head xs ys Q n M s) (h5 : s.ph = 5) : (editE M s).2.1.ph = 6 ∧ nodesR (editE M s).1 head = some ys ∧ Q (editE M s).1 := by
  cases h with
  | last ok wok sok ph was ph' now q => exact ⟨ph', now, q⟩
  | more ok wok sok ph0 ph was ph' next => omega
theorem Lst.less {head : Nat} {xs ys : List Nd} {Q : Mem → Prop} {n : Nat} {M : Mem} {s : Ede} (h : Lst head xs ys Q n M s) (h5 : s.ph ≠ 5) : ∃ m, n = m + 1 ∧ (editE M s).2.1.ph ≤ 5 ∧ Lst head xs ys Q m (editE M s).1 (editE M s).2.1 := by
  cases h with
  | last ok wok sok ph was ph' now q => exact absurd ph h5
  | more ok wok sok ph0 ph was ph' next => exact ⟨_, rfl, ph', next⟩
theorem sedit_in {M : Mem} {s : Ede} (hok : okM M = true) (h0 : 0 ≤ s.ph) (h7 : s.ph ≤ 7) : seditP M s = ((editE M s).1, (editE M s).2.1, 0) := by
  unfold seditP
  rw [if_neg (by rw [hok]; decide), if_neg (by omega)]
end Go.Proofs.Ytipohagcppfgiaa
