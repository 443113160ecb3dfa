/- Several texts in one. -/
import Derived.WalkKit
import Derived.WalkLawsBesides
import Derived.WalkSpells
import Derived.Deep.QuietTactic
import Derived.BigQuiet
import Derived.Deep.LoopGhost
import Derived.Handy
import Derived.Test.YtahicokokfcieaaGreatDoorProg
import Derived.Maps.OwnOps
import Derived.Maps.OwnSet
import Derived.StillTail
namespace Go.Proofs.YtahicokokfcieaaGreatDoor
open Go.RowKit
theorem hid {p : Prop} (h : p) : Hid p := h
theorem retb {a b : Bool} (h : a = b) : Ending.returned (.bool a) = Ending.returned (.bool b) := by rw [h]
theorem reti {k : IntKind} {a b : Int} (h : a = b) : Ending.returned (.int k a) = Ending.returned (.int k b) := by rw [h]
theorem u64_wrap {n : Int} (h0 : 0 ≤ n) (h1 : n ≤ 18446744073709551615) : IntKind.u64.wrap n = n := by rw [IntKind.wrap_u64]; omega
/-- A world that has grown beyond w: all that lay in w lies there as it did. -/
structure Ext (w : World) where
  v : World
  b : Below w.heap.size w v
instance (w : World) : Inhabited (Ext w) := ⟨⟨w, Below.refl _ _⟩⟩
/-- A region that draws its order, whose calls may make memory of their own but write nothing that was there: one walk in the order of the text. -/
theorem wp_region_ext {P : Program} {id : Nat} {Q : Exit → Act → World → Prop} {a : Act} {w : World} {l : List Oper} (hm : P.follows .mixedOrders = true) (hB : Region.lexB .any l.toArray = true)
    (h : wpQuiet P l.toArray (fun w' => ∃ x : Ext w, w' = x.v) (fun a' => ∀ w', (∃ x : Ext w, w' = x.v) → Q .normal a' w') l a) : (Code.region id l.toArray true).wp P Q a w :=
  wp_region_quiet (C := fun w' => ∃ x : Ext w, w' = x.v) hm hB ⟨⟨_, (Below.refl _ _).drew⟩, rfl⟩ (by simpa using h)
/-- What a call gives that only makes memory: a value, and all that lay there lies there as it did. -/
structure Ret (v : Value) (w : World) (e : Ending) (w' : World) : Prop where
  e : e = .returned v
  b : Below w.heap.size w w'
theorem ext_of {P : Program} {f : FuncId} {args : Array Value} {w : World} {x : Ext w} {v : Value}
    (h : Calls P f args x.v (Ret v x.v)) : Calls P f args x.v fun e w'' => e = .returned v ∧ ∃ y : Ext w, w'' = y.v :=
  h.mono fun _ _ ⟨he, hb⟩ => ⟨he, ⟨_, x.b.trans (hb.mono x.b.size)⟩, rfl⟩
/-- Growth in one step behind growth in another. -/
theorem step {a b c : World} (h : Below a.heap.size a b) (k : Below b.heap.size b c) : Below a.heap.size a c := h.trans (k.mono h.size)
/-- The slice '.slice a n cap' leads to these cells. -/
def Leads (w : World) (a : Option Addr) (n cap : Nat) (cs : List Value) : Prop :=
  n ≤ cap ∧ cap ≤ maxLen ∧ ((n = 0 ∧ cs = []) ∨ ∃ b off, a = some ⟨b, off, none⟩ ∧ b < w.heap.size ∧ ∀ i v, cs[i]? = some v → w.cell? ⟨b, off + i, none⟩ = some v)
theorem Leads.grow {w w' : World} {a : Option Addr} {n cap : Nat} {cs : List Value} (h : Leads w a n cap cs) (hb : Below w.heap.size w w') : Leads w' a n cap cs := by
  obtain ⟨h1, h2, h | ⟨b, off, h3, h4, h5⟩⟩ := h
  · exact ⟨h1, h2, .inl h⟩
  · exact ⟨h1, h2, .inr ⟨b, off, h3, Nat.lt_of_lt_of_le h4 hb.size, fun i v hv => (hb.cell (p := ⟨b, off + i, none⟩) h4).trans (h5 i v hv)⟩⟩
theorem Leads.len {w : World} {a : Option Addr} {n cap : Nat} {cs : List Value} (h : Leads w a n cap cs) : n ≤ 9223372036854775807 ∧ cap ≤ 9223372036854775807 := by
  have : maxLen ≤ 9223372036854775807 := by decide
  exact ⟨by have := h.1; have := h.2.1; omega, by have := h.2.1; omega⟩
theorem snocRec {α : Type} {p : List α → Prop} (h0 : p []) (h1 : ∀ l x, p l → p (l ++ [x])) (l : List α) : p l := by
  have : ∀ r : List α, p r.reverse := by
    intro r
    induction r with
    | nil => exact h0
    | cons x r ih => rw [List.reverse_cons]; exact h1 _ _ ih
  have h := this l.reverse
  rwa [List.reverse_reverse] at h
theorem flat_at {α : Type} (f : α → List Value) (m : Nat) (hm : ∀ x, (f x).length = m) : ∀ (xs : List α) (k j : Nat) (x : α), xs[k]? = some x → j < m → (xs.flatMap f)[k * m + j]? = (f x)[j]? := by
  intro xs
  induction xs with
  | nil => intro k j x h _; simp at h
  | cons y ys ih =>
    intro k j x h hj
    cases k with
    | zero => simp at h; subst h; rw [List.flatMap_cons, List.getElem?_append_left (by rw [hm]; omega)]; simp
    | succ k =>
      have h' : ys[k]? = some x := by simpa using h
      have e : (k + 1) * m + j = (f y).length + (k * m + j) := by rw [hm, Nat.add_mul, Nat.one_mul]; omega
      rw [List.flatMap_cons, e, List.getElem?_append_right (by omega), Nat.add_sub_cancel_left]
      exact ih k j x h' hj
/-- A new block in the world, under a name. -/
theorem boxed (w : World) (vs : Array Value) (T : TypeId) : ∃ w1, w.alloc (.cells vs T) = w1 ∧ Below w.heap.size w w1 ∧ w1.heap.size = w.heap.size + 1 ∧
    ∀ x i v, Below w1.heap.size w1 x → vs[i]? = some v → x.cell? ⟨w.heap.size, i, none⟩ = some v := by
  refine ⟨_, rfl, (Below.refl _ _).alloc (Nat.le_refl _) _, by simp, fun x i v hx hv => ?_⟩
  refine (hx.cell (p := ⟨w.heap.size, i, none⟩) (by simp)).trans ?_
  rw [World.cell?]
  have e : (w.alloc (.cells vs T)).heap[w.heap.size]? = some (.cells vs T) := by show (w.heap.push _)[w.heap.size]? = _; simp
  rw [e]; exact hv
/-- A new block in the world, under a name, whole. -/
theorem laid (w : World) (vs : Array Value) (T : TypeId) : ∃ w1, w.alloc (.cells vs T) = w1 ∧ Below w.heap.size w w1 ∧ w1.heap.size = w.heap.size + 1 ∧ w1.heap[w.heap.size]? = some (.cells vs T (0, 0)) :=
  ⟨_, rfl, (Below.refl _ _).alloc (Nat.le_refl _) _, by simp, heap_alloc_new w _⟩
theorem cell_laid {w : World} {b i : Nat} {vs : Array Value} {T : TypeId} {v : Value} (h : w.heap[b]? = some (.cells vs T (0, 0))) (hv : vs[i]? = some v) : w.cell? ⟨b, i, none⟩ = some v := (cell_of_row w b i vs T (0, 0) h).trans hv
theorem free_laid {w : World} {b i : Nat} {vs : Array Value} {T : TypeId} (h : w.heap[b]? = some (.cells vs T (0, 0))) : w.frozen? ⟨b, i, none⟩ = false := by simp [World.frozen?, h]
theorem lt_laid {w : World} {b : Nat} {o : Obj} (h : w.heap[b]? = some o) : b < w.heap.size := (Array.getElem?_eq_some_iff.1 h).1
theorem set_laid {w : World} {b i : Nat} {vs : Array Value} {T : TypeId} (h : w.heap[b]? = some (.cells vs T (0, 0))) (u : Value) : (w.setCell ⟨b, i, none⟩ u).heap[b]? = some (.cells (vs.setIfInBounds i u) T (0, 0)) := by
  show (w.heap.modify b _)[b]? = _
  rw [Array.getElem?_modify, if_pos rfl, h]; rfl
theorem keep_laid {w : World} {b : Nat} {o : Obj} (h : w.heap[b]? = some o) {w' : World} (hb : Below w.heap.size w w') : w'.heap[b]? = some o := (hb.block b (lt_laid h)).trans h
theorem other_laid {w : World} {b b' i : Nat} {o : Obj} (h : w.heap[b]? = some o) (hne : b ≠ b') (u : Value) : (w.setCell ⟨b', i, none⟩ u).heap[b]? = some o := (Below.heap_setCell w ⟨b', i, none⟩ u b hne).trans h
/-- The same; the new block as a slice. -/
theorem made (w : World) (vs : Array Value) (T : TypeId) (n : Nat) (cs : List Value) (hn : n ≤ maxLen) (hcs : ∀ (i : Nat) (v : Value), cs[i]? = some v → vs[i]? = some v) : ∃ w1, w.alloc (.cells vs T) = w1 ∧ Below w.heap.size w w1 ∧ w.heap.size < w1.heap.size ∧
    Leads w1 (some ⟨w.heap.size, 0, none⟩) n n cs := by
  obtain ⟨w1, h1, h2, h3, h4⟩ := boxed w vs T
  refine ⟨w1, h1, h2, by omega, Nat.le_refl _, hn, .inr ⟨_, _, rfl, by omega, fun i v hv => ?_⟩⟩
  rw [Nat.zero_add]
  exact h4 w1 i v (Below.refl _ _) (hcs i v hv)
/-- A slice type's row of the program's tables. -/
structure Elem (P : Program) (t e : TypeId) (size bytes : Nat) : Prop where
  under : P.underlying t = some (.slice e)
  info : ∃ i z, P.info? e = some i ∧ i.zero = some z ∧ i.size = size ∧ i.bytes = bytes ∧ z.cells.size = size
  pos : 0 < size
  small : bytes ≤ 1000
theorem Elem.mk' {P : Program} {t e : TypeId} {size bytes : Nat} {z : Value} (hu : P.underlying t = some (.slice e)) (h : (P.info? e).map (fun i => (i.zero, i.size, i.bytes)) = some (some z, size, bytes)) (hz : z.cells.size = size) (hp : 0 < size) (hs : bytes ≤ 1000) : Elem P t e size bytes := by
  obtain ⟨i, hi, h1, h2, h3⟩ := info_parts h
  exact ⟨hu, ⟨i, z, hi, h1, h2, h3, hz⟩, hp, hs⟩
theorem own_below {w w' : World} {base : Nat} {e : TypeId} {size n : Nat} {v : Value} {xs : List Value} (hown : w.ownsRow base e size v n xs) (hg : w.grownBy w' v.ownBlock) (hb : base ≤ w.heap.size) : Below base w w' :=
  ⟨hg.os, hg.tape, hg.output, hg.size, fun k hk => hg.block k (by omega) (fun he => by have := hown.lt k he.symm; omega)⟩
theorem own_grow {w w' : World} {base : Nat} {e : TypeId} {size n : Nat} {v : Value} {xs : List Value} (hown : w.ownsRow base e size v n xs) (hb : Below w.heap.size w w') : w'.ownsRow base e size v n xs := by
  refine ⟨hown.1, ?_⟩
  rcases hown.2 with h | ⟨g, cap, cur, hv, hg, hh, r⟩
  · exact .inl h
  · exact .inr ⟨g, cap, cur, hv, hg, (hb.block g (Array.getElem?_eq_some_iff.1 hh).1).trans hh, r⟩
/-- One element is appended to a slice that is the call's own. -/
theorem wp_append1 {P : Program} {w : World} {ops : Array Oper} {rest : List Oper} {o : Oper} {a : Act} {Q : Exit → Act → World → Prop} {t e : TypeId} {size bytes : Nat} (I : Elem P t e size bytes) (hgd : o.guard = none) (s x : Operand)
    (ho : o.op = .call { callee := .builtin .append, args := #[s, x], argTypes := #[t, t] })
    (base : Nat) (v : Value) (n : Nat) (xs : List Value) (hs : a.eval s = v) (hown : w.ownsRow base e size v n xs)
    (B : Nat) (news : List Value) (hx : a.eval x = .slice (some ⟨B, 0, none⟩) 1 1) (hl : news.length = size) (hnews : ∀ (j : Nat) u, news[j]? = some u → w.cell? ⟨B, j, none⟩ = some u) (h1 : ∀ u ∈ news, u.oneCell' = true)
    (hn : n ≤ 1000000) (hbase : base ≤ w.heap.size)
    (h : ∀ v' w', w'.ownsRow base e size v' (n + 1) (xs ++ news) → Below base w w' → w.heap.size ≤ w'.heap.size → wpList P ops Q rest (a.put o.dst v') w') : wpList P ops Q (o :: rest) a w := by
  obtain ⟨i, z, hi, hz, h2, h3, h4⟩ := I.info
  refine wpList_append_own w hgd s x t ho base e i z size bytes I.under hi hz h2 h3 h4 I.pos v n xs hs hown ⟨B, 0, none⟩ 1 1 news hx (by omega) ?_ h1 (by unfold maxLen; omega) ?_ hbase ?_
  · intro j u hj
    have := hnews j u hj
    rcases j with _ | j
    · simpa [Addr.add] using this
    · simpa [Addr.add] using this
  · have := Nat.mul_le_mul (Nat.add_le_add_right hn 1) I.small
    omega
  · intro v' w' hown' hg _
    exact h v' w' hown' (own_below hown hg hbase) hg.size
theorem Leads.of_own {w : World} {base : Nat} {e : TypeId} {size n : Nat} {v : Value} {xs : List Value} (h : w.ownsRow base e size v n xs) : ∃ a cap, v = .slice a n cap ∧ Leads w a n cap xs := by
  obtain ⟨hl, ⟨rfl, rfl⟩ | ⟨g, cap, cur, rfl, hg, hh, h1, h2, h3, h4⟩⟩ := h
  · exact ⟨none, 0, rfl, Nat.le_refl _, Nat.zero_le _, .inl ⟨rfl, List.eq_nil_of_length_eq_zero (by simpa using hl)⟩⟩
  · refine ⟨_, cap, rfl, h1, h2, .inr ⟨g, 0, rfl, ?_, fun i v hv => ?_⟩⟩
    · exact (Array.getElem?_eq_some_iff.1 hh).1
    · rw [Nat.zero_add]
      refine (cell_of_row w g i cur e (0, 0) hh).trans ?_
      rw [← h4, List.getElem?_take] at hv
      split at hv
      · rw [← hv, Array.getElem?_toList]
      · cases hv
end Go.Proofs.YtahicokokfcieaaGreatDoor
namespace Go.Proofs.YtahicokokfcieaaGreatDoor
open Go.RowKit
def wcells (xs : List Nat) : List Value := xs.map fun (x : Nat) => .int .u64 (x : Int)
def wok (xs : List Nat) : Prop := ∀ x ∈ xs, x < 18446744073709551616
def icells (xs : List Int) : List Value := xs.map fun (x : Int) => .int .i64 x
def iok (xs : List Int) : Prop := ∀ x ∈ xs, -9223372036854775808 ≤ x ∧ x ≤ 9223372036854775807
/-- What a walk over a row of words is told: the k-th one, and its cell. -/
theorem Leads.word {w : World} {a : Option Addr} {n cap k : Nat} {xs : List Nat} (h : Leads w a n cap (wcells xs)) (e : xs.length = n) (hx : wok xs) (hk : k < n) :
    ∃ b off x, a = some ⟨b, off, none⟩ ∧ x < 18446744073709551616 ∧ xs[k]? = some x ∧ ∀ w', Below w.heap.size w w' → w'.cell? ⟨b, off + k, none⟩ = some (.int .u64 (x : Int)) := by
  obtain ⟨_, _, ⟨h, _⟩ | ⟨b, off, rfl, h3, h4⟩⟩ := h
  · omega
  · have hs := List.getElem?_eq_getElem (l := xs) (i := k) (by omega)
    exact ⟨b, off, _, rfl, hx _ (List.mem_of_getElem? hs), hs, fun w' hb => (hb.cell (p := ⟨b, off + k, none⟩) h3).trans (h4 k _ (by unfold wcells; rw [List.getElem?_map, hs]; rfl))⟩
theorem Leads.number {w : World} {a : Option Addr} {n cap k : Nat} {xs : List Int} (h : Leads w a n cap (icells xs)) (e : xs.length = n) (hx : iok xs) (hk : k < n) :
    ∃ b off x, a = some ⟨b, off, none⟩ ∧ (-9223372036854775808 ≤ x ∧ x ≤ 9223372036854775807) ∧ xs[k]? = some x ∧ ∀ w', Below w.heap.size w w' → w'.cell? ⟨b, off + k, none⟩ = some (.int .i64 x) := by
  obtain ⟨_, _, ⟨h, _⟩ | ⟨b, off, rfl, h3, h4⟩⟩ := h
  · omega
  · have hs := List.getElem?_eq_getElem (l := xs) (i := k) (by omega)
    exact ⟨b, off, _, rfl, hx _ (List.mem_of_getElem? hs), hs, fun w' hb => (hb.cell (p := ⟨b, off + k, none⟩) h3).trans (h4 k _ (by unfold icells; rw [List.getElem?_map, hs]; rfl))⟩
end Go.Proofs.YtahicokokfcieaaGreatDoor
namespace Go.Proofs.YtahicokokfcieaaGreatDoor
open Go.RowKit
open Go.Proofs
open Go.Maps (has size Tidy IsMap)
set_option linter.unusedVariables false
theorem wfU {k : Nat} (h : k < 18446744073709551616) : (Lit.int .u64 ((k : Nat) : Int)).wf = true := by
  simp [Lit.wf, IntKind.min, IntKind.max, IntKind.signed, IntKind.bits]
  omega
/-- The datum of a map to which these pairs were written, one behind the other. -/
def mapD (l : List (Nat × Nat)) : DataW Unit := l.foldl (fun D p => D.put (.int .u64 ((p.1 : Nat) : Int)) (.lit (.int .u64 ((p.2 : Nat) : Int)))) (.map [])
theorem isKey (k : Nat) : WideAt.IsKeyLit (.int .u64 ((k : Nat) : Int)) := trivial
theorem key_ne {a b : Nat} (h : a ≠ b) : (Lit.int .u64 ((a : Nat) : Int)) ≠ (Lit.int .u64 ((b : Nat) : Int)) := by
  intro e
  simp only [Lit.int.injEq, true_and] at e
  omega
/-- What is read at a key: what was written there last; 0: nothing was. -/
def atM (l : List (Nat × Nat)) (k : Nat) : Nat := l.foldl (fun a p => if p.1 = k then p.2 else a) 0
theorem atM_snoc (l : List (Nat × Nat)) (p : Nat × Nat) (k : Nat) : atM (l ++ [p]) k = if p.1 = k then p.2 else atM l k := by simp [atM, List.foldl_append]
/-- A block is a map to which these pairs were written. -/
def Ids (w : World) (b : Nat) (l : List (Nat × Nat)) : Prop := World.ownsMap w Tryz.prog 26 (plainElem Tryz.prog 26) b l.length (mapD l)
theorem keyedU : Maps.Keyed Tryz.prog 26 := Maps.int_keyed Tryz.underlying26
theorem keyU {k : Nat} (h : k < 18446744073709551616) : keyOf Tryz.prog 26 (.int .u64 ((k : Nat) : Int)) = some (.int .u64 ((k : Nat) : Int)) := Maps.keyOf_int_mk Tryz.underlying26 (wfU h)
theorem Ids.made (w : World) : Ids (w.alloc (.map #[] 0)) w.heap.size [] := World.ownsMap_made w _ _ _
theorem Ids.grow {w w' : World} {b : Nat} {l : List (Nat × Nat)} (h : Ids w b l) (hb : Below w.heap.size w w') : Ids w' b l := by
  have hlt := World.ownsMap.lt h
  obtain ⟨es, clock, hb', F, hs, hD⟩ := h
  exact ⟨es, clock, (hb.block b hlt).trans hb', F, hs, hD⟩
theorem Ids.len {w : World} {b : Nat} {l : List (Nat × Nat)} (h : Ids w b l) {t : TypeId} (ht : Tryz.prog.underlying t = some (.map 26 26)) (ty : TypeId) : (Builtin.len_ #[t] ty #[.map (some b)]).run Tryz.prog w = .ok (.int .i64 ((size (mapD l) : Nat) : Int)) w := World.ownsMap.len h ht ty
end Go.Proofs.YtahicokokfcieaaGreatDoor
namespace Go.Proofs.YtahicokokfcieaaGreatDoor
open Go.RowKit
open Go.Proofs
open Go.Maps (has size Tidy IsMap)
set_option linter.unusedVariables false
theorem wfI {k : Nat} (h : k < 1000) : (Lit.int .i64 ((k : Nat) : Int)).wf = true := by
  simp [Lit.wf, IntKind.min, IntKind.max, IntKind.signed, IntKind.bits]
  omega
def mapDI (l : List (Nat × Nat)) : DataW Unit := l.foldl (fun D p => D.put (.int .u64 ((p.1 : Nat) : Int)) (.lit (.int .i64 ((p.2 : Nat) : Int)))) (.map [])
theorem mapD_snocI (l : List (Nat × Nat)) (p : Nat × Nat) : mapDI (l ++ [p]) = (mapDI l).put (.int .u64 ((p.1 : Nat) : Int)) (.lit (.int .i64 ((p.2 : Nat) : Int))) := by simp [mapDI, List.foldl_append]
theorem mapD_tidyI (l : List (Nat × Nat)) : Tidy (mapDI l) := by
  refine snocRec (p := fun l => Tidy (mapDI l)) Maps.tidy_empty (fun l p h => ?_) l
  rw [mapD_snocI]; exact h.put (isKey _) _
theorem mapD_atI (l : List (Nat × Nat)) (k : Nat) : (mapDI l).atKey (.int .u64 ((k : Nat) : Int)) (.lit (.int .i64 0)) = .lit (.int .i64 ((atM l k : Nat) : Int)) := by
  refine snocRec (p := fun l => (mapDI l).atKey (.int .u64 ((k : Nat) : Int)) (.lit (.int .i64 0)) = .lit (.int .i64 ((atM l k : Nat) : Int))) rfl (fun l p h => ?_) l
  rw [mapD_snocI, atM_snoc]
  by_cases e : p.1 = k
  · rw [← e, Maps.atKey_put_same (mapD_tidyI l).isMap (isKey _), if_pos rfl]
  · rw [Maps.atKey_put_other (key_ne (Ne.symm e)), h, if_neg e]
def IdsI (w : World) (b : Nat) (l : List (Nat × Nat)) : Prop := World.ownsMap w Tryz.prog 26 (plainElem Tryz.prog 3) b l.length (mapDI l)
theorem IdsI.made (w : World) : IdsI (w.alloc (.map #[] 0)) w.heap.size [] := World.ownsMap_made w _ _ _
theorem IdsI.grow {w w' : World} {b : Nat} {l : List (Nat × Nat)} (h : IdsI w b l) (hb : Below w.heap.size w w') : IdsI w' b l := by
  have hlt := World.ownsMap.lt h
  obtain ⟨es, clock, hb', F, hs, hD⟩ := h
  exact ⟨es, clock, (hb.block b hlt).trans hb', F, hs, hD⟩
end Go.Proofs.YtahicokokfcieaaGreatDoor
namespace Go.Proofs.YtahicokokfcieaaGreatDoor
open Go.RowKit
section
variable {P : Program} {ops : Array Oper} {md : Region.Mode} {C : World → Prop} {Q : Exit → Act → World → Prop}
/-- An operation that enters no function. -/
def noGo (o : Oper) : Bool := match o.op with
  | .move _ | .assign _ | .pick _ _ _ | .load _ _ | .nilCheck _ | .binOp _ _ _ _ _ | .unOp _ _ _ | .convert _ _ _ | .slice _ _ _ _ _ | .fieldAddr _ _ _ | .field _ _ _ | .indexAddr _ _ _ | .index _ _ _ | .build _ _ | .sliceToArrayPointer _ _ | .makeInterface _ _ | .makeFunc _ _ _ | .lookup _ _ _ _ | .extract _ _ | .typeAssert _ _ _ _ => true
  | .call c => match c.callee with
    | .builtin .len | .builtin .cap | .builtin .min | .builtin .max => true
    | _ => false
  | _ => false
theorem never_bind {α : Type} (s : Sem α) (k : α → Sem Next) (f : FuncId) (args : Array Value) (w w' : World) (h : ∀ a w, (k a).run P w ≠ .ok (.enter f args) w') : (s >>= k).run P w ≠ .ok (.enter f args) w' := by
  rw [Sem.run_bind]
  cases s.run P w with
  | ok a w1 => exact h a w1
  | halt x w1 => simp [Result.andThen]
theorem never_v (s : Sem Value) (w : World) (f : FuncId) (args : Array Value) (w' : World) : (s >>= fun v => (pure (.value v) : Sem Next)).run P w ≠ .ok (.enter f args) w' :=
  never_bind s _ f args w w' fun a w => by simp
theorem noGo_enter {o : Oper} {ρ : Operand → Value} {w w' : World} {f : FuncId} {args : Array Value} (h : noGo o = true) : (execOp ρ o).run P w ≠ .ok (.enter f args) w' := by
  unfold noGo at h
  unfold execOp
  cases ho : o.op <;> simp only [ho] at h ⊢ <;> first | exact absurd h (by decide) | exact never_v _ _ _ _ _ | skip
  case move => simp
  case assign => simp
  case pick c a b => exact never_bind _ _ _ _ _ _ fun a w => by simp
  case nilCheck x =>
    split
    · simp [go_sem]
    · simp [go_sem]
    · simp [go_sem]
    · split
      · simp [go_sem]
      · refine never_bind _ _ _ _ _ _ fun a w => never_bind _ _ _ _ _ _ fun b w => ?_
        split
        · exact never_bind _ _ _ _ _ _ fun b w => by simp
        · simp
      · simp
    · simp
  case call c =>
    unfold resolve
    split at h <;> rename_i hc <;> first | (cases h; done) | skip
    all_goals simp only [hc, invoke, builtin]
    · exact never_v (Builtin.len_ c.argTypes o.type (c.args.map ρ)) _ _ _ _
    · exact never_v (Builtin.cap_ c.argTypes o.type (c.args.map ρ)) _ _ _ _
    · exact never_v (Builtin.min_ c.argTypes o.type (c.args.map ρ)) _ _ _ _
    · exact never_v (Builtin.max_ c.argTypes o.type (c.args.map ρ)) _ _ _ _
/-- In every world of the class the operation leaves this value, and the world as it is. -/
def StillIn (P : Program) (ops : Array Oper) (C : World → Prop) (o : Oper) (v : Value) (a : Act) : Prop :=
  (Region.wanted o (yielded ops a.tmps) = true ∧ ∀ w, C w → (execOp a.eval o).run P w = .ok (.value v) w ∨ ((execOp a.eval o).run P w = .ok .skip w ∧ v = undef)) ∨
  (Region.wanted o (yielded ops a.tmps) = false ∧ v = undef)
theorem stillIn_of_quiet {o : Oper} {a : Act} {K : Act → Prop} (hg : noGo o = true) (h : wpQuiet P ops C K [o] a) : ∃ v, StillIn P ops C o v a ∧ K (a.put o.dst v) := by
  unfold wpQuiet at h
  by_cases hw : Region.wanted o (yielded ops a.tmps) = true
  · rw [if_pos hw] at h
    obtain ⟨v, h1, h2⟩ := h
    refine ⟨v, .inl ⟨hw, fun w hC => ?_⟩, h2⟩
    have h3 := h1 w hC
    unfold Oper.quietAt at h3
    have h4 := fun f args w' => noGo_enter (P := P) (ρ := a.eval) (w := w) (w' := w') (f := f) (args := args) hg
    generalize (execOp a.eval o).run P w = r at *
    cases r with
    | ok n w' =>
      cases n <;> simp only [Oper.quietUpon] at h3
      case value u => obtain ⟨rfl, rfl⟩ := h3; exact .inl rfl
      case skip => obtain ⟨rfl, rfl⟩ := h3; exact .inr ⟨rfl, rfl⟩
      case enter f args => exact absurd rfl (h4 f args w')
    | halt x w' => simp only [Oper.quietUpon] at h3
  · rw [if_neg hw] at h
    exact ⟨undef, .inr ⟨by simpa using hw, rfl⟩, h⟩
theorem StillIn.of_same {o : Oper} {v : Value} {a a' : Act} (hy : StillIn P ops C o v a) (he : execOp a'.eval o = execOp a.eval o)
    (hw : Region.wanted o (yielded ops a'.tmps) = Region.wanted o (yielded ops a.tmps)) : StillIn P ops C o v a' := by
  unfold StillIn at *
  rw [he, hw]
  exact hy
/-- Where a region's operation goes on; what else it may come to: to have no room. -/
def outQ (K : Act → World → Prop) (Q : Exit → Act → World → Prop) : Exit → Act → World → Prop
  | .normal, a, w => K a w
  | .outgrown, a, w => Q .outgrown a w
  | _, _, _ => False
theorem StillIn.wpOp {i : Nat} {o : Oper} {v : Value} {a : Act} {w : World} {Q' : Exit → Act → World → Prop} (hi : ops[i]? = some o) (hC : C w) (hy : StillIn P ops C o v a) {K : Act → World → Prop} (h : K (a.put o.dst v) w) : wpOp P ops Q' i K a w := by
  unfold Go.wpOp
  simp only [hi]
  rcases hy with ⟨hw, hv⟩ | ⟨hw, rfl⟩
  · rw [if_pos hw]
    left
    unfold Oper.wp
    rcases hv w hC with e | ⟨e, rfl⟩
    · rw [e]; exact h
    · rw [e]; exact h
  · rw [if_neg (by rw [hw]; exact Bool.false_ne_true)]; exact h
/-- One operation oj, apart from oi: whether oi's value is already there makes no difference to it, and it makes none to oi. -/
theorem wpOp_put {j : Nat} {oi oj : Oper} {v : Value} (hj : ops[j]? = some oj) (hap : oi.apart ops oj = true)
    (hsi : ∀ cs b, oi.op ≠ .select cs b) (hsj : ∀ cs b, oj.op ≠ .select cs b) {K K' : Act → World → Prop} {R : Act → World → Prop} {a : Act} {w : World}
    (hy : StillIn P ops C oi v a) (hK : ∀ a' w', StillIn P ops C oi v a' → K (a'.put oi.dst v) w' → K' a' w') (h : wpOp P ops (outQ R Q) j K (a.put oi.dst v) w) :
    wpOp P ops (outQ R Q) j K' a w := by
  obtain ⟨h1, h2, h3⟩ := Oper.apart_spec hap
  have keep : ∀ u, StillIn P ops C oi v (a.put oj.dst u) := fun u =>
    hy.of_same (execOp_put oi hsi a oj.dst u h3) (wanted_put oi a oj.dst u h3)
  have go : ∀ u w', K ((a.put oi.dst v).put oj.dst u) w' → K' (a.put oj.dst u) w' := fun u w' h => hK _ _ (keep u) (by rw [← Act.put_comm a v u h2]; exact h)
  unfold wpOp at *
  simp only [hj] at *
  rw [wanted_put oj a oi.dst v h1] at h
  split
  · rename_i hw
    simp only [hw, if_true] at h
    rcases h with h | ⟨h, hl⟩
    · left
      unfold Oper.wp at *
      rw [execOp_put oj hsj a oi.dst v h1] at h
      generalize (execOp a.eval oj).run P w = r at *
      cases r with
      | ok n w' =>
        cases n <;> simp only [Oper.upon] at h ⊢
        case value u => exact go _ _ h
        case skip => exact go _ _ h
        case enter f args =>
          refine Calls.mono h fun e w'' he => ?_
          cases e with
          | returned u => exact go _ _ he
          | panicked c => exact he
          | outgrown => exact he
        case row r args => exact Rows.mono h fun u w'' he => go _ _ he
        case defer d =>
          have ev : ∀ (b : Act) (ds : List Deferred), ({ b with defers := ds } : Act).eval = b.eval := fun b ds => by funext x; cases x <;> rfl
          have hb : StillIn P ops C oi v { a with defers := d :: a.defers } := hy.of_same (by rw [ev]) rfl
          refine hK _ _ (hb.of_same (execOp_put oi hsi _ oj.dst _ h3) (wanted_put oi _ oj.dst _ h3)) ?_
          rw [← Act.put_comm _ v undef h2]
          have e : ({ a with defers := d :: a.defers } : Act).put oi.dst v = { a.put oi.dst v with defers := d :: (a.put oi.dst v).defers } := by cases hd : oi.dst <;> rfl
          rw [e]
          exact h
      | halt x w' => cases x <;> simp only [Oper.upon] at h ⊢ <;> exact h
    · right
      refine ⟨?_, hl⟩
      unfold Oper.asks at *
      rwa [execOp_put oj hsj a oi.dst v h1] at h
  · rename_i hw
    simp only [hw] at h
    exact go _ _ h
/-- Whatever order is picked for the operations ahead of number n: each step leaves a world of the class. -/
def wpAnyM (P : Program) (md : Region.Mode) (ops : Array Oper) (C : World → Prop) (Q : Exit → Act → World → Prop) (n : Nat) (L : Array Bool → Act → World → Prop) : Nat → Array Bool → Act → World → Prop
  | 0, listed, a, w => L listed a w
  | f + 1, listed, a, w =>
    Region.ready md ops listed ≠ [] ∧ ∀ i ∈ Region.ready md ops listed, i < n ∧ wpOp P ops (outQ (fun _ _ => False) Q) i (fun a' w' => C w' ∧ wpAnyM P md ops C Q n L f (listed.setIfInBounds i true) a' w') a w
theorem wpOp_exit {i : Nat} {K : Act → World → Prop} {Q₁ Q₂ : Exit → Act → World → Prop} {a : Act} {w : World} (hp : ∀ c a w, Q₁ (.panic c) a w → Q₂ (.panic c) a w) (hl : LetsOut Q₁ → LetsOut Q₂) (h : wpOp P ops Q₁ i K a w) : wpOp P ops Q₂ i K a w := by
  unfold wpOp at *
  split
  · rename_i ho; simp only [ho] at h; exact h
  · rename_i o ho
    simp only [ho] at h
    split
    · rename_i hw
      simp only [hw, if_true] at h
      refine h.imp (fun h => ?_) fun h => ⟨h.1, hl h.2⟩
      unfold Oper.wp at *
      generalize (execOp a.eval o).run P w = r at *
      cases r with
      | ok n w' =>
        cases n <;> simp only [Oper.upon] at h ⊢ <;> try exact h
        case enter f args =>
          refine Calls.mono h fun e w'' he => ?_
          cases e with
          | returned u => exact he
          | panicked c => exact hp _ _ _ he
          | outgrown => exact hl he
      | halt x w' => cases x <;> simp only [Oper.upon] at h ⊢; exact hp _ _ _ h
    · rename_i hw; simp only [hw] at h; exact h
theorem wpAny_of_headM {n g : Nat} {L : Array Bool → Act → World → Prop} (hL : ∀ listed a w, C w → L listed a w → wpAny P md ops Q g listed a w) :
    ∀ (f : Nat) (listed : Array Bool) (a : Act) (w : World), C w → wpAnyM P md ops C Q n L f listed a w → wpAny P md ops Q (f + g) listed a w
  | 0, listed, a, w, hC, h => by rw [Nat.zero_add]; exact hL _ _ _ hC h
  | f + 1, listed, a, w, hC, h => by
    rw [show f + 1 + g = (f + g) + 1 by omega]
    exact ⟨fun h0 => absurd h0 h.1, fun i hi => wpOp_exit (Q₁ := outQ (fun _ _ => False) Q) (fun _ _ _ (h : False) => h.elim) (fun ⟨a, w, h⟩ => ⟨a, w, h⟩) (wpOp_mono (fun a' w' h' => wpAny_of_headM hL f _ a' w' h'.1 h'.2) (h.2 i hi).2)⟩
theorem wpAnyM_first {n i : Nat} {oi : Oper} {v : Value} {L : Array Bool → Act → World → Prop} (hi : ops[i]? = some oi) (hsel : ∀ (j : Nat) (o : Oper) cs b, ops[j]? = some o → o.op ≠ .select cs b)
    (hin : i < n) (htw : ∀ listed, HeadInv md ops n listed → listed.getD i true = false → ∀ t, n ≤ t → t ∉ Region.ready md ops listed)
    (hdone : ∀ listed a w, L listed a w → ∀ j ∈ Region.ready md ops listed, n ≤ j) :
    ∀ (f : Nat) (listed : Array Bool) (a : Act) (w : World), C w → HeadInv md ops n listed →
      (∀ j oj, ops[j]? = some oj → j ≠ i → listed.getD j true = false → (∀ e ∈ oj.after, Region.binds md e = true → e.on ≠ i) → oi.apart ops oj = true) →
      i ∈ Region.ready md ops listed → StillIn P ops C oi v a →
      wpAnyM P md ops C Q n L f (listed.setIfInBounds i true) (a.put oi.dst v) w → wpAnyM P md ops C Q n L (f + 1) listed a w := by
  intro f
  induction f with
  | zero =>
    intro listed a w hC inv _ hr hy H
    have hun := (mem_ready.1 hr).1
    refine ⟨fun h => (by rw [h] at hr; cases hr), fun j hj => ?_⟩
    have hjn : j < n := by
      rcases Nat.lt_or_ge j n with h | h
      · exact h
      · exact absurd hj (htw listed inv hun j h)
    refine ⟨hjn, ?_⟩
    by_cases hji : j = i
    · subst hji; exact hy.wpOp hi hC ⟨hC, H⟩
    · have := hdone _ _ _ H j (ready_mono hj hji)
      omega
  | succ f ih =>
    intro listed a w hC inv hfree hr hy H
    have hun := (mem_ready.1 hr).1
    refine ⟨fun h => (by rw [h] at hr; cases hr), fun j hj => ?_⟩
    have hjn : j < n := by
      rcases Nat.lt_or_ge j n with h | h
      · exact h
      · exact absurd hj (htw listed inv hun j h)
    refine ⟨hjn, ?_⟩
    by_cases hji : j = i
    · subst hji; exact hy.wpOp hi hC ⟨hC, H⟩
    · have h1 := (H.2 j (ready_mono hj hji)).2
      obtain ⟨hjun, oj, hoj, hall⟩ := mem_ready.1 hj
      have hnot : ∀ e ∈ oj.after, Region.binds md e = true → e.on ≠ i := fun e he hb heq => by
        have h1 := hall e he hb
        rw [heq, getD_both hun] at h1
        cases h1
      have hfree' : ∀ k ok, ops[k]? = some ok → k ≠ i → (listed.setIfInBounds j true).getD k true = false →
          (∀ e ∈ ok.after, Region.binds md e = true → e.on ≠ i) → oi.apart ops ok = true := fun k ok hk hki hun hno => by
        refine hfree k ok hk hki ?_ hno
        by_cases hjk : j = k
        · subst hjk; exact hjun
        · rw [getD_set_ne true hjk] at hun; exact hun
      refine wpOp_put hoj (hfree j oj hoj hji hjun hnot) (fun cs b => hsel i oi cs b hi) (fun cs b => hsel j oj cs b hoj) hy (fun a' w' hy' h3 => ?_) h1
      refine ⟨h3.1, ih (listed.setIfInBounds j true) a' w' h3.1 (inv.set hj hjn) hfree' (ready_mono hr (Ne.symm hji)) hy' ?_⟩
      rw [Array.setIfInBounds_comm _ _ hji]
      exact h3.2
/-- The operations in a given order: the quiet ones (false), and those that write, make memory or call (true). -/
def wpMix (P : Program) (ops : Array Oper) (C : World → Prop) (Q : Exit → Act → World → Prop) (K : Act → World → Prop) : List (Nat × Bool) → Act → World → Prop
  | [], a, w => K a w
  | (k, true) :: rest, a, w => ∃ o, ops.toList[k]? = some o ∧ ∀ R : Exit → Act → World → Prop, (∀ a' w', C w' → wpMix P ops C Q K rest a' w' → R .normal a' w') → (∀ a w, Q .outgrown a w → R .outgrown a w) → wpList P ops R [o] a w
  | (k, false) :: rest, a, w => ∃ o, ops.toList[k]? = some o ∧ noGo o = true ∧ wpQuiet P ops C (fun a' => wpMix P ops C Q K rest a' w) [o] a
def planB (md : Region.Mode) (ops : Array Oper) (n : Nat) : List (Nat × Bool) → Array Bool → Bool
  | [], listed => Region.seqB md ops (ops.size - n) n listed
  | (k, true) :: rest, listed => decide (k < n) && decide (Region.ready md ops listed = [k]) && planB md ops n rest (listed.setIfInBounds k true)
  | (k, false) :: rest, listed => decide (k < n) && (Region.ready md ops listed).contains k && Region.free md ops listed k && planB md ops n rest (listed.setIfInBounds k true)
theorem wpAnyM_plan {n : Nat} {K : Act → World → Prop} (hsel : Region.noSelect ops = true) (htw : ∀ listed i, i < n → HeadInv md ops n listed → listed.getD i true = false → ∀ t, n ≤ t → t ∉ Region.ready md ops listed) :
    ∀ (plan : List (Nat × Bool)) (listed : Array Bool) (a : Act) (w : World), C w → HeadInv md ops n listed → planB md ops n plan listed = true → wpMix P ops C Q K plan a w →
    wpAnyM P md ops C Q n (fun listed' a' w' => Region.seqB md ops (ops.size - n) n listed' = true ∧ K a' w') plan.length listed a w
  | [], listed, a, w, _, _, hB, h => ⟨hB, h⟩
  | (k, true) :: rest, listed, a, w, hC, inv, hB, h => by
    simp only [planB, Bool.and_eq_true, decide_eq_true_eq] at hB
    obtain ⟨⟨hk, hr⟩, hB⟩ := hB
    obtain ⟨o, ho, h⟩ := h
    refine ⟨by rw [hr]; simp, fun i hi => ?_⟩
    have hi' := hi
    rw [hr] at hi
    obtain rfl : i = k := by simpa using hi
    refine ⟨hk, ?_⟩
    have h1 := h (outQ (fun a' w' => C w' ∧ wpMix P ops C Q K rest a' w') Q) (fun a' w' hC h => ⟨hC, h⟩) (fun a w h => h)
    have h2 : wpOp P ops (outQ (fun a' w' => C w' ∧ wpMix P ops C Q K rest a' w') Q) i (fun a' w' => C w' ∧ wpMix P ops C Q K rest a' w') a w := by
      unfold wpOp
      have ho' : ops[i]? = some o := by simpa using ho
      simp only [ho']
      exact h1
    exact wpOp_mono (fun a' w' h' => ⟨h'.1, wpAnyM_plan hsel htw rest _ a' w' h'.1 (inv.set hi' hk) hB h'.2⟩) (wpOp_exit (Q₁ := outQ (fun a' w' => C w' ∧ wpMix P ops C Q K rest a' w') Q) (Q₂ := outQ (fun _ _ => False) Q) (fun _ _ _ h => h) (fun ⟨a, w, h⟩ => ⟨a, w, h⟩) h2)
  | (k, false) :: rest, listed, a, w, hC, inv, hB, h => by
    simp only [planB, Bool.and_eq_true, decide_eq_true_eq] at hB
    obtain ⟨⟨⟨hk, hr⟩, hf⟩, hB⟩ := hB
    obtain ⟨o, ho, hg, h⟩ := h
    have ho' : ops[k]? = some o := by simpa using ho
    have hr' : k ∈ Region.ready md ops listed := by simpa using hr
    obtain ⟨v, hy, hK⟩ := stillIn_of_quiet hg h
    exact wpAnyM_first ho' (Region.noSelect_spec hsel) hk (fun listed inv hu => htw listed k hk inv hu) (fun listed' a' w' hL => seqB_ready hL.1) rest.length listed a w hC inv (Region.free_spec ho' hf) hr' hy
      (wpAnyM_plan hsel htw rest _ _ w hC (inv.set hr' hk) hB hK)
/-- The order is one that the region's edges allow; number n and what stands behind come last. -/
def mixB (md : Region.Mode) (ops : Array Oper) (n : Nat) (plan : List (Nat × Bool)) : Bool :=
  Region.noSelect ops && decide (plan.length = n) && decide (n ≤ ops.size) && (decide (n = ops.size) || (Region.sinkB md ops n && Region.chainB md ops n)) && planB md ops n plan (Array.replicate ops.size false)
/-- ONE WALK SERVES EVERY ORDER: the quiet operations of the region yield one value in every world of the class C; the others are carried out in one order that is forced, each leaves a world of the class; from number n on they come last. -/
theorem wp_region_mix {id : Nat} {a : Act} {w : World} {l : List Oper} (C : World → Prop) (n : Nat) (plan : List (Nat × Bool)) (hm : P.follows .mixedOrders = true) (hB : mixB .any l.toArray n plan = true) (hC : C w.drew)
    (h : wpMix P l.toArray C Q (fun a' w' => wpList P l.toArray Q (l.drop n) a' w') plan a w.drew) : (Code.region id l.toArray true).wp P Q a w := by
  simp only [mixB, Bool.and_eq_true, Bool.or_eq_true, decide_eq_true_eq] at hB
  obtain ⟨⟨⟨⟨hsel, hpl⟩, hn⟩, hsc⟩, hplan⟩ := hB
  have htw : ∀ listed i, i < n → HeadInv .any l.toArray n listed → listed.getD i true = false → ∀ t, n ≤ t → t ∉ Region.ready .any l.toArray listed := by
    intro listed i hi inv hu t ht hr
    rcases hsc with hsc | ⟨hs, hc⟩
    · obtain ⟨_, ot, hot, _⟩ := mem_ready.1 hr
      have := (Array.getElem?_eq_some_iff.1 hot).1
      omega
    · obtain ⟨_, ot, hot, _⟩ := mem_ready.1 hr
      have hlt := (Array.getElem?_eq_some_iff.1 hot).1
      exact tail_waits hs hc (by omega) inv (n - i) i rfl hi hu t ht hr
  have inv0 : HeadInv .any l.toArray n (Array.replicate l.toArray.size false) :=
    ⟨by simp, fun j oj _ hl => (by rw [getD_replicate_false] at hl; cases hl), fun t _ ht => getD_in (by simpa using ht) (getD_replicate_false _ _)⟩
  have H := wpAnyM_plan (md := .any) hsel htw plan _ a w.drew hC inv0 hplan h
  refine wp_region_any hm ?_
  have := wpAny_of_headM (Q := Q) (g := l.toArray.size - n) (fun listed a' w' _ hL => by
    have := wpAny_of_seq (md := .any) (Q' := Q) (l.drop n) n listed a' w' (fun j => by simp [List.getElem?_drop]) (by simpa using hL.1) hL.2
    simpa using this) _ _ _ _ hC H
  rw [hpl, show n + (l.toArray.size - n) = l.toArray.size by omega] at this
  exact this
end
end Go.Proofs.YtahicokokfcieaaGreatDoor
namespace Go.Proofs.YtahicokokfcieaaGreatDoor
open Go.RowKit
inductive MPlan
  | done
  | q (k : Nat) (rest : MPlan)
  | h (k : Nat) (rest : MPlan)
  | h2 (k : Nat) (r1 : MPlan) (k' : Nat) (r2 : MPlan)
section
variable {P : Program} {ops : Array Oper} {md : Region.Mode} {C : World → Prop} {Q : Exit → Act → World → Prop}
/-- The operations in an order; where two are open: in each. -/
def wpMix2 (P : Program) (ops : Array Oper) (C : World → Prop) (Q : Exit → Act → World → Prop) (K : Act → World → Prop) : MPlan → Act → World → Prop
  | .done, a, w => K a w
  | .h k rest, a, w => ∃ o, ops.toList[k]? = some o ∧ ∀ R : Exit → Act → World → Prop, (∀ a' w', C w' → wpMix2 P ops C Q K rest a' w' → R .normal a' w') → (∀ a w, Q .outgrown a w → R .outgrown a w) → wpList P ops R [o] a w
  | .q k rest, a, w => ∃ o, ops.toList[k]? = some o ∧ noGo o = true ∧ wpQuiet P ops C (fun a' => wpMix2 P ops C Q K rest a' w) [o] a
  | .h2 k r1 k' r2, a, w =>
    (∃ o, ops.toList[k]? = some o ∧ ∀ R : Exit → Act → World → Prop, (∀ a' w', C w' → wpMix2 P ops C Q K r1 a' w' → R .normal a' w') → (∀ a w, Q .outgrown a w → R .outgrown a w) → wpList P ops R [o] a w) ∧
    (∃ o, ops.toList[k']? = some o ∧ ∀ R : Exit → Act → World → Prop, (∀ a' w', C w' → wpMix2 P ops C Q K r2 a' w' → R .normal a' w') → (∀ a w, Q .outgrown a w → R .outgrown a w) → wpList P ops R [o] a w)
theorem wpMix2_q {K : Act → World → Prop} {k : Nat} {rest : MPlan} {a : Act} {w : World} {o : Oper} (ho : ops.toList[k]? = some o) (hg : noGo o = true)
    (h : wpQuiet P ops C (fun a' => wpMix2 P ops C Q K rest a' w) [o] a) : wpMix2 P ops C Q K (.q k rest) a w := ⟨o, ho, hg, h⟩
theorem wpMix2_h {K : Act → World → Prop} {k : Nat} {rest : MPlan} {a : Act} {w : World} {o : Oper} (ho : ops.toList[k]? = some o)
    (h : ∀ R : Exit → Act → World → Prop, (∀ a' w', C w' → wpMix2 P ops C Q K rest a' w' → R .normal a' w') → (∀ a w, Q .outgrown a w → R .outgrown a w) → wpList P ops R [o] a w) : wpMix2 P ops C Q K (.h k rest) a w := ⟨o, ho, h⟩
theorem wpMix2_h2 {K : Act → World → Prop} {k k' : Nat} {r1 r2 : MPlan} {a : Act} {w : World} (h1 : wpMix2 P ops C Q K (.h k r1) a w) (h2 : wpMix2 P ops C Q K (.h k' r2) a w) : wpMix2 P ops C Q K (.h2 k r1 k' r2) a w := ⟨h1, h2⟩
theorem wpMix2_done {K : Act → World → Prop} {a : Act} {w : World} (h : K a w) : wpMix2 P ops C Q K .done a w := h
def planB2 (md : Region.Mode) (ops : Array Oper) (n : Nat) : Nat → MPlan → Array Bool → Bool
  | 0, .done, listed => Region.seqB md ops (ops.size - n) n listed
  | f + 1, .h k rest, listed => decide (k < n) && decide (Region.ready md ops listed = [k]) && planB2 md ops n f rest (listed.setIfInBounds k true)
  | f + 1, .q k rest, listed => decide (k < n) && (Region.ready md ops listed).contains k && Region.free md ops listed k && planB2 md ops n f rest (listed.setIfInBounds k true)
  | f + 1, .h2 k r1 k' r2, listed => decide (k < n) && decide (k' < n) && decide (Region.ready md ops listed = [k, k']) && planB2 md ops n f r1 (listed.setIfInBounds k true) && planB2 md ops n f r2 (listed.setIfInBounds k' true)
  | _, _, _ => false
theorem wpOp_heavy {K : Act → World → Prop} {i : Nat} {a : Act} {w : World} {o : Oper} (ho : ops.toList[i]? = some o)
    (h : ∀ R : Exit → Act → World → Prop, (∀ a' w', C w' → K a' w' → R .normal a' w') → (∀ a w, Q .outgrown a w → R .outgrown a w) → wpList P ops R [o] a w) :
    wpOp P ops (outQ (fun _ _ => False) Q) i (fun a' w' => C w' ∧ K a' w') a w := by
  have h1 := h (outQ (fun a' w' => C w' ∧ K a' w') Q) (fun a' w' hC h => ⟨hC, h⟩) (fun a w h => h)
  have h2 : wpOp P ops (outQ (fun a' w' => C w' ∧ K a' w') Q) i (fun a' w' => C w' ∧ K a' w') a w := by
    unfold wpOp
    have ho' : ops[i]? = some o := by simpa using ho
    simp only [ho']
    exact h1
  exact wpOp_exit (Q₁ := outQ (fun a' w' => C w' ∧ K a' w') Q) (Q₂ := outQ (fun _ _ => False) Q) (fun _ _ _ h => h) (fun ⟨a, w, h⟩ => ⟨a, w, h⟩) h2
theorem wpAnyM_plan2 {n : Nat} {K : Act → World → Prop} (hsel : Region.noSelect ops = true) (htw : ∀ listed i, i < n → HeadInv md ops n listed → listed.getD i true = false → ∀ t, n ≤ t → t ∉ Region.ready md ops listed) :
    ∀ (f : Nat) (plan : MPlan) (listed : Array Bool) (a : Act) (w : World), C w → HeadInv md ops n listed → planB2 md ops n f plan listed = true → wpMix2 P ops C Q K plan a w →
    wpAnyM P md ops C Q n (fun listed' a' w' => Region.seqB md ops (ops.size - n) n listed' = true ∧ K a' w') f listed a w
  | 0, .done, listed, a, w, _, _, hB, h => ⟨by simpa [planB2] using hB, h⟩
  | 0, .q _ _, _, _, _, _, _, hB, _ => by simp [planB2] at hB
  | 0, .h _ _, _, _, _, _, _, hB, _ => by simp [planB2] at hB
  | 0, .h2 _ _ _ _, _, _, _, _, _, hB, _ => by simp [planB2] at hB
  | f + 1, .done, _, _, _, _, _, hB, _ => by simp [planB2] at hB
  | f + 1, .h k rest, listed, a, w, hC, inv, hB, h => by
    simp only [planB2, Bool.and_eq_true, decide_eq_true_eq] at hB
    obtain ⟨⟨hk, hr⟩, hB⟩ := hB
    obtain ⟨o, ho, h⟩ := h
    refine ⟨by rw [hr]; simp, fun i hi => ?_⟩
    have hi' := hi
    rw [hr] at hi
    obtain rfl : i = k := by simpa using hi
    refine ⟨hk, ?_⟩
    exact wpOp_mono (fun a' w' h' => ⟨h'.1, wpAnyM_plan2 hsel htw f rest _ a' w' h'.1 (inv.set hi' hk) hB h'.2⟩) (wpOp_heavy ho h)
  | f + 1, .h2 k r1 k' r2, listed, a, w, hC, inv, hB, h => by
    simp only [planB2, Bool.and_eq_true, decide_eq_true_eq] at hB
    obtain ⟨⟨⟨⟨hk, hk'⟩, hr⟩, hB1⟩, hB2⟩ := hB
    obtain ⟨⟨o1, ho1, h1⟩, ⟨o2, ho2, h2⟩⟩ := h
    refine ⟨by rw [hr]; simp, fun i hi => ?_⟩
    have hi' := hi
    rw [hr] at hi
    have hi2 : i = k ∨ i = k' := by simpa using hi
    rcases hi2 with rfl | rfl
    · refine ⟨hk, ?_⟩
      exact wpOp_mono (fun a' w' h' => ⟨h'.1, wpAnyM_plan2 hsel htw f r1 _ a' w' h'.1 (inv.set hi' hk) hB1 h'.2⟩) (wpOp_heavy ho1 h1)
    · refine ⟨hk', ?_⟩
      exact wpOp_mono (fun a' w' h' => ⟨h'.1, wpAnyM_plan2 hsel htw f r2 _ a' w' h'.1 (inv.set hi' hk') hB2 h'.2⟩) (wpOp_heavy ho2 h2)
  | f + 1, .q k rest, listed, a, w, hC, inv, hB, h => by
    simp only [planB2, Bool.and_eq_true, decide_eq_true_eq] at hB
    obtain ⟨⟨⟨hk, hr⟩, hf⟩, hB⟩ := hB
    obtain ⟨o, ho, hg, h⟩ := h
    have ho' : ops[k]? = some o := by simpa using ho
    have hr' : k ∈ Region.ready md ops listed := by simpa using hr
    obtain ⟨v, hy, hK⟩ := stillIn_of_quiet hg h
    exact wpAnyM_first ho' (Region.noSelect_spec hsel) hk (fun listed inv hu => htw listed k hk inv hu) (fun listed' a' w' hL => seqB_ready hL.1) f listed a w hC inv (Region.free_spec ho' hf) hr' hy
      (wpAnyM_plan2 hsel htw f rest _ _ w hC (inv.set hr' hk) hB hK)
/-- The order is one that the region's edges allow; number n and what stands behind come last. -/
def mixB2 (md : Region.Mode) (ops : Array Oper) (n : Nat) (plan : MPlan) : Bool :=
  Region.noSelect ops && decide (n ≤ ops.size) && (decide (n = ops.size) || (Region.sinkB md ops n && Region.chainB md ops n)) && planB2 md ops n n plan (Array.replicate ops.size false)
/-- As wp_region_mix, where two heavy operations may be open at once. -/
theorem wp_region_mix2 {id : Nat} {a : Act} {w : World} {l : List Oper} (C : World → Prop) (n : Nat) (plan : MPlan) (hm : P.follows .mixedOrders = true) (hB : mixB2 .any l.toArray n plan = true) (hC : C w.drew)
    (h : wpMix2 P l.toArray C Q (fun a' w' => wpList P l.toArray Q (l.drop n) a' w') plan a w.drew) : (Code.region id l.toArray true).wp P Q a w := by
  simp only [mixB2, Bool.and_eq_true, Bool.or_eq_true, decide_eq_true_eq] at hB
  obtain ⟨⟨⟨hsel, hn⟩, hsc⟩, hplan⟩ := hB
  have htw : ∀ listed i, i < n → HeadInv .any l.toArray n listed → listed.getD i true = false → ∀ t, n ≤ t → t ∉ Region.ready .any l.toArray listed := by
    intro listed i hi inv hu t ht hr
    rcases hsc with hsc | ⟨hs, hc⟩
    · obtain ⟨_, ot, hot, _⟩ := mem_ready.1 hr
      have := (Array.getElem?_eq_some_iff.1 hot).1
      omega
    · obtain ⟨_, ot, hot, _⟩ := mem_ready.1 hr
      have hlt := (Array.getElem?_eq_some_iff.1 hot).1
      exact tail_waits hs hc (by omega) inv (n - i) i rfl hi hu t ht hr
  have inv0 : HeadInv .any l.toArray n (Array.replicate l.toArray.size false) :=
    ⟨by simp, fun j oj _ hl => (by rw [getD_replicate_false] at hl; cases hl), fun t _ ht => getD_in (by simpa using ht) (getD_replicate_false _ _)⟩
  have H := wpAnyM_plan2 (md := .any) hsel htw n plan _ a w.drew hC inv0 hplan h
  refine wp_region_any hm ?_
  have := wpAny_of_headM (Q := Q) (g := l.toArray.size - n) (fun listed a' w' _ hL => by
    have := wpAny_of_seq (md := .any) (Q' := Q) (l.drop n) n listed a' w' (fun j => by simp [List.getElem?_drop]) (by simpa using hL.1) hL.2
    simpa using this) _ _ _ _ hC H
  rw [show n + (l.toArray.size - n) = l.toArray.size by omega] at this
  exact this
end
end Go.Proofs.YtahicokokfcieaaGreatDoor
namespace Go.Proofs.YtahicokokfcieaaGreatDoor
open Go.RowKit
inductive MPlan3
  | done
  | q (k : Nat) (rest : MPlan3)
  | h (k : Nat) (rest : MPlan3)
  | h2 (k : Nat) (r1 : MPlan3) (k' : Nat) (r2 : MPlan3)
  | h3 (k : Nat) (r1 : MPlan3) (k' : Nat) (r2 : MPlan3) (k2 : Nat) (r3 : MPlan3)
section
variable {P : Program} {ops : Array Oper} {md : Region.Mode} {C : World → Prop} {Q : Exit → Act → World → Prop}
/-- The operations in an order; where two are open: in each. -/
def wpMix3 (P : Program) (ops : Array Oper) (C : World → Prop) (Q : Exit → Act → World → Prop) (K : Act → World → Prop) : MPlan3 → Act → World → Prop
  | .done, a, w => K a w
  | .h k rest, a, w => ∃ o, ops.toList[k]? = some o ∧ ∀ R : Exit → Act → World → Prop, (∀ a' w', C w' → wpMix3 P ops C Q K rest a' w' → R .normal a' w') → (∀ a w, Q .outgrown a w → R .outgrown a w) → wpList P ops R [o] a w
  | .q k rest, a, w => ∃ o, ops.toList[k]? = some o ∧ noGo o = true ∧ wpQuiet P ops C (fun a' => wpMix3 P ops C Q K rest a' w) [o] a
  | .h2 k r1 k' r2, a, w =>
    (∃ o, ops.toList[k]? = some o ∧ ∀ R : Exit → Act → World → Prop, (∀ a' w', C w' → wpMix3 P ops C Q K r1 a' w' → R .normal a' w') → (∀ a w, Q .outgrown a w → R .outgrown a w) → wpList P ops R [o] a w) ∧
    (∃ o, ops.toList[k']? = some o ∧ ∀ R : Exit → Act → World → Prop, (∀ a' w', C w' → wpMix3 P ops C Q K r2 a' w' → R .normal a' w') → (∀ a w, Q .outgrown a w → R .outgrown a w) → wpList P ops R [o] a w)
  | .h3 k r1 k' r2 k2 r3, a, w =>
    (∃ o, ops.toList[k]? = some o ∧ ∀ R : Exit → Act → World → Prop, (∀ a' w', C w' → wpMix3 P ops C Q K r1 a' w' → R .normal a' w') → (∀ a w, Q .outgrown a w → R .outgrown a w) → wpList P ops R [o] a w) ∧
    (∃ o, ops.toList[k']? = some o ∧ ∀ R : Exit → Act → World → Prop, (∀ a' w', C w' → wpMix3 P ops C Q K r2 a' w' → R .normal a' w') → (∀ a w, Q .outgrown a w → R .outgrown a w) → wpList P ops R [o] a w) ∧
    (∃ o, ops.toList[k2]? = some o ∧ ∀ R : Exit → Act → World → Prop, (∀ a' w', C w' → wpMix3 P ops C Q K r3 a' w' → R .normal a' w') → (∀ a w, Q .outgrown a w → R .outgrown a w) → wpList P ops R [o] a w)
theorem wpMix3_q {K : Act → World → Prop} {k : Nat} {rest : MPlan3} {a : Act} {w : World} {o : Oper} (ho : ops.toList[k]? = some o) (hg : noGo o = true)
    (h : wpQuiet P ops C (fun a' => wpMix3 P ops C Q K rest a' w) [o] a) : wpMix3 P ops C Q K (.q k rest) a w := ⟨o, ho, hg, h⟩
theorem wpMix3_h {K : Act → World → Prop} {k : Nat} {rest : MPlan3} {a : Act} {w : World} {o : Oper} (ho : ops.toList[k]? = some o)
    (h : ∀ R : Exit → Act → World → Prop, (∀ a' w', C w' → wpMix3 P ops C Q K rest a' w' → R .normal a' w') → (∀ a w, Q .outgrown a w → R .outgrown a w) → wpList P ops R [o] a w) : wpMix3 P ops C Q K (.h k rest) a w := ⟨o, ho, h⟩
theorem wpMix3_h2 {K : Act → World → Prop} {k k' : Nat} {r1 r2 : MPlan3} {a : Act} {w : World} (h1 : wpMix3 P ops C Q K (.h k r1) a w) (h2 : wpMix3 P ops C Q K (.h k' r2) a w) : wpMix3 P ops C Q K (.h2 k r1 k' r2) a w := ⟨h1, h2⟩
theorem wpMix3_h3 {K : Act → World → Prop} {k k' k2 : Nat} {r1 r2 r3 : MPlan3} {a : Act} {w : World} (h1 : wpMix3 P ops C Q K (.h k r1) a w) (h2 : wpMix3 P ops C Q K (.h k' r2) a w) (h3 : wpMix3 P ops C Q K (.h k2 r3) a w) : wpMix3 P ops C Q K (.h3 k r1 k' r2 k2 r3) a w := ⟨h1, h2, h3⟩
theorem wpMix3_done {K : Act → World → Prop} {a : Act} {w : World} (h : K a w) : wpMix3 P ops C Q K .done a w := h
def planB3 (md : Region.Mode) (ops : Array Oper) (n : Nat) : Nat → MPlan3 → Array Bool → Bool
  | 0, .done, listed => Region.seqB md ops (ops.size - n) n listed
  | f + 1, .h k rest, listed => decide (k < n) && decide (Region.ready md ops listed = [k]) && planB3 md ops n f rest (listed.setIfInBounds k true)
  | f + 1, .q k rest, listed => decide (k < n) && (Region.ready md ops listed).contains k && Region.free md ops listed k && planB3 md ops n f rest (listed.setIfInBounds k true)
  | f + 1, .h2 k r1 k' r2, listed => decide (k < n) && decide (k' < n) && decide (Region.ready md ops listed = [k, k']) && planB3 md ops n f r1 (listed.setIfInBounds k true) && planB3 md ops n f r2 (listed.setIfInBounds k' true)
  | f + 1, .h3 k r1 k' r2 k2 r3, listed => decide (k < n) && decide (k' < n) && decide (k2 < n) && decide (Region.ready md ops listed = [k, k', k2]) && planB3 md ops n f r1 (listed.setIfInBounds k true) && planB3 md ops n f r2 (listed.setIfInBounds k' true) && planB3 md ops n f r3 (listed.setIfInBounds k2 true)
  | _, _, _ => false
theorem wpAnyM_plan3 {n : Nat} {K : Act → World → Prop} (hsel : Region.noSelect ops = true) (htw : ∀ listed i, i < n → HeadInv md ops n listed → listed.getD i true = false → ∀ t, n ≤ t → t ∉ Region.ready md ops listed) :
    ∀ (f : Nat) (plan : MPlan3) (listed : Array Bool) (a : Act) (w : World), C w → HeadInv md ops n listed → planB3 md ops n f plan listed = true → wpMix3 P ops C Q K plan a w →
    wpAnyM P md ops C Q n (fun listed' a' w' => Region.seqB md ops (ops.size - n) n listed' = true ∧ K a' w') f listed a w
  | 0, .done, listed, a, w, _, _, hB, h => ⟨by simpa [planB3] using hB, h⟩
  | 0, .q _ _, _, _, _, _, _, hB, _ => by simp [planB3] at hB
  | 0, .h _ _, _, _, _, _, _, hB, _ => by simp [planB3] at hB
  | 0, .h2 _ _ _ _, _, _, _, _, _, hB, _ => by simp [planB3] at hB
  | 0, .h3 _ _ _ _ _ _, _, _, _, _, _, hB, _ => by simp [planB3] at hB
  | f + 1, .done, _, _, _, _, _, hB, _ => by simp [planB3] at hB
  | f + 1, .h k rest, listed, a, w, hC, inv, hB, h => by
    simp only [planB3, Bool.and_eq_true, decide_eq_true_eq] at hB
    obtain ⟨⟨hk, hr⟩, hB⟩ := hB
    obtain ⟨o, ho, h⟩ := h
    refine ⟨by rw [hr]; simp, fun i hi => ?_⟩
    have hi' := hi
    rw [hr] at hi
    obtain rfl : i = k := by simpa using hi
    refine ⟨hk, ?_⟩
    exact wpOp_mono (fun a' w' h' => ⟨h'.1, wpAnyM_plan3 hsel htw f rest _ a' w' h'.1 (inv.set hi' hk) hB h'.2⟩) (wpOp_heavy ho h)
  | f + 1, .h2 k r1 k' r2, listed, a, w, hC, inv, hB, h => by
    simp only [planB3, Bool.and_eq_true, decide_eq_true_eq] at hB
    obtain ⟨⟨⟨⟨hk, hk'⟩, hr⟩, hB1⟩, hB2⟩ := hB
    obtain ⟨⟨o1, ho1, h1⟩, ⟨o2, ho2, h2⟩⟩ := h
    refine ⟨by rw [hr]; simp, fun i hi => ?_⟩
    have hi' := hi
    rw [hr] at hi
    have hi2 : i = k ∨ i = k' := by simpa using hi
    rcases hi2 with rfl | rfl
    · refine ⟨hk, ?_⟩
      exact wpOp_mono (fun a' w' h' => ⟨h'.1, wpAnyM_plan3 hsel htw f r1 _ a' w' h'.1 (inv.set hi' hk) hB1 h'.2⟩) (wpOp_heavy ho1 h1)
    · refine ⟨hk', ?_⟩
      exact wpOp_mono (fun a' w' h' => ⟨h'.1, wpAnyM_plan3 hsel htw f r2 _ a' w' h'.1 (inv.set hi' hk') hB2 h'.2⟩) (wpOp_heavy ho2 h2)
  | f + 1, .h3 k r1 k' r2 k2 r3, listed, a, w, hC, inv, hB, h => by
    simp only [planB3, Bool.and_eq_true, decide_eq_true_eq] at hB
    obtain ⟨⟨⟨⟨⟨⟨hk, hk'⟩, hk2⟩, hr⟩, hB1⟩, hB2⟩, hB3⟩ := hB
    obtain ⟨⟨o1, ho1, h1⟩, ⟨o2, ho2, h2⟩, ⟨o3, ho3, h3⟩⟩ := h
    refine ⟨by rw [hr]; simp, fun i hi => ?_⟩
    have hi' := hi
    rw [hr] at hi
    have hi2 : i = k ∨ i = k' ∨ i = k2 := by simpa using hi
    rcases hi2 with rfl | rfl | rfl
    · refine ⟨hk, ?_⟩
      exact wpOp_mono (fun a' w' h' => ⟨h'.1, wpAnyM_plan3 hsel htw f r1 _ a' w' h'.1 (inv.set hi' hk) hB1 h'.2⟩) (wpOp_heavy ho1 h1)
    · refine ⟨hk', ?_⟩
      exact wpOp_mono (fun a' w' h' => ⟨h'.1, wpAnyM_plan3 hsel htw f r2 _ a' w' h'.1 (inv.set hi' hk') hB2 h'.2⟩) (wpOp_heavy ho2 h2)
    · refine ⟨hk2, ?_⟩
      exact wpOp_mono (fun a' w' h' => ⟨h'.1, wpAnyM_plan3 hsel htw f r3 _ a' w' h'.1 (inv.set hi' hk2) hB3 h'.2⟩) (wpOp_heavy ho3 h3)
  | f + 1, .q k rest, listed, a, w, hC, inv, hB, h => by
    simp only [planB3, Bool.and_eq_true, decide_eq_true_eq] at hB
    obtain ⟨⟨⟨hk, hr⟩, hf⟩, hB⟩ := hB
    obtain ⟨o, ho, hg, h⟩ := h
    have ho' : ops[k]? = some o := by simpa using ho
    have hr' : k ∈ Region.ready md ops listed := by simpa using hr
    obtain ⟨v, hy, hK⟩ := stillIn_of_quiet hg h
    exact wpAnyM_first ho' (Region.noSelect_spec hsel) hk (fun listed inv hu => htw listed k hk inv hu) (fun listed' a' w' hL => seqB_ready hL.1) f listed a w hC inv (Region.free_spec ho' hf) hr' hy
      (wpAnyM_plan3 hsel htw f rest _ _ w hC (inv.set hr' hk) hB hK)
/-- The order is one that the region's edges allow; number n and what stands behind come last. -/
def mixB3 (md : Region.Mode) (ops : Array Oper) (n : Nat) (plan : MPlan3) : Bool :=
  Region.noSelect ops && decide (n ≤ ops.size) && (decide (n = ops.size) || (Region.sinkB md ops n && Region.chainB md ops n)) && planB3 md ops n n plan (Array.replicate ops.size false)
/-- As wp_region_mix, where two heavy operations may be open at once. -/
theorem wp_region_mix3 {id : Nat} {a : Act} {w : World} {l : List Oper} (C : World → Prop) (n : Nat) (plan : MPlan3) (hm : P.follows .mixedOrders = true) (hB : mixB3 .any l.toArray n plan = true) (hC : C w.drew)
    (h : wpMix3 P l.toArray C Q (fun a' w' => wpList P l.toArray Q (l.drop n) a' w') plan a w.drew) : (Code.region id l.toArray true).wp P Q a w := by
  simp only [mixB3, Bool.and_eq_true, Bool.or_eq_true, decide_eq_true_eq] at hB
  obtain ⟨⟨⟨hsel, hn⟩, hsc⟩, hplan⟩ := hB
  have htw : ∀ listed i, i < n → HeadInv .any l.toArray n listed → listed.getD i true = false → ∀ t, n ≤ t → t ∉ Region.ready .any l.toArray listed := by
    intro listed i hi inv hu t ht hr
    rcases hsc with hsc | ⟨hs, hc⟩
    · obtain ⟨_, ot, hot, _⟩ := mem_ready.1 hr
      have := (Array.getElem?_eq_some_iff.1 hot).1
      omega
    · obtain ⟨_, ot, hot, _⟩ := mem_ready.1 hr
      have hlt := (Array.getElem?_eq_some_iff.1 hot).1
      exact tail_waits hs hc (by omega) inv (n - i) i rfl hi hu t ht hr
  have inv0 : HeadInv .any l.toArray n (Array.replicate l.toArray.size false) :=
    ⟨by simp, fun j oj _ hl => (by rw [getD_replicate_false] at hl; cases hl), fun t _ ht => getD_in (by simpa using ht) (getD_replicate_false _ _)⟩
  have H := wpAnyM_plan3 (md := .any) hsel htw n plan _ a w.drew hC inv0 hplan h
  refine wp_region_any hm ?_
  have := wpAny_of_headM (Q := Q) (g := l.toArray.size - n) (fun listed a' w' _ hL => by
    have := wpAny_of_seq (md := .any) (Q' := Q) (l.drop n) n listed a' w' (fun j => by simp [List.getElem?_drop]) (by simpa using hL.1) hL.2
    simpa using this) _ _ _ _ hC H
  rw [show n + (l.toArray.size - n) = l.toArray.size by omega] at this
  exact this
end
end Go.Proofs.YtahicokokfcieaaGreatDoor
