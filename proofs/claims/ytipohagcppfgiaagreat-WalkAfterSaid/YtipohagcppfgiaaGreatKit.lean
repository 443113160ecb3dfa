/- General words of this seat's proofs: worlds that have grown, slices that lead to cells, regions that draw their order. No program in sight. -/
import Derived.WalkKit
import Derived.WalkLawsBesides
import Derived.WalkSpells
import Derived.Deep.QuietTactic
import Derived.BigQuiet
import Derived.Deep.LoopGhost
import Derived.Handy
namespace Go.Proofs.YtipohagcppfgiaaGreat
open Go.RowKit
theorem nm {α : Sort _} (a : α) : ∃ x, a = x := ⟨a, rfl⟩
theorem hid {p : Prop} (h : p) : Hid p := h
theorem retb {a b : Bool} (h : a = b) : Ending.returned (.bool a) = Ending.returned (.bool b) := by rw [h]
theorem reti {k : IntKind} {a b : Int} (h : a = b) : Ending.returned (.int k a) = Ending.returned (.int k b) := by rw [h]
/-- A world that has grown beyond w: all that lay in w lies there as it did. -/
structure Ext (w : World) where
 v : World
 b : Below w.heap.size w v
instance (w : World) : Inhabited (Ext w) := ⟨⟨w, Below.refl _ _⟩⟩
/-- A region that draws its order, whose calls may make memory of their own but write nothing that was there: one walk in the order of the text. -/
theorem wp_region_ext {P : Program} {id : Nat} {Q : Exit → Act → World → Prop} {a : Act} {w : World} {l : List Oper} (hm : P.follows .mixedOrders = true) (hB : Region.lexB .any l.toArray = true)
  (h : wpQuiet P l.toArray (fun w' => ∃ x : Ext w, w' = x.v) (fun a' => ∀ w', (∃ x : Ext w, w' = x.v) → Q .normal a' w') l a) : (Code.region id l.toArray true).wp P Q a w :=
 wp_region_quiet (C := fun w' => ∃ x : Ext w, w' = x.v) hm hB ⟨⟨_, (Below.refl _ _).drew⟩, rfl⟩ (by simpa using h)
/-- What a call gives that only makes memory: a value, and all that lay there lies there as it did. -/
structure Ret (v : Value) (w : World) (e : Ending) (w' : World) : Prop where
 e : e = .returned v
 b : Below w.heap.size w w'
theorem ext_of {P : Program} {f : FuncId} {args : Array Value} {w : World} {x : Ext w} {v : Value}
  (h : Calls P f args x.v (Ret v x.v)) : Calls P f args x.v fun e w'' => e = .returned v ∧ ∃ y : Ext w, w'' = y.v :=
 h.mono fun _ _ ⟨he, hb⟩ => ⟨he, ⟨_, x.b.trans (hb.mono x.b.size)⟩, rfl⟩
/-- Growth in one step behind growth in another. -/
theorem step {a b c : World} (h : Below a.heap.size a b) (k : Below b.heap.size b c) : Below a.heap.size a c := h.trans (k.mono h.size)
/-- The slice '.slice a n cap' leads to these cells. -/
def Leads (w : World) (a : Option Addr) (n cap : Nat) (cs : List Value) : Prop :=
 n ≤ cap ∧ cap ≤ maxLen ∧ ((n = 0 ∧ cs = []) ∨ ∃ b off, a = some ⟨b, off, none⟩ ∧ b < w.heap.size ∧ ∀ i v, cs[i]? = some v → w.cell? ⟨b, off + i, none⟩ = some v)
theorem Leads.grow {w w' : World} {a : Option Addr} {n cap : Nat} {cs : List Value} (h : Leads w a n cap cs) (hb : Below w.heap.size w w') : Leads w' a n cap cs := by
 obtain ⟨h1, h2, h | ⟨b, off, h3, h4, h5⟩⟩ := h
 ·exact ⟨h1, h2, .inl h⟩
 ·exact ⟨h1, h2, .inr ⟨b, off, h3, Nat.lt_of_lt_of_le h4 hb.size, fun i v hv => (hb.cell (p := ⟨b, off + i, none⟩) h4).trans (h5 i v hv)⟩⟩
theorem Leads.len {w : World} {a : Option Addr} {n cap : Nat} {cs : List Value} (h : Leads w a n cap cs) : n ≤ 9223372036854775807 ∧ cap ≤ 9223372036854775807 := by
 have : maxLen ≤ 9223372036854775807 := by decide
 exact ⟨by have := h.1; have := h.2.1; omega, by have := h.2.1; omega⟩
theorem snocRec {α : Type} {p : List α → Prop} (h0 : p []) (h1 : ∀ l x, p l → p (l ++ [x])) (l : List α) : p l := by
 have : ∀ r : List α, p r.reverse := by
  intro r
  induction r with
  | nil => exact h0
  | cons x r ih => rw [List.reverse_cons]; exact h1 _ _ ih
 have h := this l.reverse
 rwa [List.reverse_reverse] at h
theorem flat_at {α : Type} (f : α → List Value) (m : Nat) (hm : ∀ x, (f x).length = m) : ∀ (xs : List α) (k j : Nat) (x : α), xs[k]? = some x → j < m → (xs.flatMap f)[k * m + j]? = (f x)[j]? := by
 intro xs
 induction xs with
 | nil => intro k j x h _; simp at h
 | cons y ys ih =>
  intro k j x h hj
  cases k with
  | zero => simp at h; subst h; rw [List.flatMap_cons, List.getElem?_append_left (by rw [hm]; omega)]; simp
  | succ k =>
   have h' : ys[k]? = some x := by simpa using h
   have e : (k + 1) * m + j = (f y).length + (k * m + j) := by rw [hm, Nat.add_mul, Nat.one_mul]; omega
   rw [List.flatMap_cons, e, List.getElem?_append_right (by omega), Nat.add_sub_cancel_left]
   exact ih k j x h' hj
/-- A new block in the world, under a name. -/
theorem boxed (w : World) (vs : Array Value) (T : TypeId) : ∃ w1, w.alloc (.cells vs T) = w1 ∧ Below w.heap.size w w1 ∧ w1.heap.size = w.heap.size + 1 ∧
  ∀ x i v, Below w1.heap.size w1 x → vs[i]? = some v → x.cell? ⟨w.heap.size, i, none⟩ = some v := by
 refine ⟨_, rfl, (Below.refl _ _).alloc (Nat.le_refl _) _, by simp, fun x i v hx hv => ?_⟩
 refine (hx.cell (p := ⟨w.heap.size, i, none⟩) (by simp)).trans ?_
 rw [World.cell?]
 have e : (w.alloc (.cells vs T)).heap[w.heap.size]? = some (.cells vs T) := by show (w.heap.push _)[w.heap.size]? = _; simp
 rw [e]; exact hv
/-- A new block in the world, under a name, whole. -/
theorem laid (w : World) (vs : Array Value) (T : TypeId) : ∃ w1, w.alloc (.cells vs T) = w1 ∧ Below w.heap.size w w1 ∧ w1.heap.size = w.heap.size + 1 ∧ w1.heap[w.heap.size]? = some (.cells vs T (0, 0)) :=
 ⟨_, rfl, (Below.refl _ _).alloc (Nat.le_refl _) _, by simp, heap_alloc_new w _⟩
theorem clD {w : World} {b i : Nat} {vs : Array Value} {T : TypeId} {v : Value} (h : w.heap[b]? = some (.cells vs T (0, 0))) (hv : vs[i]? = some v) : w.cell? ⟨b, i, none⟩ = some v := (cell_of_row w b i vs T (0, 0) h).trans hv
theorem flD {w : World} {b i : Nat} {vs : Array Value} {T : TypeId} (h : w.heap[b]? = some (.cells vs T (0, 0))) : w.frozen? ⟨b, i, none⟩ = false := by simp [World.frozen?, h]
theorem llD {w : World} {b : Nat} {o : Obj} (h : w.heap[b]? = some o) : b < w.heap.size := (Array.getElem?_eq_some_iff.1 h).1
theorem slD {w : World} {b i : Nat} {vs : Array Value} {T : TypeId} (h : w.heap[b]? = some (.cells vs T (0, 0))) (u : Value) : (w.setCell ⟨b, i, none⟩ u).heap[b]? = some (.cells (vs.setIfInBounds i u) T (0, 0)) := by
 show (w.heap.modify b _)[b]? = _
 rw [Array.getElem?_modify, if_pos rfl, h]; rfl
theorem klD {w : World} {b : Nat} {o : Obj} (h : w.heap[b]? = some o) {w' : World} (hb : Below w.heap.size w w') : w'.heap[b]? = some o := (hb.block b (llD h)).trans h
theorem olD {w : World} {b b' i : Nat} {o : Obj} (h : w.heap[b]? = some o) (hne : b ≠ b') (u : Value) : (w.setCell ⟨b', i, none⟩ u).heap[b]? = some o := (Below.heap_setCell w ⟨b', i, none⟩ u b hne).trans h
/-- The same; the new block as a slice. -/
theorem made (w : World) (vs : Array Value) (T : TypeId) (n : Nat) (cs : List Value) (hn : n ≤ maxLen) (hcs : ∀ (i : Nat) (v : Value), cs[i]? = some v → vs[i]? = some v) : ∃ w1, w.alloc (.cells vs T) = w1 ∧ Below w.heap.size w w1 ∧ w.heap.size < w1.heap.size ∧
  Leads w1 (some ⟨w.heap.size, 0, none⟩) n n cs := by
 obtain ⟨w1, h1, h2, h3, h4⟩ := boxed w vs T
 refine ⟨w1, h1, h2, by omega, Nat.le_refl _, hn, .inr ⟨_, _, rfl, by omega, fun i v hv => ?_⟩⟩
 rw [Nat.zero_add]
 exact h4 w1 i v (Below.refl _ _) (hcs i v hv)
/-- A slice type's row of the program's tables. -/
structure Elem (P : Program) (t e : TypeId) (size bytes : Nat) : Prop where
 under : P.underlying t = some (.slice e)
 info : ∃ i z, P.info? e = some i ∧ i.zero = some z ∧ i.size = size ∧ i.bytes = bytes ∧ z.cells.size = size
 pos : 0 < size
 small : bytes ≤ 1000
theorem Elem.mk' {P : Program} {t e : TypeId} {size bytes : Nat} {z : Value} (hu : P.underlying t = some (.slice e)) (h : (P.info? e).map (fun i => (i.zero, i.size, i.bytes)) = some (some z, size, bytes)) (hz : z.cells.size = size) (hp : 0 < size) (hs : bytes ≤ 1000) : Elem P t e size bytes := by
 obtain ⟨i, hi, h1, h2, h3⟩ := info_parts h
 exact ⟨hu, ⟨i, z, hi, h1, h2, h3, hz⟩, hp, hs⟩
theorem own_below {w w' : World} {base : Nat} {e : TypeId} {size n : Nat} {v : Value} {xs : List Value} (hown : w.ownsRow base e size v n xs) (hg : w.grownBy w' v.ownBlock) (hb : base ≤ w.heap.size) : Below base w w' :=
 ⟨hg.os, hg.tape, hg.output, hg.size, fun k hk => hg.block k (by omega) (fun he => by have := hown.lt k he.symm; omega)⟩
theorem ogr {w w' : World} {base : Nat} {e : TypeId} {size n : Nat} {v : Value} {xs : List Value} (hown : w.ownsRow base e size v n xs) (hb : Below w.heap.size w w') : w'.ownsRow base e size v n xs := by
 refine ⟨hown.1, ?_⟩
 rcases hown.2 with h | ⟨g, cap, cur, hv, hg, hh, r⟩
 ·exact .inl h
 ·exact .inr ⟨g, cap, cur, hv, hg, (hb.block g (Array.getElem?_eq_some_iff.1 hh).1).trans hh, r⟩
theorem Leads.of_own {w : World} {base : Nat} {e : TypeId} {size n : Nat} {v : Value} {xs : List Value} (h : w.ownsRow base e size v n xs) : ∃ a cap, v = .slice a n cap ∧ Leads w a n cap xs := by
 obtain ⟨hl, ⟨rfl, rfl⟩ | ⟨g, cap, cur, rfl, hg, hh, h1, h2, h3, h4⟩⟩ := h
 ·exact ⟨none, 0, rfl, Nat.le_refl _, Nat.zero_le _, .inl ⟨rfl, List.eq_nil_of_length_eq_zero (by simpa using hl)⟩⟩
 ·refine ⟨_, cap, rfl, h1, h2, .inr ⟨g, 0, rfl, ?_, fun i v hv => ?_⟩⟩
  ·exact (Array.getElem?_eq_some_iff.1 hh).1
  ·rw [Nat.zero_add]
   refine (cell_of_row w g i cur e (0, 0) hh).trans ?_
   rw [← h4, List.getElem?_take] at hv
   split at hv
   ·rw [← hv, Array.getElem?_toList]
   ·cases hv
end Go.Proofs.YtipohagcppfgiaaGreat
