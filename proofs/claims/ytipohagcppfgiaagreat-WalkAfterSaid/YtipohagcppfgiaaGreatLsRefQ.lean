/- The document's lists (printed by gen_lsref3.py): the variables of a step. -/
import Derived.Test.YtipohagcppfgiaaGreatLsZ
import Derived.Test.YtipohagcppfgiaaGreatMemRefStep
namespace Go.Proofs.YtipohagcppfgiaaGreat
open Go.RowKit
open Go.Proofs
set_option linter.unusedVariables false
attribute [local go_sem] Oper.semAt_some
def apartA (a : Option Addr) (E : Nat) : Prop := ∀ b off, a = some ⟨b, off, none⟩ → b ≠ E
def lowA (a : Option Addr) (B : Nat) : Prop := ∀ b off, a = some ⟨b, off, none⟩ → b < B
theorem stepM_L (M : Mem) (st : Bool) (a : Int) (new : Nat) : (stepM M st a new).1.L = M.L := by
 unfold stepM; split
 ·split <;> rfl
 ·rfl
theorem stepM_len (M : Mem) (st : Bool) (a : Int) (new : Nat) : (stepM M st a new).1.W.length = M.W.length := by
 unfold stepM; split
 ·split
  ·simp
  ·rfl
 ·rfl
def apB (a : Option Addr) (X G : Nat) : Prop := ∀ b off, a = some ⟨b, off, none⟩ → b < X ∨ G < b
theorem apB.apart {a : Option Addr} {X G E : Nat} (h : apB a X G) (h1 : X ≤ E) (h2 : E ≤ G) : apartA a E := fun b off e => by have := h b off e; omega
theorem apB.kept {a a' : Option Addr} {X G : Nat} {W : World} (h : apB a X G) (hk : keptA W a a') (hG : G < W.heap.size) : apB a' X G := by
 rcases hk with rfl | hk
 ·exact h
 ·exact fun b off e => .inr (Nat.lt_of_lt_of_le hG (hk b off e))
theorem keptA.mono {a a' : Option Addr} {V W : World} (h : keptA W a a') (hs : V.heap.size ≤ W.heap.size) : keptA V a a' := by
 rcases h with rfl | h
 ·exact .inl rfl
 ·exact .inr fun b off e => Nat.le_trans hs (h b off e)
theorem keptA.refl (V : World) (a : Option Addr) : keptA V a a := .inl rfl
theorem Leads.keepNe {W W' : World} {a : Option Addr} {n cap E : Nat} {cs : List Value} (h : Leads W a n cap cs) (ha : apartA a E) (hk : ∀ (k : Nat) (o : Obj), k ≠ E → W.heap[k]? = some o → W'.heap[k]? = some o) : Leads W' a n cap cs := by
 obtain ⟨h1, h2, ⟨h3, h4⟩ | ⟨b, off, h3, h4, h5⟩⟩ := h
 ·exact ⟨h1, h2, .inl ⟨h3, h4⟩⟩
 ·have hbE := ha b off h3
  have hb := hk b _ hbE (Array.getElem?_eq_getElem h4)
  refine ⟨h1, h2, .inr ⟨b, off, h3, llD hb, fun i v hv => ?_⟩⟩
  have := h5 i v hv
  unfold World.cell? at this ⊢
  rw [hb, ← Array.getElem?_eq_getElem h4]
  exact this
theorem MemL.low {W : World} {wa la : Option Addr} {wc lc : Nat} {M : Mem} (h : MemL W wa wc la lc M) (hok : okM M = true) {X G : Nat} (hX : W.heap.size ≤ X) : apB wa X G ∧ apB la X G := by
 obtain ⟨h1, h2, h3, -⟩ := okM_spec hok
 constructor
 ·rintro b off rfl
  obtain ⟨_, _, ⟨q, _⟩ | ⟨b', o', q, q2, _⟩⟩ := h.w
  ·omega
  ·cases q; exact .inl (by omega)
 ·rintro b off rfl
  obtain ⟨_, _, ⟨q, _⟩ | ⟨b', o', q, q2, _⟩⟩ := h.l
  ·omega
  ·cases q; exact .inl (by omega)
/-- The variables of a document's step. -/
structure Sq (T : TypeId) (z : Array Value) (V : World) (X Y Z G : Nat) (wa : Option Addr) (wc : Nat) (la : Option Addr) (lc : Nat) (M : Mem) (cs : Array Value) (W : World) : Prop where
 bx : W.heap[X]? = some (.cells #[.slice wa M.W.length wc, .slice la M.L.length lc, .bool M.F] 25 (0, 0))
 by_ : W.heap[Y]? = some (.cells cs T (0, 0))
 bz : W.heap[Z]? = some (.cells #[.slice none 0 0, .slice none 0 0, .bool false] 25 (0, 0))
 bg : W.heap[G]? = some (.cells z T (0, 0))
 mem : MemL W wa wc la lc M
 aw : apB wa X G
 al : apB la X G
 below : Below V.heap.size V W
 ord : V.heap.size ≤ X ∧ X < Y ∧ Y < Z ∧ Z < G
section
variable {T : TypeId} {z cs cs' : Array Value} {V W W' : World} {X Y Z G : Nat} {wa la wa' la' : Option Addr} {wc lc wc' lc' : Nat} {M M' : Mem}
theorem Sq.grow (h : Sq T z V X Y Z G wa wc la lc M cs W) (hb : Below W.heap.size W W') : Sq T z V X Y Z G wa wc la lc M cs W' :=
 ⟨klD h.bx hb, klD h.by_ hb, klD h.bz hb, klD h.bg hb, h.mem.grow hb, h.aw, h.al, h.below.trans (hb.mono h.below.size), h.ord⟩
/-- Other variables, made later, are written. -/
theorem Sq.keep {B : Nat} (h : Sq T z V X Y Z G wa wc la lc M cs W) (hB : G < B) (hw : apartA wa B) (hl : apartA la B) (hk : ∀ (k : Nat) (o : Obj), k ≠ B → W.heap[k]? = some o → W'.heap[k]? = some o) (hb : Below V.heap.size V W') : Sq T z V X Y Z G wa wc la lc M cs W' := by
 obtain ⟨o1, o2, o3, o4⟩ := h.ord
 exact ⟨hk _ _ (by omega) h.bx, hk _ _ (by omega) h.by_, hk _ _ (by omega) h.bz, hk _ _ (by omega) h.bg, ⟨h.mem.w.keepNe hw hk, h.mem.l.keepNe hl hk⟩, h.aw, h.al, hb, h.ord⟩
end
/-- Worlds in which two variables lie so. -/
structure RYX (T : TypeId) (X Y : Nat) (csx csy : Array Value) where
 w : World
 bx : w.heap[X]? = some (.cells csx 25 (0, 0))
 by_ : w.heap[Y]? = some (.cells csy T (0, 0))
theorem ryx_y {T : TypeId} {X Y : Nat} {csx csy : Array Value} (_ : Nonempty (RYX T X Y csx csy)) (i : Nat) (v : Value) (h : csy[i]? = some v) : ∀ z : RYX T X Y csx csy, z.w.cell? ⟨Y, i, none⟩ = some v := fun z => clD z.by_ h
theorem MemL.lowA {W : World} {wa la : Option Addr} {wc lc : Nat} {M : Mem} (h : MemL W wa wc la lc M) (hok : okM M = true) : lowA wa W.heap.size ∧ lowA la W.heap.size := by
 obtain ⟨h1, h2, h3, -⟩ := okM_spec hok
 constructor
 ·rintro b off rfl
  obtain ⟨_, _, ⟨q, _⟩ | ⟨b', o', q, q2, _⟩⟩ := h.w
  ·omega
  ·cases q; exact q2
 ·rintro b off rfl
  obtain ⟨_, _, ⟨q, _⟩ | ⟨b', o', q, q2, _⟩⟩ := h.l
  ·omega
  ·cases q; exact q2
theorem lowA.apart {a : Option Addr} {B E : Nat} (h : lowA a B) (hE : B ≤ E) : apartA a E := fun b off e => by have := h b off e; omega
end Go.Proofs.YtipohagcppfgiaaGreat
