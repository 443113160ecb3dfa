/- Several texts in one. -/
import Derived.Test.YtahicokokfcieaaDoorTgAd
import Derived.Test.YtahicokokfcieaaDoorTgAb
namespace Go.Proofs.YtahicokokfcieaaDoor
open Go.RowKit
open Go.Proofs
set_option linter.unusedVariables false

/-- Where the building of a memory is. -/
structure WK (B X Y Z : Nat) (wa la : Option Addr) (n wc lc : Nat) (F : Bool) (u1 u2 v1 : Value) (k1 : Nat) (A1 : List Nat) (v2 : Value) (k2 : Nat) (A2 : List Bool) (w V : World) : Prop where
  bx : V.heap[X]? = some (.cells #[.slice wa n wc, .slice la n lc, .bool F] 38 (0, 0))
  bY : V.heap[Y]? = some (.cells #[u1, u2, .bool F] 38 (0, 0))
  bz : V.heap[Z]? = some (.cells #[.slice none 0 0, .slice none 0 0, .bool false] 38 (0, 0))
  rw_ : V.ownsRow B 25 1 v1 k1 (wcells A1)
  rl : V.ownsRow B 4 1 v2 k2 (bcells A2)
  lo : B ≤ Y
  zn : Z ≠ Y
  xn : X ≠ Y
  below : Below B w V
section
variable {B X Y Z : Nat} {wa la : Option Addr} {n wc lc : Nat} {F : Bool} {u1 u2 v1 : Value} {k1 : Nat} {A1 : List Nat} {v2 : Value} {k2 : Nat} {A2 : List Bool} {w V V' : World}
theorem WK.sz (h : WK B X Y Z wa la n wc lc F u1 u2 v1 k1 A1 v2 k2 A2 w V) : B ≤ V.heap.size := Nat.le_of_lt (Nat.lt_of_le_of_lt h.lo (lt_laid h.bY))
theorem WK.grow (h : WK B X Y Z wa la n wc lc F u1 u2 v1 k1 A1 v2 k2 A2 w V) (hb : Below V.heap.size V V') : WK B X Y Z wa la n wc lc F u1 u2 v1 k1 A1 v2 k2 A2 w V' :=
  ⟨keep_laid h.bx hb, keep_laid h.bY hb, keep_laid h.bz hb, own_grow h.rw_ hb, own_grow h.rl hb, h.lo, h.zn, h.xn, h.below.trans (hb.mono h.sz)⟩
theorem WK.appW {v1' : Value} {x : Nat} (h : WK B X Y Z wa la n wc lc F u1 u2 v1 k1 A1 v2 k2 A2 w V) (ho : V'.ownsRow B 25 1 v1' (k1 + 1) (wcells A1 ++ wcells [x])) (hg : V.grownBy V' v1.ownBlock) :
    WK B X Y Z wa la n wc lc F u1 u2 v1' (k1 + 1) (A1 ++ [x]) v2 k2 A2 w V' := by
  have hm : ∀ (b : Nat) (o : Obj), V.heap[b]? = some o → (∀ cur, o ≠ .cells cur 25 (0, 0)) → V'.heap[b]? = some o := fun b o hb hne => keep_grown hb hg fun e => by
    obtain ⟨cur, hc⟩ := own_type h.rw_ _ e
    rw [hb] at hc
    exact hne cur (Option.some.inj hc)
  have hM : ∀ (b : Nat) (vs : Array Value), V.heap[b]? = some (.cells vs 38 (0, 0)) → V'.heap[b]? = some (.cells vs 38 (0, 0)) := fun b vs hb => hm b _ hb (by intro cur e; cases e)
  refine ⟨hM _ _ h.bx, hM _ _ h.bY, hM _ _ h.bz, by rw [wcells_app]; exact ho, own_keep h.rl (fun k o hk hh => hm k o hh (by
    obtain ⟨cur, hc⟩ := own_type h.rl k hk
    rw [hh] at hc
    obtain rfl := Option.some.inj hc
    intro cur e; cases e)), h.lo, h.zn, h.xn, h.below.trans (own_below h.rw_ hg h.sz)⟩
theorem WK.appL {v2' : Value} {x : Bool} (h : WK B X Y Z wa la n wc lc F u1 u2 v1 k1 A1 v2 k2 A2 w V) (ho : V'.ownsRow B 4 1 v2' (k2 + 1) (bcells A2 ++ bcells [x])) (hg : V.grownBy V' v2.ownBlock) :
    WK B X Y Z wa la n wc lc F u1 u2 v1 k1 A1 v2' (k2 + 1) (A2 ++ [x]) w V' := by
  have hm : ∀ (b : Nat) (o : Obj), V.heap[b]? = some o → (∀ cur, o ≠ .cells cur 4 (0, 0)) → V'.heap[b]? = some o := fun b o hb hne => keep_grown hb hg fun e => by
    obtain ⟨cur, hc⟩ := own_type h.rl _ e
    rw [hb] at hc
    exact hne cur (Option.some.inj hc)
  have hM : ∀ (b : Nat) (vs : Array Value), V.heap[b]? = some (.cells vs 38 (0, 0)) → V'.heap[b]? = some (.cells vs 38 (0, 0)) := fun b vs hb => hm b _ hb (by intro cur e; cases e)
  refine ⟨hM _ _ h.bx, hM _ _ h.bY, hM _ _ h.bz, own_keep h.rw_ (fun k o hk hh => hm k o hh (by
    obtain ⟨cur, hc⟩ := own_type h.rw_ k hk
    rw [hh] at hc
    obtain rfl := Option.some.inj hc
    intro cur e; cases e)), by rw [show bcells (A2 ++ [x]) = bcells A2 ++ bcells [x] by simp [bcells]]; exact ho, h.lo, h.zn, h.xn, h.below.trans (own_below h.rl hg h.sz)⟩
theorem WK.st (h : WK B X Y Z wa la n wc lc F u1 u2 v1 k1 A1 v2 k2 A2 w V) (e1 e2 : Value) : WK B X Y Z wa la n wc lc F e1 e2 v1 k1 A1 v2 k2 A2 w ((V.setCell ⟨Y, 0, none⟩ e1).setCell ⟨Y, 1, none⟩ e2) := by
  have s0 := set_laid (i := 0) h.bY e1
  refine ⟨other_laid (other_laid h.bx h.xn _) h.xn _, set_laid (i := 1) s0 e2, other_laid (other_laid h.bz h.zn _) h.zn _, own_keep h.rw_ (fun k o hk hh => ?_), own_keep h.rl (fun k o hk hh => ?_), h.lo, h.zn, h.xn, (h.below.setCell h.lo _).setCell h.lo _⟩
  · obtain ⟨cur', hc⟩ := own_type h.rw_ k hk
    have := type_ne hc h.bY (by decide)
    exact other_laid (other_laid hh this _) this _
  · obtain ⟨cur', hc⟩ := own_type h.rl k hk
    have := type_ne hc h.bY (by decide)
    exact other_laid (other_laid hh this _) this _
end
/-- What a round of the building reads. -/
structure RW (X Y b o b' o' : Nat) (u1 u2 q1 q2 : Value) (x : Nat) (c : Bool) where
  v : World
  x0 : v.cell? ⟨X, 0, none⟩ = some u1
  x1 : v.cell? ⟨X, 1, none⟩ = some u2
  y0 : v.cell? ⟨Y, 0, none⟩ = some q1
  y1 : v.cell? ⟨Y, 1, none⟩ = some q2
  d1 : v.cell? ⟨b, o, none⟩ = some (.int .u64 ((x : Nat) : Int))
  d2 : v.cell? ⟨b', o', none⟩ = some (.bool c)
end Go.Proofs.YtahicokokfcieaaDoor
namespace Go.Proofs.YtahicokokfcieaaDoor
open Go.RowKit
open Go.Proofs
set_option linter.unusedVariables false

theorem put_both {V : World} {Z G : Nat} {z0 z1 z2 u0 u1 : Value} (hz : V.heap[Z]? = some (.cells #[z0, z1, z2] 38 (0, 0))) (hg : V.heap[G]? = some (.cells #[u0, u1] 127 (0, 0))) (hne : G ≠ Z) (v0 v1 v2 w0 w1 : Value) :
    ∃ V', V' = ((((V.setCell ⟨Z, 0, none⟩ v0).setCell ⟨Z, 1, none⟩ v1).setCell ⟨Z, 2, none⟩ v2).setCell ⟨G, 0, none⟩ w0).setCell ⟨G, 1, none⟩ w1 ∧ V'.heap[Z]? = some (.cells #[v0, v1, v2] 38 (0, 0)) ∧ V'.heap[G]? = some (.cells #[w0, w1] 127 (0, 0)) ∧
      (∀ (B : Nat) (w : World), B ≤ Z → B ≤ G → Below B w V → Below B w V') ∧
      ∀ (base : Nat) (wa : Option Addr) (wc : Nat) (la : Option Addr) (lc : Nat) (M : Mem), MemO base wa wc la lc M V → MemO base wa wc la lc M V' := by
  obtain ⟨V1, hV1, hz1, hk1, hb1, hm1⟩ := put_mem hz v0 v1 v2
  have hg1 := hk1 G _ hne hg
  obtain ⟨V2, hV2, hg2, hk2, hb2⟩ := put2 hg1 w0 w1
  refine ⟨V2, by rw [hV2, hV1], hk2 Z _ (Ne.symm hne) hz1, hg2, fun B w h1 h2 hb => hb2 B w h2 (hb1 B w h1 hb), fun base wa wc la lc M hm => (hm1 _ _ _ _ _ _ hm).keep hg1 (by decide) (by decide) hk2⟩
/-- A call gives a memory that lies there, what a word held, whether it was done. -/
def keptA (V : World) (wa wa' : Option Addr) : Prop := wa' = wa ∨ ∀ b off, wa' = some ⟨b, off, none⟩ → V.heap.size ≤ b
def GivesR (wa0 la0 : Option Addr) (M : Mem) (v : Nat) (d : Bool) (w : World) (e : Ending) (W : World) : Prop := ∃ wa wc la lc, e = .returned (.tuple #[memV wa wc la lc M, .agg #[.int .u64 ((v : Nat) : Int), .bool d]]) ∧ MemL W wa wc la lc M ∧ Below w.heap.size w W ∧ keptA w wa0 wa ∧ keptA w la0 la

end Go.Proofs.YtahicokokfcieaaDoor
