/- The document's memories: an access. -/
import Derived.Test.YtipohagcppfgiaaMemWith
namespace Go.Proofs.Ytipohagcppfgiaa
open Go.RowKit
open Go.Proofs
set_option linter.unusedVariables false

theorem put_both {V : World} {Z G : Nat} {z0 z1 z2 u0 u1 : Value} (hz : V.heap[Z]? = some (.cells #[z0, z1, z2] 25 (0, 0))) (hg : V.heap[G]? = some (.cells #[u0, u1] 150 (0, 0))) (hne : G ≠ Z) (v0 v1 v2 w0 w1 : Value) :
    ∃ V', V' = ((((V.setCell ⟨Z, 0, none⟩ v0).setCell ⟨Z, 1, none⟩ v1).setCell ⟨Z, 2, none⟩ v2).setCell ⟨G, 0, none⟩ w0).setCell ⟨G, 1, none⟩ w1 ∧ V'.heap[Z]? = some (.cells #[v0, v1, v2] 25 (0, 0)) ∧ V'.heap[G]? = some (.cells #[w0, w1] 150 (0, 0)) ∧
      (∀ (B : Nat) (w : World), B ≤ Z → B ≤ G → Below B w V → Below B w V') ∧
      ∀ (base : Nat) (wa : Option Addr) (wc : Nat) (la : Option Addr) (lc : Nat) (M : Mem), MemO base wa wc la lc M V → MemO base wa wc la lc M V' := by
  obtain ⟨V1, hV1, hz1, hk1, hb1, hm1⟩ := put_mem hz v0 v1 v2
  have hg1 := hk1 G _ hne hg
  obtain ⟨V2, hV2, hg2, hk2, hb2⟩ := put2 hg1 w0 w1
  refine ⟨V2, by rw [hV2, hV1], hk2 Z _ (Ne.symm hne) hz1, hg2, fun B w h1 h2 hb => hb2 B w h2 (hb1 B w h1 hb), fun base wa wc la lc M hm => (hm1 _ _ _ _ _ _ hm).keep hg1 (by decide) (by decide) hk2⟩
/-- A call gives a memory that lies there, what a word held, whether it was done. -/
def keptA (V : World) (wa wa' : Option Addr) : Prop := wa' = wa ∨ ∀ b off, wa' = some ⟨b, off, none⟩ → V.heap.size ≤ b
def GivesR (wa0 la0 : Option Addr) (M : Mem) (v : Nat) (d : Bool) (w : World) (e : Ending) (W : World) : Prop := ∃ wa wc la lc, e = .returned (.tuple #[memV wa wc la lc M, .agg #[.int .u64 ((v : Nat) : Int), .bool d]]) ∧ MemL W wa wc la lc M ∧ Below w.heap.size w W ∧ keptA w wa0 wa ∧ keptA w la0 la

end Go.Proofs.Ytipohagcppfgiaa
