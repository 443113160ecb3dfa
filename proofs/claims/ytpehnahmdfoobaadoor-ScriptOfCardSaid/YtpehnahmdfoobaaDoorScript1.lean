/- Scripts: the package's variables; part; slices.Repeat. -/
import Derived.Test.YtpehnahmdfoobaaDoorBits2
import Derived.Test.YtpehnahmdfoobaaDoorShelf
import Derived.Test.YtpehnahmdfoobaaDoorRegion2
import Derived.Test.YtpehnahmdfoobaaDoorLawDefs
import Derived.Laws.CopyOwn
import Derived.Laws.OwnMore
import Derived.Deep.LoopGhost
import Derived.Deep.DeepCutAuto
import Derived.Deep.CutBlock
namespace Go.Proofs.YtpehnahmdfoobaaDoor
open Go.RowKit
open Go.Proofs
set_option linter.unusedVariables false

/-- The variables hold what the program's text lays: cpus, and parts. -/
structure Glob (w : World) : Prop where
  two : 2 ≤ w.heap.size
  c0 : w.cell? ⟨0, 0, none⟩ = some (.int .i64 0)
  c1 : w.cell? ⟨0, 1, none⟩ = some (.int .i64 3)
  p0 : w.cell? ⟨1, 0, none⟩ = some (.int .i64 0)
  p1 : w.cell? ⟨1, 1, none⟩ = some (.int .i64 2)
  p2 : w.cell? ⟨1, 2, none⟩ = some (.int .i64 8)
  p3 : w.cell? ⟨1, 3, none⟩ = some (.int .i64 3)
  p4 : w.cell? ⟨1, 4, none⟩ = some (.int .i64 16)
  p5 : w.cell? ⟨1, 5, none⟩ = some (.int .i64 8)
  p6 : w.cell? ⟨1, 6, none⟩ = some (.int .i64 8)
  p7 : w.cell? ⟨1, 7, none⟩ = some (.int .i64 6)
theorem Glob.grow {w w' : World} (h : Glob w) (hb : Below w.heap.size w w') : Glob w' := by
  have k : ∀ b i v, b < 2 → w.cell? ⟨b, i, none⟩ = some v → w'.cell? ⟨b, i, none⟩ = some v := fun b i v hlt hv => (hb.cell (p := ⟨b, i, none⟩) (Nat.lt_of_lt_of_le hlt h.two)).trans hv
  exact ⟨Nat.le_trans h.two hb.size, k 0 0 _ (by decide) h.c0, k 0 1 _ (by decide) h.c1, k 1 0 _ (by decide) h.p0, k 1 1 _ (by decide) h.p1, k 1 2 _ (by decide) h.p2, k 1 3 _ (by decide) h.p3, k 1 4 _ (by decide) h.p4, k 1 5 _ (by decide) h.p5, k 1 6 _ (by decide) h.p6, k 1 7 _ (by decide) h.p7⟩

theorem get_lt (x a c : Nat) : Pl.get x a c < 2 ^ c := by
  unfold Pl.get
  exact Nat.mod_lt _ (Nat.two_pow_pos c)
theorem part_any (x a c : Nat) (w : World) (hx : x < 18446744073709551616) (h1 : 1 ≤ c) (h2 : a + c ≤ 64) (h3 : c ≤ 8) :
    Calls Tryd.prog 27 #[.int .u64 (x : Nat), .agg #[.int .i64 (a : Nat), .int .i64 (c : Nat)]] w (Ret (.int .i64 ((Pl.get x a c : Nat) : Int)) w) := by
  obtain ⟨w1, hw1, hb1, hs1, hl1⟩ := laid w #[.int .i64 ((a : Nat) : Int), .int .i64 ((c : Nat) : Int)] 65
  have hc0 := cell_laid hl1 (i := 0) rfl
  have hc1 := cell_laid hl1 (i := 1) rfl
  have hG := Get_any x a c w1 hx (by intro f hf; simp at hf; subst hf; dsimp only; omega)
  have e : getV x (a : Nat) (c : Nat) = .tuple #[.int .u64 ((Pl.get x a c : Nat) : Int), .int .i64 0] := by
    unfold getV isF
    rw [decide_eq_true (by omega), if_pos rfl]
    rfl
  rw [e] at hG
  have hlt := get_lt x a c
  have hp : 2 ^ c ≤ 2 ^ 8 := Nat.pow_le_pow_right (by decide) h3
  obtain ⟨g, hg⟩ : ∃ g, Pl.get x a c = g := ⟨_, rfl⟩
  rw [hg] at hG hlt ⊢
  have hg256 : g < 256 := by omega
  have HG := hid hG
  clear hl1 hs1 hG e hlt hp hg
  go_enter Tryd.func27, Tryd.ntmps27
  go_wp2_with fail
  refine HG.out.mono ?_
  rintro e w2 ⟨rfl, hb2⟩
  go_wp2
  go_ret
  exact ⟨rfl, step hb1 hb2⟩
end Go.Proofs.YtpehnahmdfoobaaDoor
