/- Memories: an access. -/
import Derived.Test.YtipohagcppfgiaaGreatMem2
namespace Go.Proofs.YtipohagcppfgiaaGreat
open Go.RowKit
open Go.Proofs
set_option linter.unusedVariables false
def liveAt (M : Mem) (at_ : Int) : Bool := decide (0 ≤ at_) && (M.L[at_.toNat]?).getD false
/-- A load, or a store: the memory, what the word held, whether it was done. -/
def stepM (M : Mem) (st : Bool) (at_ : Int) (new : Nat) : Mem × Nat × Bool :=
 if liveAt M at_ = true then (if st = true then ⟨M.W.set at_.toNat new, M.L, M.F⟩ else M, M.W.getD at_.toNat 0, true) else (⟨M.W, M.L, true⟩, 0, false)
def GivesG (M : Mem) (v : Nat) (d : Bool) (w : World) (e : Ending) (W : World) : Prop := ∃ wa wc la lc, e = .returned (.tuple #[memV wa wc la lc M, .agg #[.int .u64 v, .bool d], .int .i64 0]) ∧ MemO w.heap.size wa wc la lc M W ∧ Below w.heap.size w W
theorem step_result {W : World} {b c : Nat} {v0 v1 v2 u0 u1 s : Value} {tmps : Array Value} (h : W.heap[b]? = some (.cells #[v0, v1, v2] 25 (0, 0))) (h' : W.heap[c]? = some (.cells #[u0, u1] 108 (0, 0))) (hp : tmps[4]?.getD undef = .pointer (some ⟨b, 0, none⟩)) (hq : tmps[5]?.getD undef = .pointer (some ⟨c, 0, none⟩)) (hs : tmps[6]?.getD undef = s) :
  (results Tryz.f102 tmps).run Tryz.prog W = .ok (.tuple #[.agg #[v0, v1, v2], .agg #[u0, u1], s]) W := by
 have h0 := clD (i := 0) (v := v0) h rfl
 have h1 := clD (i := 1) (v := v1) h rfl
 have h2 := clD (i := 2) (v := v2) h rfl
 have g0 := clD (i := 0) (v := u0) h' rfl
 have g1 := clD (i := 1) (v := u1) h' rfl
 simp [results, Tryz.results102, go_sem, hp, hq, hs, h0, h1, h2, g0, g1]
theorem acc_load (a b c d p : Value) (V : World) : Calls Tryz.prog 111 #[.agg #[a, b, c, d], p] V (Ret (.bool true) V) := by
 obtain ⟨V1, hV1, hb1, hs1, hl1⟩ := laid V #[a, b, c, d] 184
 go_enter Tryz.func111, Tryz.ntmps111
 go_wp2
 go_ret
 exact ⟨rfl, hb1⟩
theorem acc_store (a b c : Value) (g k x y : Nat) (V : World) (h : V.cell? ⟨g, k, none⟩ = some (.int .u64 y)) (hf : V.frozen? ⟨g, k, none⟩ = false) (hg : g < V.heap.size) :
  Calls Tryz.prog 112 #[.agg #[a, b, c, .int .u64 x], .pointer (some ⟨g, k, none⟩)] V (fun e W => e = .returned (.bool true) ∧ ∃ V', Below V.heap.size V V' ∧ W = V'.setCell ⟨g, k, none⟩ (.int .u64 x)) := by
 obtain ⟨V1, hV1, hb1, hs1, hl1⟩ := laid V #[a, b, c, .int .u64 x] 184
 obtain ⟨X, hX⟩ := nm (V.heap.size)
 rw [hX] at hl1
 have c3 := clD (i := 3) hl1 rfl
 have e1 : V1.cell? ⟨g, k, none⟩ = some (.int .u64 y) := (hb1.cell (p := ⟨g, k, none⟩) hg).trans h
 have e2 : V1.frozen? ⟨g, k, none⟩ = false := by
  have := hb1.block g hg
  unfold World.frozen? at hf ⊢
  rw [this]
  exact hf
 have HB1 := hid hb1
 clear h hf hl1 hs1 hb1
 go_enter Tryz.func112, Tryz.ntmps112
 go_wp2
 go_ret
 exact ⟨rfl, V1, HB1.out, rfl⟩
theorem does_result {W : World} {b : Nat} {v0 v1 v2 v3 : Value} {tmps : Array Value} (h : W.heap[b]? = some (.cells #[v0, v1, v2, v3] 181 (0, 0))) (hp : tmps[0]?.getD undef = .pointer (some ⟨b, 0, none⟩)) :
  (results Tryz.f110 tmps).run Tryz.prog W = .ok (.agg #[v0, v1, v2, v3]) W := by
 have h0 := clD (i := 0) (v := v0) h rfl
 have h1 := clD (i := 1) (v := v1) h rfl
 have h2 := clD (i := 2) (v := v2) h rfl
 have h3 := clD (i := 3) (v := v3) h rfl
 simp [results, Tryz.results110, go_sem, hp, h0, h1, h2, h3]
end Go.Proofs.YtipohagcppfgiaaGreat
