/- Lists linked both ways: Nodes. -/
import Derived.Test.YtoihjmdpbbcbjaaDbl15
import Derived.Test.YtoihjmdpbbcbjaaRange2
namespace Go.Proofs.Ytoihjmdpbbcbjaa
open Go.RowKit
open Go.Proofs
set_option linter.unusedVariables false
attribute [local go_sem] Oper.semAt_some

theorem goN_spec (M : Mem) : ∀ (f ahead place : Nat) (met : List Nat) (out out' : List Tw) (met' : List Nat) (ahead' : Nat), goN M f ahead place met out = some (out', met', ahead') →
    ∃ new, out' = out ++ new ∧ met'.length = met.length + 4 * new.length ∧ (met.Nodup → met'.Nodup) ∧ (∀ x ∈ met', x ∈ met ∨ liveN M x = true)
  | 0, ahead, place, met, out, out', met', ahead', h => by unfold goN at h; cases h
  | f + 1, ahead, place, met, out, out', met', ahead', h => by
    by_cases h0 : place = 0
    · subst h0
      rw [goN_zero] at h
      cases h
      exact ⟨[], by simp, by simp, id, fun x hx => .inl hx⟩
    · cases ht : takeP M place (List.range 4) met with
      | none => rw [goN_none h0 ht] at h; cases h
      | some m2 =>
        rw [goN_some h0 ht] at h
        split at h
        · obtain ⟨new, e1, e2, e3, e4⟩ := goN_spec M f _ _ _ _ _ _ _ h
          obtain ⟨-, s2, s3, s4⟩ := takeP_spec M place _ _ _ ht
          refine ⟨(place, wAt M place 0, wAt M place 1) :: new, by rw [e1]; simp, by rw [e2, s3]; simp; omega, fun hn => e3 (s2 hn), fun x hx => ?_⟩
          rcases e4 x hx with hx | hx
          · exact s4 x hx
          · exact .inr hx
        · cases h
theorem nodesN_spec {M : Mem} {head : Nat} {xs : List Tw} {met : List Nat} (h : nodesN M head = some (xs, met)) : met.Nodup ∧ (∀ x ∈ met, liveN M x = true) ∧ met.length = 2 + 4 * xs.length := by
  cases ht : takeP M head (List.range 2) [] with
  | none => rw [nodesN_none ht] at h; cases h
  | some m0 =>
    rw [nodesN_some ht] at h
    cases hg : goN M 4101 0 (wAt M head 0) m0 [] with
    | none => rw [hg] at h; cases h
    | some r =>
      obtain ⟨o, m, a⟩ := r
      rw [hg] at h
      unfold endN at h
      dsimp only at h
      split at h
      · cases h
        obtain ⟨new, e1, e2, e3, e4⟩ := goN_spec M _ _ _ _ _ _ _ _ hg
        obtain ⟨-, s2, s3, s4⟩ := takeP_spec M head _ _ _ ht
        refine ⟨e3 (s2 List.nodup_nil), fun x hx => ?_, ?_⟩
        · rcases e4 x hx with hx | hx
          · rcases s4 x hx with hx | hx
            · cases hx
            · exact hx
          · exact hx
        · rw [e2, s3, e1]; simp
      · cases h
theorem nodesN_len {M : Mem} {head : Nat} {xs : List Tw} {met : List Nat} (h : nodesN M head = some (xs, met)) (hok : okM M = true) : xs.length ≤ 1100 ∧ ∀ x ∈ met, x < M.L.length := by
  obtain ⟨h1, h2, h3⟩ := nodesN_spec h
  obtain ⟨q1, q2, q3, -⟩ := okM_spec hok
  have hlt : ∀ x ∈ met, x < M.L.length := fun x hx => live_lt (h2 x hx)
  have := nodup_lt h1 hlt
  exact ⟨by omega, hlt⟩
/-- A list's nodes; the error. -/
def lookN (M : Mem) (head : Nat) : List Tw × Nat := if okM M = false then ([], 120) else match nodesN M head with
  | none => ([], 260)
  | some (xs, _) => (xs, 0)
theorem lookN_len (M : Mem) (head : Nat) : (lookN M head).1.length ≤ 1100 := by
  unfold lookN
  split
  · decide
  · rename_i hok
    cases hn : nodesN M head with
    | none => dsimp only; decide
    | some r => exact (nodesN_len (xs := r.1) (met := r.2) hn (by simpa using hok)).1
structure LookU (M : Mem) (head : Nat) (xs : List Tw) (code : Nat) (v mv : Value) (V W : World) : Prop where
  below : Below V.heap.size V W
  row : W.ownsRow V.heap.size 28 3 v xs.length (twcells xs)
  eq : lookN M head = (xs, code)
  map : code = 0 → okM M = true ∧ ∃ mb met, mv = .map (some mb) ∧ IdsJ W mb (ones met) ∧ nodesN M head = some (xs, met)
theorem look_uni {M : Mem} {head : Nat} {V W : World} {e : Ending} (h : LookP M head V e W) : ∃ xs code v mv, e = .returned (.tuple #[v, mv, .int .i64 ((code : Nat) : Int)]) ∧ LookU M head xs code v mv V W := by
  obtain ⟨hb, ⟨h1, rfl⟩ | ⟨h1, h2, rfl⟩ | ⟨h1, xs, met, v, mb, h2, rfl, h3, h4⟩⟩ := h
  · exact ⟨[], 120, _, _, rfl, hb, World.ownsRow_nil _ _ _ _, by unfold lookN; rw [h1]; rfl, fun h => by cases h⟩
  · exact ⟨[], 260, _, _, rfl, hb, World.ownsRow_nil _ _ _ _, by unfold lookN; rw [h1, h2]; rfl, fun h => by cases h⟩
  · exact ⟨xs, 0, _, _, rfl, hb, h3, by unfold lookN; rw [h1, h2]; rfl, fun _ => ⟨h1, mb, met, rfl, h4, h2⟩⟩

def GivesL (xs : List Tw) (code : Nat) (V : World) (e : Ending) (W : World) : Prop := ∃ v, e = .returned (.tuple #[v, .int .i64 ((code : Nat) : Int)]) ∧ W.ownsRow V.heap.size 28 3 v xs.length (twcells xs) ∧ Below V.heap.size V W
set_option maxRecDepth 100000 in
set_option maxHeartbeats 2000000 in
theorem Nodes_any (M : Mem) (wa la : Option Addr) (wc lc head : Nat) (V : World) (h : MemL V wa wc la lc M) (hh : head < 18446744073709551616) (hW : Wok M) :
    Calls Try.prog 10 #[memV wa wc la lc M, .int .u64 ((head : Nat) : Int)] V (GivesL (lookN M head).1 (lookN M head).2 V) := by
  obtain ⟨V1, hV1, hb1, hs1, hl1⟩ := laid V #[.slice wa M.W.length wc, .slice la M.L.length lc, .bool M.F] 25
  have HL := hid (look_any M wa la wc lc head V1 (h.grow hb1) hh hW)
  obtain ⟨x0, x1, x2⟩ := cells3 hl1
  have HB1 := hid hb1
  have hwl := h.w.len
  have hll := h.l.len
  unfold memV at HL ⊢
  obtain ⟨n, hn⟩ : ∃ n, M.W.length = n := ⟨_, rfl⟩
  obtain ⟨m, hm⟩ : ∃ n, M.L.length = n := ⟨_, rfl⟩
  obtain ⟨F, hF⟩ : ∃ n, M.F = n := ⟨_, rfl⟩
  rw [hn] at hV1 x0 hwl HL ⊢
  rw [hm] at hV1 x1 hll HL ⊢
  rw [hF] at hV1 x2 HL ⊢
  clear h hl1 hs1 hn hm hF hb1 hh hW
  go_enter Try.func10, Try.ntmps10
  go_wp2_with fail
  refine HL.out.mono ?_
  intro e W hlk
  obtain ⟨xs, code, v, mv, rfl, hU⟩ := look_uni hlk
  have HU := hid hU
  clear hlk hU
  go_wp2
  go_ret2
  rw [HU.out.eq]
  exact ⟨v, rfl, own_base HU.out.row (HB1.out.size), step HB1.out HU.out.below⟩
end Go.Proofs.Ytoihjmdpbbcbjaa
