/- Several texts in one. -/
import Derived.Test.YtahicokokfcieaaGreatDoorTgAg
import Derived.Test.YtahicokokfcieaaGreatDoorTgAh
import Derived.Sort.LoopGhostIn
import Derived.Sort.BigQuietIn
import Derived.Sort.QuietTacIn
namespace Go.Proofs.YtahicokokfcieaaGreatDoor
open Go.RowKit
open Go.Proofs
set_option linter.unusedVariables false
theorem takeN_iff (M : Mem) : ∀ (k p : Nat) (met met' : List Nat), takeN M p k met = some met' ↔ (∀ j, j < k → liveN M (p + j) = true ∧ p + j ∉ met) ∧ met' = met ++ List.range' p k
  | 0, p, met, met' => by
    unfold takeN
    simp only [List.range'_zero, List.append_nil, Option.some.injEq]
    exact ⟨fun h => ⟨fun j hj => by omega, h.symm⟩, fun h => h.2.symm⟩
  | k + 1, p, met, met' => by
    unfold takeN
    by_cases hf : freeB M met p = true
    · rw [if_pos hf, takeN_iff M k (p + 1)]
      have hf' := hf
      unfold freeB at hf'
      simp only [Bool.and_eq_true, Bool.not_eq_true', decide_eq_false_iff_not] at hf'
      constructor
      · rintro ⟨h, rfl⟩
        refine ⟨fun j hj => ?_, by rw [List.range'_succ, List.append_assoc]; rfl⟩
        cases j with
        | zero => exact hf'
        | succ j =>
          have := h j (by omega)
          rw [show p + 1 + j = p + (j + 1) by omega] at this
          exact ⟨this.1, fun hm => this.2 (List.mem_append_left _ hm)⟩
      · rintro ⟨h, rfl⟩
        refine ⟨fun j hj => ?_, by rw [List.range'_succ, List.append_assoc]; rfl⟩
        have := h (j + 1) (by omega)
        rw [show p + (j + 1) = p + 1 + j by omega] at this
        refine ⟨this.1, fun hm => ?_⟩
        rcases List.mem_append.1 hm with hm | hm
        · exact this.2 hm
        · rw [List.mem_singleton] at hm; omega
    · rw [if_neg hf]
      constructor
      · intro h; cases h
      · rintro ⟨h, -⟩
        exfalso
        have := h 0 (by omega)
        apply hf
        unfold freeB
        rw [Nat.add_zero] at this
        rw [this.1, decide_eq_false this.2]
        rfl
theorem tmeet_iff {M : Mem} {p k : Nat} {met met' : List Nat} : tmeet M p k met = some met' ↔ p ≤ 4096 ∧ (∀ j, j < k → liveN M (p + j) = true ∧ p + j ∉ met) ∧ met' = met ++ List.range' p k := by
  unfold tmeet
  split
  · exact ⟨fun h => (by cases h), fun h => by omega⟩
  · rw [takeN_iff]; exact ⟨fun h => ⟨by omega, h⟩, fun h => h.2⟩
/-- Words that were met are apart, and there. -/
structure MetOk (n : Nat) (met : List Nat) : Prop where
  nd : met.Nodup
  lt : ∀ x ∈ met, x < n
theorem MetOk.len {n : Nat} {met : List Nat} (h : MetOk n met) : met.length ≤ n := nodup_lt h.nd h.lt
theorem MetOk.meet {M : Mem} {n p k : Nat} {met met' : List Nat} (h : MetOk n met) (hm : M.L.length = n) (ht : tmeet M p k met = some met') : MetOk n met' ∧ met'.length = met.length + k := by
  obtain ⟨-, h2, rfl⟩ := tmeet_iff.1 ht
  refine ⟨⟨?_, ?_⟩, by simp⟩
  · rw [List.nodup_append]
    refine ⟨h.nd, List.nodup_range', fun a ha b hb => ?_⟩
    rw [List.mem_range'_1] at hb
    rintro rfl
    have := (h2 (a - p) (by omega)).2
    rw [show p + (a - p) = a by omega] at this
    exact this ha
  · intro x hx
    rcases List.mem_append.1 hx with hx | hx
    · exact h.lt x hx
    · rw [List.mem_range'_1] at hx
      have := live_lt (h2 (x - p) (by omega)).1
      omega
/-- A row of a table: its bucket, its place, its key, its value. -/
abbrev Rw := Nat × Nat × Nat × Nat
def rw4 (r : Rw) : List Value := [.int .i64 ((r.1 : Nat) : Int), .int .u64 ((r.2.1 : Nat) : Int), .int .u64 ((r.2.2.1 : Nat) : Int), .int .u64 ((r.2.2.2 : Nat) : Int)]
def rwV (r : Rw) : Value := .agg #[.int .i64 ((r.1 : Nat) : Int), .int .u64 ((r.2.1 : Nat) : Int), .int .u64 ((r.2.2.1 : Nat) : Int), .int .u64 ((r.2.2.2 : Nat) : Int)]
def rwcells (l : List Rw) : List Value := l.flatMap rw4
def rwOf (b : Nat) (t : Nd) : Rw := (b, t.1, t.2.1, t.2.2.1)
/-- The nodes of a bucket are rows. -/
def takeNs (M : Mem) (d b : Nat) : List Nd → List Nat → List Rw → Option (List Rw × List Nat)
  | [], met, out => some (out, met)
  | t :: ts, met, out => (tmeet M t.1 4 met).bind fun met' => if ofN t.2.1 d = b ∧ hashN t.2.1 = t.2.2.2 then takeNs M d b ts met' (out ++ [rwOf b t]) else none
theorem takeNs_none {M : Mem} {d b : Nat} {t : Nd} {ts : List Nd} {met : List Nat} {out : List Rw} (h : tmeet M t.1 4 met = none) : takeNs M d b (t :: ts) met out = none := by
  rw [takeNs, h, Option.bind_none]
theorem takeNs_bad {M : Mem} {d b : Nat} {t : Nd} {ts : List Nd} {met met' : List Nat} {out : List Rw} (h : tmeet M t.1 4 met = some met') (hn : ¬ (ofN t.2.1 d = b ∧ hashN t.2.1 = t.2.2.2)) : takeNs M d b (t :: ts) met out = none := by
  rw [takeNs, h, Option.bind_some, if_neg hn]
theorem takeNs_good {M : Mem} {d b : Nat} {t : Nd} {ts : List Nd} {met met' : List Nat} {out : List Rw} (h : tmeet M t.1 4 met = some met') (ho : ofN t.2.1 d = b) (hh : hashN t.2.1 = t.2.2.2) : takeNs M d b (t :: ts) met out = takeNs M d b ts met' (out ++ [rwOf b t]) := by
  rw [takeNs, h, Option.bind_some, if_pos ⟨ho, hh⟩]
def bucketsGo (M : Mem) (a d : Nat) : Nat → Nat → List Nat → List Rw → Option (List Rw × List Nat)
  | 0, _, met, out => some (out, met)
  | k + 1, b, met, out => (nodesR M (a + b)).bind fun xs => (takeNs M d b xs met out).bind fun r => bucketsGo M a d k (b + 1) r.2 r.1
/-- The rows of a table, and its words. -/
def rowsW (M : Mem) (root : Nat) : Option (List Rw × List Nat) :=
  (tmeet M root 1 []).bind fun m0 => (saysW (M.W.getD root 0)).bind fun s => (tmeet M s.1 (2 ^ s.2) m0).bind fun m1 => bucketsGo M s.1 s.2 (2 ^ s.2) 0 m1 []
/-- The iterator's variables. -/
structure Rit (T X H mb : Nat) (wa : Option Addr) (wc : Nat) (la : Option Addr) (lc n root : Nat) (M : Mem) (V : World) : Prop where
  t : V.heap[T]? = some (.cells #[.map (some mb)] 77 (0, 0))
  x : V.heap[X]? = some (.cells #[.slice wa n wc, .slice la n lc, .bool M.F] 25 (0, 0))
  h : V.heap[H]? = some (.cells #[.int .u64 ((root : Nat) : Int)] 26 (0, 0))
  mem : MemL V wa wc la lc M
  g : Glob V
theorem Rit.grow {T X H mb : Nat} {wa : Option Addr} {wc : Nat} {la : Option Addr} {lc n root : Nat} {M : Mem} {V V' : World} (h : Rit T X H mb wa wc la lc n root M V) (hb : Below V.heap.size V V') : Rit T X H mb wa wc la lc n root M V' := ⟨keep_laid h.t hb, keep_laid h.x hb, keep_laid h.h hb, h.mem.grow hb, h.g.grow hb⟩
theorem idsI_ne {V : World} {mb X : Nat} {l : List (Nat × Nat)} {cs : Array Value} {e : TypeId} (h : IdsI V mb l) (hx : V.heap[X]? = some (.cells cs e (0, 0))) : some mb ≠ some X := by
  intro e'
  cases e'
  obtain ⟨es, clock, hb, -⟩ := h
  rw [hb] at hx
  cases hx
theorem Glob.grownI {V V' : World} {mb : Nat} {l : List (Nat × Nat)} (h : Glob V) (hi : IdsI V mb l) (hg : V.grownBy V' (some mb)) : Glob V' := by
  have hne : some 0 ≠ some mb := by
    intro e
    cases e
    have := map_cellI hi 0
    rw [h.c0] at this
    cases this
  have hb : V'.heap[0]? = V.heap[0]? := hg.block 0 h.one (fun e => hne e)
  have k : ∀ i v, V.cell? ⟨0, i, none⟩ = some v → V'.cell? ⟨0, i, none⟩ = some v := fun i v hv => by
    unfold World.cell? at hv ⊢
    rw [hb]
    exact hv
  exact ⟨Nat.le_trans h.one hg.size, k _ _ h.c0, k _ _ h.c1, k _ _ h.c2, k _ _ h.c3⟩
theorem Rit.put {T X H mb : Nat} {wa : Option Addr} {wc : Nat} {la : Option Addr} {lc n root : Nat} {M : Mem} {l : List (Nat × Nat)} {V V' : World} (h : Rit T X H mb wa wc la lc n root M V) (hi : IdsI V mb l) (hg : V.grownBy V' (some mb)) : Rit T X H mb wa wc la lc n root M V' :=
  ⟨keep_grown h.t hg (idsI_ne hi h.t), keep_grown h.x hg (idsI_ne hi h.x), keep_grown h.h hg (idsI_ne hi h.h), ⟨h.mem.w.grownI hi hg, h.mem.l.grownI hi hg⟩, h.g.grownI hi hg⟩
theorem IdsI.block {w w' : World} {b : Nat} {l : List (Nat × Nat)} (h : IdsI w b l) (hb : w'.heap[b]? = w.heap[b]?) : IdsI w' b l := by
  obtain ⟨es, clock, hb', F, hs, hD⟩ := h
  exact ⟨es, clock, hb.trans hb', F, hs, hD⟩
theorem grownBy_keepsR {B0 A B : World} {mb : Option Nat} {T0 T1 : TypeId} (h : B0.grownBy A mb) (k : KeepsR B0.heap.size T0 T1 A B) : B0.grownBy B mb :=
  ⟨k.1.os.trans h.os, k.1.tape.trans h.tape, k.1.output.trans h.output, Nat.le_trans h.size k.1.size, fun i hi hr => (k.1.block i hi).trans (h.block i hi hr)⟩
theorem Rit.word {T X H mb wb wo wc lc n root : Nat} {la : Option Addr} {M : Mem} {V : World} (h : Rit T X H mb (some ⟨wb, wo, none⟩) wc la lc n root M V) {q x : Nat} (hx : M.W[q]? = some x) : V.cell? ⟨wb, wo + q, none⟩ = some (.int .u64 ((x : Nat) : Int)) := by
  have hlt := (List.getElem?_eq_some_iff.1 hx).1
  obtain ⟨b, off, e, -, hc⟩ := h.mem.w.at hlt (wcell_at hx)
  simp only [Option.some.injEq, Addr.mk.injEq, and_true] at e
  obtain ⟨rfl, rfl⟩ := e
  exact hc _ (Below.refl _ _)
end Go.Proofs.YtahicokokfcieaaGreatDoor
namespace Go.Proofs.YtahicokokfcieaaGreatDoor
open Go.RowKit
open Go.Proofs
set_option linter.unusedVariables false
attribute [local go_sem] Oper.semAt_some
theorem Turn.grown {mb s0 : Nat} {A B : World} (h : A.grownBy B (some mb)) : Turn mb s0 A B := ⟨some mb, h, fun r e => by cases e; exact .inl rfl⟩
theorem own_cells {A B : World} {base size n : Nat} {T : TypeId} {v : Value} {xs : List Value} (h : A.ownsRow base T size v n xs) (k : ∀ (g : Nat) (cur : Array Value), A.heap[g]? = some (.cells cur T (0, 0)) → B.heap[g]? = some (.cells cur T (0, 0))) : B.ownsRow base T size v n xs := by
  obtain ⟨h1, h2⟩ := h
  refine ⟨h1, ?_⟩
  rcases h2 with h2 | ⟨g, cap, cur, e, hb, hh, r⟩
  · exact .inl h2
  · exact .inr ⟨g, cap, cur, e, hb, k _ _ hh, r⟩
theorem saysW_some {x a d : Nat} (h : saysW x = some (a, d)) : 2 ≤ d ∧ d ≤ 4 ∧ a < 4294967296 := by
  unfold saysW at h
  split at h
  · simp only [Option.some.injEq, Prod.mk.injEq] at h
    omega
  · cases h
theorem pow_dep {d : Nat} (h2 : 2 ≤ d) (h4 : d ≤ 4) : depZ ((2 ^ d : Nat) : Int) = some d ∧ 4 ≤ 2 ^ d ∧ 2 ^ d ≤ 16 := by
  rcases (by omega : d = 2 ∨ d = 3 ∨ d = 4) with rfl | rfl | rfl <;> exact ⟨rfl, by decide, by decide⟩
def EeR (M : Mem) (root n mb : Nat) (xs : List Rw) (W : World) : Prop := ∃ met, rowsW M root = some (xs, met) ∧ IdsI W mb (ones met) ∧ MetOk n met
set_option maxRecDepth 100000 in
set_option maxHeartbeats 8000000 in
theorem rows_seq (T X H mb s1 root n : Nat) (wa : Option Addr) (wc : Nat) (la : Option Addr) (lc : Nat) (M : Mem) (B0 : World) (hn : M.W.length = n) (hm : M.L.length = n) (hn1 : 1 ≤ n) (hn4 : n ≤ 4096) (hok : okM M = true) (hr : root < 18446744073709551616) (hW : ∀ x ∈ M.W, x < 18446744073709551616)
    (hI : Rit T X H mb wa wc la lc n root M B0) (hi : IdsI B0 mb (ones [])) :
    SeqR (Turn mb s1) Fence.wide 4 Tryz.prog 86 #[.pointer (some ⟨T, 0, none⟩), .pointer (some ⟨X, 0, none⟩), .pointer (some ⟨H, 0, none⟩)] (fun r : Rw => #[rwV r]) (KeepsR B0.heap.size 29 73)
      (fun xs => ∃ met, rowsW M root = some (xs, met)) (fun _ => True) (fun pre c => rowsW M root = none ∧ c = tbk) 5000
      (fun W => Below B0.heap.size B0 W) (EeR M root n mb) := by
  intro l J Jx W hR hJ hJx hY h0
  have hWh : ∀ r, (M.W.getD r 0) < 18446744073709551616 := fun r => by
    rw [List.getD_eq_getElem?_getD]
    cases h : M.W[r]? with
    | none => simp
    | some x => exact hW x (List.mem_of_getElem? h)
  obtain ⟨wb, wo, rfl⟩ : ∃ wb wo, wa = some ⟨wb, wo, none⟩ := by
    obtain ⟨_, _, ⟨q, _⟩ | ⟨b', o', q, _⟩⟩ := hI.mem.w
    · omega
    · exact ⟨b', o', q⟩
  have HN := hid hn
  have HM := hid hm
  have HJ := hid hJ
  have HY := hid hY
  have HW := hid hW
  have HWh := hid hWh
  have HOK := hid hok
  have HMB : Hid (mb < B0.heap.size) := hid (World.ownsMap.lt hi)
  have HIT : Hid (∀ V, B0.grownBy V (some mb) → Rit T X H mb (some ⟨wb, wo, none⟩) wc la lc n root M V) := hid (fun V hg => hI.put hi hg)
  obtain ⟨RES, hRES⟩ : ∃ R, rowsW M root = R := ⟨_, rfl⟩
  rw [hRES]
  have HEE : Hid (∀ xs met V, RES = some (xs, met) → IdsI V mb (ones met) → MetOk n met → EeR M root n mb xs V) := hid (fun xs met V h1 h2 h3 => ⟨met, by rw [hRES]; exact h1, h2, h3⟩)
  have HRES := hid hRES
  have hwl := hI.mem.w.len
  have hll := hI.mem.l.len
  rw [hn] at hwl
  rw [hm] at hll
  have HGB := hid (grownBy_below hR (some mb))
  have HI0 := hid (hI.grow hR)
  have HD0 := hid (hi.grow hR)
  have HJ0 := hid h0
  have HMT : Hid (∀ (p many : Nat) (met : List Nat) (V : World), Rit T X H mb (some ⟨wb, wo, none⟩) wc la lc n root M V → IdsI V mb (ones met) → p < 18446744073709551616 → 1 ≤ many → many ≤ 16 → met.length ≤ 10000 → Calls Tryz.prog 43 #[.map (some mb), .agg #[.slice (some ⟨wb, wo, none⟩) n wc, .slice la n lc, .bool M.F], .int .u64 ((p : Nat) : Int), .int .i64 ((many : Nat) : Int)] V (fun e V' => V.grownBy V' (some mb) ∧
      ((∃ met', tmeet M p many met = some met' ∧ e = .returned (.tuple #[]) ∧ IdsI V' mb (ones met')) ∨ (tmeet M p many met = none ∧ e = .panicked tbk)))) := hid (fun p many met V h1 h2 h3 h4 h5 h6 => by
    have := tmeet_any M (some ⟨wb, wo, none⟩) la wc lc mb p many met V h1.mem (by rw [HM.out, HN.out]) h2 h3 h4 h5 h6
    unfold memV at this
    rw [HN.out, HM.out] at this
    exact this)
  have HND : Hid (∀ (p : Nat) (V : World), Rit T X H mb (some ⟨wb, wo, none⟩) wc la lc n root M V → p < 18446744073709551616 → Calls Tryz.prog 87 #[.agg #[.slice (some ⟨wb, wo, none⟩) n wc, .slice la n lc, .bool M.F], .int .u64 ((p : Nat) : Int)] V (GivesNd (nodesP M p) V)) := hid (fun p V h1 h2 => by
    have := Nodes_any M (some ⟨wb, wo, none⟩) la wc lc p V h1.mem h2 HW.out
    unfold memV at this
    rw [HN.out, HM.out] at this
    exact this)
  have xt := cell_laid (i := 0) (HI0.out).t rfl
  have x0 := cell_laid (i := 0) (HI0.out).x rfl
  have x1 := cell_laid (i := 1) (HI0.out).x rfl
  have x2 := cell_laid (i := 2) (HI0.out).x rfl
  have xh := cell_laid (i := 0) (HI0.out).h rfl
  clear hI hi h0 hJ hY hn hm hRES hW hWh hok hR
  refine callsIn_of_wp Tryz.func86 rfl trivial ?_ rfl
  simp only [Tryz.ntmps86, List.size_toArray, List.length_cons, List.length_nil, Nat.reduceAdd, Nat.reduceSub, Array.replicate_succ, Array.replicate_zero, List.push_toArray, List.append_toArray, List.nil_append, List.cons_append]
  gi_wp2_with fail
  refine ⟨trivial, ?_⟩
  refine (callsIn_wide.2 (HMT.out root 1 [] W HI0.out HD0.out hr (by decide) (by decide) (by decide))).mono ?_
  rintro e w1 ⟨hg1, ⟨m0, hm0, rfl, hi1⟩ | ⟨hno, rfl⟩⟩
  case' inr =>
    have HE : Hid (RES = none) := hid (by rw [← HRES.out]; unfold rowsW; rw [hno]; rfl)
    exact ⟨rfl, .inr ⟨tbk, [], rfl, ⟨HE.out, rfl⟩, HJ.out _ _ _ HJ0.out (Turn.grown hg1)⟩⟩
  case' inl =>
    have HG1 := hid (grownBy_trans HGB.out hg1)
    have HI1 := hid (HIT.out _ HG1.out)
    have HD1 := hid hi1
    have HJ1 := hid (HJ.out _ _ _ HJ0.out (Turn.grown (s0 := s1) hg1))
    have HT0 := hid hm0
    obtain ⟨hr4, hlv, hm0e⟩ := tmeet_iff.1 hm0
    have hlv0 := (hlv 0 (by decide)).1
    rw [Nat.add_zero] at hlv0
    have hrn : root < n := by have := live_lt hlv0; rwa [HM.out] at this
    have HM0 : Hid (MetOk n m0) := hid (MetOk.meet (met := []) ⟨List.nodup_nil, fun x hx => by cases hx⟩ HM.out hm0).1
    have HML0 : Hid (m0.length = 1) := hid (by rw [hm0e]; rfl)
    obtain ⟨w0, hw0⟩ : ∃ x, M.W.getD root 0 = x := ⟨_, rfl⟩
    have HW0 : Hid (M.W[root]? = some w0) := hid (by
      rw [← hw0, List.getD_eq_getElem?_getD, List.getElem?_eq_getElem (by rw [HN.out]; exact hrn)]; rfl)
    have hw0l : w0 < 18446744073709551616 := by rw [← hw0]; exact HWh.out root
    have f0 := HI1.out.word HW0.out
    have HR1 : Hid (((saysW w0).bind fun s => (tmeet M s.1 (2 ^ s.2) m0).bind fun m1 => bucketsGo M s.1 s.2 (2 ^ s.2) 0 m1 []) = RES) := hid (by rw [← HRES.out]; unfold rowsW; rw [HT0.out, hw0]; rfl)
    have HSY := hid (fun V hg => Says_any w0 V hw0l hg)
    have yt := cell_laid (i := 0) (HI1.out).t rfl
    have y0 := cell_laid (i := 0) (HI1.out).x rfl
    have y1 := cell_laid (i := 1) (HI1.out).x rfl
    have y2 := cell_laid (i := 2) (HI1.out).x rfl
    have yh := cell_laid (i := 0) (HI1.out).h rfl
    clear hg1 hi1 hm0 hlv hlv0 hm0e hw0 xt x0 x1 x2 xh
    cases hsw : saysW w0 with
    | none =>
      have HE : Hid (RES = none) := hid (by rw [← HR1.out, hsw]; rfl)
      rw [hsw] at HSY
      unfold saysV at HSY
      clear hsw
      gi_wp2_with fail
      refine ⟨trivial, ?_⟩
      refine (callsIn_wide.2 (HSY.out w1 HI1.out.g)).mono ?_
      rintro e w2 ⟨rfl, hb2⟩
      have HJ2 := hid (HJ.out _ _ _ HJ1.out (Turn.grow (Bs := mb) (s0 := s1) hb2))
      gi_wp2
      exact ⟨rfl, .inr ⟨tbk, [], rfl, ⟨HE.out, rfl⟩, HJ2.out⟩⟩
    | some s =>
      obtain ⟨a, d⟩ := s
      obtain ⟨hd2, hd4, ha⟩ := saysW_some hsw
      obtain ⟨hdz, hN4, hN16⟩ := pow_dep hd2 hd4
      have HR2 : Hid (((tmeet M a (2 ^ d) m0).bind fun m1 => bucketsGo M a d (2 ^ d) 0 m1 []) = RES) := hid (by rw [← HR1.out, hsw]; rfl)
      rw [hsw] at HSY
      unfold saysV at HSY
      obtain ⟨N, hNe⟩ : ∃ N, 2 ^ d = N := ⟨_, rfl⟩
      rw [hNe] at hdz hN4 hN16 HR2
      have HSY2 : Hid (∀ V, Glob V → Calls Tryz.prog 79 #[.int .u64 ((w0 : Nat) : Int)] V (Ret (.tuple #[.int .u64 ((a : Nat) : Int), .int .i64 ((N : Nat) : Int), .int .i64 0]) V)) := hid (fun V hg => by rw [← hNe]; exact HSY.out V hg)
      have HOF : Hid (∀ (key : Nat) (V : World), Calls Tryz.prog 80 #[.int .u64 ((key : Nat) : Int), .int .i64 ((N : Nat) : Int)] V (Ret (.tuple #[.int .i64 ((ofN key d : Nat) : Int), .int .i64 0]) V)) := hid (fun key V => Of_some key _ d V (by omega) hdz)
      clear hsw hNe hdz HSY HR1
      gi_wp2_with fail
      refine ⟨trivial, ?_⟩
      refine (callsIn_wide.2 (HSY2.out w1 HI1.out.g)).mono ?_
      rintro e w2 ⟨rfl, hb2⟩
      have HG2 := hid (grownBy_trans HG1.out (grownBy_below hb2 (some mb)))
      have HI2 := hid (HIT.out _ HG2.out)
      have HD2 := hid (HD1.out.grow hb2)
      have HJ2 := hid (HJ.out _ _ _ HJ1.out (Turn.grow (Bs := mb) (s0 := s1) hb2))
      have zt := cell_laid (i := 0) (HI2.out).t rfl
      have z0 := cell_laid (i := 0) (HI2.out).x rfl
      have z1 := cell_laid (i := 1) (HI2.out).x rfl
      have z2 := cell_laid (i := 2) (HI2.out).x rfl
      have zh := cell_laid (i := 0) (HI2.out).h rfl
      clear hb2 yt y0 y1 y2 yh f0
      gi_wp2_with fail
      refine ⟨trivial, ?_⟩
      refine (callsIn_wide.2 (HMT.out a N m0 w2 HI2.out HD2.out (by omega) (by omega) hN16 (by rw [HML0.out]; decide))).mono ?_
      rintro e w3 ⟨hg3, ⟨m1, hm1, rfl, hi3⟩ | ⟨hno, rfl⟩⟩
      case' inr =>
        have HE : Hid (RES = none) := hid (by rw [← HR2.out, hno]; rfl)
        exact ⟨rfl, .inr ⟨tbk, [], rfl, ⟨HE.out, rfl⟩, HJ.out _ _ _ HJ2.out (Turn.grown hg3)⟩⟩
      case' inl =>
        have HG3 := hid (grownBy_trans HG2.out hg3)
        have HD3 := hid hi3
        have HJ3 := hid (HJ.out _ _ _ HJ2.out (Turn.grown (s0 := s1) hg3))
        have ha4 : a ≤ 4096 := (tmeet_iff.1 hm1).1
        have HM1 := hid (HM0.out.meet HM.out hm1).1
        have HR3 : Hid (bucketsGo M a d N 0 m1 [] = RES) := hid (by rw [← HR2.out, hm1]; rfl)
        clear hg3 hi3 hm1 zt z0 z1 z2 zh
        gi_wp2
        gi_loopg [39] N (fun g t39 wr => ∃ (b : Nat) (met : List Nat) (pre : List Rw), g + b = N ∧ t39 = .int .i64 ((b : Nat) : Int) ∧ Hid (B0.grownBy wr (some mb)) ∧ Hid (IdsI wr mb (ones met)) ∧ Hid (J pre wr) ∧ Hid (bucketsGo M a d g b met pre = RES) ∧ Hid (MetOk n met) ∧ Hid (4 * pre.length ≤ met.length))
        case atStart => exact ⟨0, m1, [], rfl, rfl, HG3, HD3, HJ3, HR3, HM1, hid (by simp)⟩
        case round =>
          clear HG3 HD3 HJ3 HR3 HM1 HI0 HI1 HI2 HG1 HG2 HGB HD0 HD1 HD2 HJ0 HJ1 HJ2 HR2 HT0 HM0 HML0 HW0
          obtain ⟨b, met, pre, hb, rfl, hG, hD, hJs, hRR, hMO, hPL⟩ := hrel
          have HBB := hid hb
          clear hb
          by_cases hlt : b < N
          · obtain ⟨g1, hg1⟩ : ∃ g1, gk = g1 + 1 := ⟨gk - 1, by have := HBB.out; omega⟩
            have hR2 := hRR.out
            rw [hg1] at hR2
            unfold bucketsGo at hR2
            have HR2 := hid hR2
            have HGK := hid hg1
            obtain ⟨p, hp⟩ : ∃ p, a + b = p := ⟨_, rfl⟩
            have hsi : IntKind.u64.wrap (((a : Nat) : Int) + ((b : Nat) : Int)) = ((p : Nat) : Int) := by rw [IntKind.wrap_u64]; omega
            rw [hp] at HR2
            have hp5 : p ≤ 5000 := by omega
            have HI := hid (HIT.out _ hG.out)
            have xt := cell_laid (i := 0) (HI.out).t rfl
            have x0 := cell_laid (i := 0) (HI.out).x rfl
            have x1 := cell_laid (i := 1) (HI.out).x rfl
            have x2 := cell_laid (i := 2) (HI.out).x rfl
            have xh := cell_laid (i := 0) (HI.out).h rfl
            clear hR2 hg1 hp hRR
            have hnd := HND.out p wr HI.out (by omega)
            unfold nodesP at hnd
            rw [HOK.out, if_neg (by decide)] at hnd
            cases hnr : nodesR M p with
            | none =>
              have HE : Hid (RES = none) := hid (by rw [← HR2.out, hnr]; rfl)
              rw [hnr] at hnd
              have HND' := hid hnd
              clear hnr hnd
              gi_wp2_with fail
              refine ⟨trivial, ?_⟩
              refine (callsIn_wide.2 HND'.out).mono ?_
              rintro e w4 ⟨v4, rfl, -, hb4⟩
              have HJ4 := hid (HJ.out _ _ _ hJs.out (Turn.grow (Bs := mb) (s0 := s1) hb4))
              clear HND' hb4
              gi_wp2
              exact ⟨rfl, .inr ⟨tbk, pre, rfl, ⟨HE.out, rfl⟩, HJ4.out⟩⟩
            | some xs =>
              have HR3 : Hid (((takeNs M d b xs met pre).bind fun r => bucketsGo M a d g1 (b + 1) r.2 r.1) = RES) := hid (by rw [← HR2.out, hnr]; rfl)
              have HXO : Hid (∀ t ∈ xs, t.Ok) := hid (nodesW_ok HW.out (head := p) (by
                unfold nodesR at hnr
                cases hq : nodesW M p with
                | none => rw [hq] at hnr; cases hnr
                | some ys =>
                  rw [hq] at hnr
                  dsimp only at hnr
                  split at hnr
                  · exact hnr
                  · cases hnr))
              rw [hnr] at hnd
              obtain ⟨q, hq⟩ : ∃ q, xs.length = q := ⟨_, rfl⟩
              have HQ := hid hq
              have HND' : Hid (Calls Tryz.prog 87 #[.agg #[.slice (some ⟨wb, wo, none⟩) n wc, .slice la n lc, .bool M.F], .int .u64 ((p : Nat) : Int)] wr (fun e W => ∃ v, e = .returned (.tuple #[v, .int .i64 0]) ∧ W.ownsRow wr.heap.size 50 4 v q (ndcells xs) ∧ Below wr.heap.size wr W)) := hid (by rw [← hq]; exact hnd)
              clear hnr hnd hq HR2
              gi_wp2_with fail
              refine ⟨trivial, ?_⟩
              refine (callsIn_wide.2 HND'.out).mono ?_
              rintro e w4 ⟨v4, rfl, hrow, hb4⟩
              obtain ⟨va, vc, rfl, hvl⟩ := Leads.of_own hrow
              have hvn := hvl.len
              have HG4 := hid (grownBy_trans hG.out (grownBy_below hb4 (some mb)))
              have HD4 := hid (hD.out.grow hb4)
              have HJ4 := hid (HJ.out _ _ _ hJs.out (Turn.grow (Bs := mb) (s0 := s1) hb4))
              obtain ⟨ob, hob⟩ : ∃ x, wr.heap.size = x := ⟨_, rfl⟩
              rw [hob] at hrow
              have HRW := hid hrow
              clear HND' hb4 hrow hvl hob xt x0 x1 x2 xh
              gi_wp2
              gi_loopg [57] q (fun g2 t57 wi => ∃ (k : Nat) (met2 : List Nat) (pre2 : List Rw), g2 + k = q ∧ t57 = .int .i64 ((k : Nat) : Int) ∧ Hid (B0.grownBy wi (some mb)) ∧ Hid (IdsI wi mb (ones met2)) ∧ Hid (J pre2 wi) ∧ Hid (((takeNs M d b (xs.drop k) met2 pre2).bind fun r => bucketsGo M a d g1 (b + 1) r.2 r.1) = RES) ∧ Hid (MetOk n met2) ∧ Hid (4 * pre2.length ≤ met2.length) ∧ Hid (wi.ownsRow ob 50 4 (.slice va q vc) q (ndcells xs)))
              case atStart => exact ⟨0, met, pre, rfl, rfl, HG4, HD4, HJ4, HR3, hMO, hPL, HRW⟩
              case round =>
                clear HG4 HD4 HJ4 HR3 HRW
                obtain ⟨k, met2, pre2, hk, rfl, hG2, hD2, hJ2, hR2, hMO2, hPL2, hRW2⟩ := hrel
                have HK := hid hk
                clear hk
                by_cases hkq : k < q
                · obtain ⟨t, htk⟩ : ∃ t, xs[k]? = some t := ⟨_, List.getElem?_eq_getElem (by rw [HQ.out]; exact hkq)⟩
                  obtain ⟨c0, c1, c2, c3⟩ := t
                  have hto := HXO.out _ (List.mem_of_getElem? htk)
                  obtain ⟨o0, o1, o2, o3⟩ := hto
                  dsimp only at o0 o1 o2 o3
                  have hR3 := hR2.out
                  rw [drop_at _ _ _ htk] at hR3
                  have HR3 := hid hR3
                  obtain ⟨va', vc', hvv, hvl⟩ := Leads.of_own hRW2.out
                  simp only [Value.slice.injEq, true_and] at hvv
                  obtain ⟨rfl, rfl⟩ := hvv
                  obtain ⟨_, _, ⟨hq0, _⟩ | ⟨nb, no, rfl, -, h4⟩⟩ := hvl
                  · omega
                  have f0 : wr.cell? ⟨nb, no + k * 4, none⟩ = some (.int .u64 ((c0 : Nat) : Int)) := h4 (k * 4) _ (flat_at nd4 4 (fun _ => rfl) xs k 0 _ htk (by decide))
                  have f1 : wr.cell? ⟨nb, no + k * 4 + 1, none⟩ = some (.int .u64 ((c1 : Nat) : Int)) := h4 (k * 4 + 1) _ (flat_at nd4 4 (fun _ => rfl) xs k 1 _ htk (by decide))
                  have f2 : wr.cell? ⟨nb, no + k * 4 + 2, none⟩ = some (.int .u64 ((c2 : Nat) : Int)) := h4 (k * 4 + 2) _ (flat_at nd4 4 (fun _ => rfl) xs k 2 _ htk (by decide))
                  have f3 : wr.cell? ⟨nb, no + k * 4 + 3, none⟩ = some (.int .u64 ((c3 : Nat) : Int)) := h4 (k * 4 + 3) _ (flat_at nd4 4 (fun _ => rfl) xs k 3 _ htk (by decide))
                  obtain ⟨w5, hw5, hb5, hs5, hl5⟩ := laid wr #[.int .u64 ((c0 : Nat) : Int), .int .u64 ((c1 : Nat) : Int), .int .u64 ((c2 : Nat) : Int), .int .u64 ((c3 : Nat) : Int)] 50
                  obtain ⟨Y, hYs⟩ : ∃ x, wr.heap.size = x := ⟨_, rfl⟩
                  rw [hYs] at hl5
                  have HG5 := hid (grownBy_trans hG2.out (grownBy_below hb5 (some mb)))
                  have HI5 := hid (HIT.out _ HG5.out)
                  have HD5 := hid (hD2.out.grow hb5)
                  have HJ5 := hid (HJ.out _ _ _ hJ2.out (Turn.grow (Bs := mb) (s0 := s1) hb5))
                  have HRW5 := hid (own_grow hRW2.out hb5)
                  have HY5 := hid hl5
                  have hl4 : pre2.length < 5000 := by have := hPL2.out; have := hMO2.out.len; omega
                  have hml : met2.length ≤ 10000 := by have := hMO2.out.len; omega
                  have xt := cell_laid (i := 0) (HI5.out).t rfl
                  have x0 := cell_laid (i := 0) (HI5.out).x rfl
                  have x1 := cell_laid (i := 1) (HI5.out).x rfl
                  have x2 := cell_laid (i := 2) (HI5.out).x rfl
                  have xh := cell_laid (i := 0) (HI5.out).h rfl
                  have y0 := cell_laid (i := 0) hl5 rfl
                  clear h4 htk hR3 hb5 hs5 hl5 hR2
                  gi_wp2_with fail
                  refine ⟨trivial, ?_⟩
                  refine (callsIn_wide.2 (HMT.out c0 4 met2 w5 HI5.out HD5.out o0 (by decide) (by decide) hml)).mono ?_
                  rintro e w6 ⟨hg6, ⟨met3, hm3, rfl, hi6⟩ | ⟨hno, rfl⟩⟩
                  case' inr =>
                    have HE : Hid (RES = none) := hid (by rw [← HR3.out, takeNs_none (t := (c0, c1, c2, c3)) hno, Option.bind_none])
                    exact ⟨rfl, .inr ⟨tbk, pre2, rfl, ⟨HE.out, rfl⟩, HJ.out _ _ _ HJ5.out (Turn.grown hg6)⟩⟩
                  case' inl =>
                    have HY6 := hid (keep_grown HY5.out hg6 (idsI_ne HD5.out HY5.out))
                    have HG6 := hid (grownBy_trans HG5.out hg6)
                    have HJ6 := hid (HJ.out _ _ _ HJ5.out (Turn.grown (s0 := s1) hg6))
                    have HRW6 := hid (own_cells HRW5.out fun g cur hh => keep_grown hh hg6 (idsI_ne HD5.out hh))
                    have HD6 := hid hi6
                    obtain ⟨hmo3, hml3⟩ := hMO2.out.meet HM.out hm3
                    have HMO3 := hid hmo3
                    have HML3 := hid hml3
                    have HM3 := hid hm3
                    have y1 := cell_laid (i := 1) HY6.out rfl
                    clear hg6 hi6 hm3 hmo3 hml3 xt x0 x1 x2 xh y0 f0 f1 f2 f3 hw5
                    gi_wp2_with fail
                    refine ⟨trivial, ?_⟩
                    refine (callsIn_wide.2 (HOF.out c1 w6)).mono ?_
                    rintro e w7 ⟨rfl, hb7⟩
                    have HY7 := hid (keep_laid HY6.out hb7)
                    have HG7 := hid (grownBy_trans HG6.out (grownBy_below hb7 (some mb)))
                    have HD7 := hid (HD6.out.grow hb7)
                    have HJ7 := hid (HJ.out _ _ _ HJ6.out (Turn.grow (Bs := mb) (s0 := s1) hb7))
                    have HRW7 := hid (own_grow HRW6.out hb7)
                    clear hb7 y1
                    obtain ⟨D, hDr⟩ : ∃ DX, w7.drew = DX := ⟨_, rfl⟩
                    have hbD : Below w7.heap.size w7 D := by rw [← hDr]; exact (Below.refl _ _).drew
                    have HDD := hid hDr
                    have HY8 := hid (keep_laid HY7.out hbD)
                    have HG8 := hid (grownBy_trans HG7.out (grownBy_below hbD (some mb)))
                    have HD8 := hid (HD7.out.grow hbD)
                    have HJ8 := hid (HJ.out _ _ _ HJ7.out (Turn.grow (Bs := mb) (s0 := s1) hbD))
                    have HRW8 := hid (own_grow HRW7.out hbD)
                    haveI : Nonempty (Ext D) := ⟨⟨D, Below.refl _ _⟩⟩
                    have y1 : ∀ z : Ext D, z.v.cell? ⟨Y, 1, none⟩ = some (.int .u64 ((c1 : Nat) : Int)) := fun z => cell_laid (keep_laid HY8.out z.b) rfl
                    have y3 : ∀ z : Ext D, z.v.cell? ⟨Y, 3, none⟩ = some (.int .u64 ((c3 : Nat) : Int)) := fun z => cell_laid (keep_laid HY8.out z.b) rfl
                    obtain ⟨ov, hov⟩ : ∃ x, ofN c1 d = x := ⟨_, rfl⟩
                    obtain ⟨hv, hhv⟩ : ∃ x, hashN c1 = x := ⟨_, rfl⟩
                    have HHV : Hid (∀ W, Calls Tryz.prog 46 #[.int .u64 ((c1 : Nat) : Int)] W (Ret (.int .u64 ((hv : Nat) : Int)) W)) := hid (fun W => by rw [← hhv]; exact Hash_any c1 W)
                    have HOV := hid hov
                    have HHE := hid hhv
                    clear hbD hDr HG5 HI5 HD5 HJ5 HRW5 HY5 HY6 HG6 HJ6 HRW6 HD6 HG7 HD7 HJ7 HRW7 HY7
                    try rw [hov]
                    clear hov hhv
                    gi_wp2
                    by_cases hob : ov = b
                    case' neg =>
                      have HE : Hid (RES = none) := hid (by rw [← HR3.out, takeNs_bad (t := (c0, c1, c2, c3)) HM3.out (fun h => hob (by rw [← HOV.out]; exact h.1)), Option.bind_none])
                      have tb : (((ov : Nat) : Int) != ((b : Nat) : Int)) = true := by simp; omega
                      refine wpIn_region_mixT (fun V => ∃ z : Ext D, V = z.v) 11 (.q 0 (.q 1 (.q 2 (.q 3 (.q 4 (.q 5 (.q 7 (.q 8 (.h 6 (.q 9 (.q 10 (.done)))))))))))) (fun ⟨a, w, h⟩ => by rcases h with ⟨⟨v, e⟩, -⟩ | ⟨c, pre, e, -⟩ <;> cases e) (by kernel_rfl) (by kernel_rfl) (by rw [HDD.out]; exact ⟨⟨D, Below.refl _ _⟩, rfl⟩) ?_
                      rw [HDD.out]
                      iterate 8 (refine wpMix2_q rfl rfl ?_; go_big_quiet_step (fail); refine wpQuiet_nil ?_)
                      refine wpMix2_h rfl fun R' hR' hO => ?_
                      go_wp2
                      refine hR' _ _ ⟨⟨D, Below.refl _ _⟩, rfl⟩ ?_
                      clear hR' hO R'
                      iterate 2 (refine wpMix2_q rfl rfl ?_; go_big_quiet_step (fail); refine wpQuiet_nil ?_)
                      refine wpMix2_done ?_
                      simp only [List.drop_succ_cons, List.drop_zero]
                      clear y1 y3
                      gi_wp2
                      exact ⟨rfl, .inr ⟨tbk, pre2, rfl, ⟨HE.out, rfl⟩, HJ8.out⟩⟩
                    case' pos =>
                      subst hob
                      have tb : (((ov : Nat) : Int) != ((ov : Nat) : Int)) = false := by simp
                      refine wpIn_region_mixT (fun V => ∃ z : Ext D, V = z.v) 11 (.q 0 (.q 1 (.q 2 (.q 3 (.q 4 (.q 5 (.q 7 (.q 8 (.h 6 (.q 9 (.q 10 (.done)))))))))))) (fun ⟨a, w, h⟩ => by rcases h with ⟨⟨v, e⟩, -⟩ | ⟨c, pre, e, -⟩ <;> cases e) (by kernel_rfl) (by kernel_rfl) (by rw [HDD.out]; exact ⟨⟨D, Below.refl _ _⟩, rfl⟩) ?_
                      rw [HDD.out]
                      iterate 8 (refine wpMix2_q rfl rfl ?_; go_big_quiet_step (fail); refine wpQuiet_nil ?_)
                      refine wpMix2_h rfl fun R' hR' hO => ?_
                      go_wp2_with fail
                      refine (HHV.out D).mono ?_
                      rintro e w10 ⟨rfl, hb10⟩
                      go_wp2
                      refine hR' _ _ ⟨⟨w10, hb10⟩, rfl⟩ ?_
                      clear hR' hO R'
                      iterate 2 (refine wpMix2_q rfl rfl ?_; go_big_quiet_step (fail); refine wpQuiet_nil ?_)
                      refine wpMix2_done ?_
                      simp only [List.drop_succ_cons, List.drop_zero]
                      have HY10 := hid (keep_laid HY8.out hb10)
                      have HG10 := hid (grownBy_trans HG8.out (grownBy_below hb10 (some mb)))
                      have HD10 := hid (HD8.out.grow hb10)
                      have HJ10 := hid (HJ.out _ _ _ HJ8.out (Turn.grow (Bs := mb) (s0 := s1) hb10))
                      have HRW10 := hid (own_grow HRW8.out hb10)
                      clear y1 y3 hb10
                      by_cases hhc : hv = c3
                      case' neg =>
                        have HE : Hid (RES = none) := hid (by rw [← HR3.out, takeNs_bad (t := (c0, c1, c2, c3)) HM3.out (fun h => hhc (by rw [← HHE.out]; exact h.2)), Option.bind_none])
                        have tc : (((hv : Nat) : Int) != ((c3 : Nat) : Int)) = true := by simp; omega
                        gi_wp2
                        exact ⟨rfl, .inr ⟨tbk, pre2, rfl, ⟨HE.out, rfl⟩, HJ10.out⟩⟩
                      case' pos =>
                        subst hhc
                        have tc : (((hv : Nat) : Int) != ((hv : Nat) : Int)) = false := by simp
                        have HR4 : Hid (((takeNs M d ov (xs.drop (k + 1)) met3 (pre2 ++ [rwOf ov (c0, c1, c2, hv)])).bind fun r => bucketsGo M a d g1 (ov + 1) r.2 r.1) = RES) := hid (by rw [← HR3.out, takeNs_good (t := (c0, c1, c2, hv)) HM3.out HOV.out HHE.out])
                        have z0 := cell_laid (i := 0) HY10.out rfl
                        have z1 := cell_laid (i := 1) HY10.out rfl
                        have z2 := cell_laid (i := 2) HY10.out rfl
                        obtain ⟨fn, tmps, assign, body, hy, hRO⟩ := HY.out pre2 (rwOf ov (c0, c1, c2, hv)) w10 HJ10.out hl4
                        have hy' : (Instr.yield l #[.agg #[.int .i64 ((ov : Nat) : Int), .int .u64 ((c0 : Nat) : Int), .int .u64 ((c1 : Nat) : Int), .int .u64 ((c2 : Nat) : Int)]]).run Tryz.prog w10 = _ := hy
                        clear hy
                        gi_wp2
                        refine hRO.mono ?_
                        rintro e w9 (⟨rfl, hJ9, hk9⟩ | ⟨rfl, hJx9⟩)
                        case' inr =>
                          clear hy' hRO
                          gi_wp2
                          refine bodyPost_ret (results_none rfl _ _ _) rfl ?_
                          exact .inl ⟨⟨_, rfl⟩, .inr ⟨_, trivial, hJx9⟩⟩
                        case' inl =>
                          have HG9 := hid (grownBy_keepsR HG10.out hk9)
                          have HD9 := hid (HD10.out.block (hk9.1.block mb HMB.out))
                          have HJ9 := hid hJ9
                          have HRW9 := hid (own_cells HRW10.out fun g cur hh => hk9.2 _ _ _ _ hh (by decide) (by decide))
                          clear hy' hRO hJ9 hk9 z0 z1 z2
                          gi_wp2
                          go_roundg (gk - 1)
                          case measure => have := HK.out; omega
                          case rel => exact ⟨k + 1, met3, _, by have := HK.out; omega, by go_num, HG9, HD9, HJ9, HR4, HMO3, hid (by have := hPL2.out; have := HML3.out; simp only [List.length_append, List.length_singleton]; omega), HRW9⟩
                · have hR3 := hR2.out
                  rw [List.drop_eq_nil_of_le (by rw [HQ.out]; omega), takeNs, Option.bind_some] at hR3
                  have HR3 := hid hR3
                  clear hR3
                  gi_wp2
                  go_roundg g1
                  case measure => have := HGK.out; omega
                  case rel => exact ⟨b + 1, met2, pre2, by have := HBB.out; have := HGK.out; omega, by go_num, hG2, hD2, hJ2, HR3, hMO2, hPL2⟩
          · have HE : Hid (RES = some (pre, met)) := hid (by
              have e1 := HBB.out
              have e4 : gk = 0 := by omega
              rw [← hRR.out, e4]; rfl)
            gi_wp2
            go_end0
            exact .inl ⟨⟨_, rfl⟩, .inl ⟨pre, ⟨met, HE.out⟩, hJs.out, HEE.out _ _ _ HE.out hD.out hMO.out⟩⟩
end Go.Proofs.YtahicokokfcieaaGreatDoor
namespace Go.Proofs.YtahicokokfcieaaGreatDoor
open Go.RowKit
open Go.Proofs
set_option linter.unusedVariables false
attribute [local go_sem] Oper.semAt_some
theorem leaves_markP {P : Program} {fn : Func} {tmps : Array Value} {R : Ending → World → Prop} {D : Nat} {W : World} {c : List PanicEntry} (hK : W.heap[D]? = some (.deferred (some []))) (hR : R (.panicked c) (W.putObj D (.deferred none))) :
    LeavesInM Fence.wide 5 P fn tmps R [{ target := .collected D, args := #[] }] (.panicking c) W :=
  ⟨by simp, .inl ⟨D, _, rfl, run_takeDeferred hK, hR⟩⟩
theorem elemRw : Elem Tryz.prog 29 73 4 32 := Elem.mk' (z := .agg #[.int .i64 0, .int .u64 0, .int .u64 0, .int .u64 0]) Tryz.underlying29 (by kernel_rfl) rfl (by decide) (by decide)
theorem rwcells_snoc (xs : List Rw) (t : Rw) : rwcells (xs ++ [t]) = rwcells xs ++ rw4 t := by simp [rwcells]
theorem holds_any (v0 v1 v2 v3 : Value) (V : World) : Calls Tryz.prog 62 #[.agg #[v0, v1, v2, v3]] V (Ret (.bool true) V) := by
  obtain ⟨V1, hV1, hb1, hs1, hl1⟩ := laid V #[v0, v1, v2, v3] 73
  have HB := hid hb1
  clear hb1 hs1 hl1
  go_enter Tryz.func62, Tryz.ntmps62
  go_wp2
  go_ret
  exact ⟨rfl, HB.out⟩
theorem grownBy_belowV {V A B : World} {mb : Option Nat} (h : V.grownBy A mb) (k : Below V.heap.size A B) : V.grownBy B mb :=
  ⟨k.os.trans h.os, k.tape.trans h.tape, k.output.trans h.output, Nat.le_trans h.size k.size, fun i hi hr => (k.block i hi).trans (h.block i hi hr)⟩
theorem below_put {s D : Nat} {W : World} {o : Obj} (h : s ≤ D) : Below s W (W.putObj D o) := ⟨rfl, rfl, rfl, by simp [World.putObj], fun k hk => World.putObj_heap_other (by omega)⟩
/-- Rows that are gathered. -/
structure Gk (V : World) (mb X3 Z5 base : Nat) (pre : List Rw) (v : Value) (W : World) : Prop where
  b3 : W.heap[X3]? = some (.cells #[.func (.func 62) #[] #[]] 123 (0, 0))
  b5 : W.heap[Z5]? = some (.cells #[v] 29 (0, 0))
  row : W.ownsRow base 73 4 v pre.length (rwcells pre)
  grown : V.grownBy W (some mb)
  sz : base ≤ W.heap.size
theorem grownBy_abide {V A B : World} {mb base : Nat} {row : Option Nat} (h : V.grownBy A (some mb)) (hg : A.grownBy B row) (hr : ∀ r, row = some r → r = mb ∨ (base ≤ r ∧ ∃ o, A.heap[r]? = some o ∧ o.isCells = false)) (hb : V.heap.size ≤ base) : V.grownBy B (some mb) :=
  ⟨hg.os.trans h.os, hg.tape.trans h.tape, hg.output.trans h.output, Nat.le_trans h.size hg.size, fun i hi hne => (hg.block i (Nat.lt_of_lt_of_le hi h.size) (fun e => by
    rcases hr i e.symm with e1 | ⟨h1, _⟩
    · exact hne (by rw [e1])
    · omega)).trans (h.block i hi hne)⟩
theorem Gk.abide {V A B : World} {mb X3 Z5 base : Nat} {pre : List Rw} {v : Value} {row : Option Nat} (h : Gk V mb X3 Z5 base pre v A) (hg : A.grownBy B row)
    (hr : ∀ r, row = some r → r = mb ∨ (base ≤ r ∧ ∃ o, A.heap[r]? = some o ∧ o.isCells = false)) (h3 : X3 ≠ mb) (h5 : Z5 ≠ mb) (hm : mb < base) (hb : V.heap.size ≤ base) : Gk V mb X3 Z5 base pre v B :=
  ⟨cells_abide h.b3 hg hr h3, cells_abide h.b5 hg hr h5, own_abide h.row hg hr hm, grownBy_abide h.grown hg hr hb, Nat.le_trans h.sz hg.size⟩
theorem Gk.grow {V A B : World} {mb X3 Z5 base : Nat} {pre : List Rw} {v : Value} (h : Gk V mb X3 Z5 base pre v A) (hb : Below A.heap.size A B) : Gk V mb X3 Z5 base pre v B :=
  ⟨keep_laid h.b3 hb, keep_laid h.b5 hb, own_grow h.row hb, grownBy_trans h.grown (grownBy_below hb _), Nat.le_trans h.sz hb.size⟩
set_option maxRecDepth 100000 in
set_option maxHeartbeats 8000000 in
theorem gathered_any (T X H mb root n : Nat) (wa : Option Addr) (wc : Nat) (la : Option Addr) (lc : Nat) (M : Mem) (V : World) (hn : M.W.length = n) (hm : M.L.length = n) (hn1 : 1 ≤ n) (hn4 : n ≤ 4096) (hok : okM M = true) (hr : root < 18446744073709551616) (hW : ∀ x ∈ M.W, x < 18446744073709551616)
    (hI : Rit T X H mb wa wc la lc n root M V) (hi : IdsI V mb (ones [])) :
    Calls Tryz.prog 60 #[.func (.func 86) #[] #[.pointer (some ⟨T, 0, none⟩), .pointer (some ⟨X, 0, none⟩), .pointer (some ⟨H, 0, none⟩)], .func (.func 62) #[] #[]] V (fun e W =>
      V.grownBy W (some mb) ∧ ((∃ xs v, e = .returned v ∧ W.ownsRow V.heap.size 73 4 v xs.length (rwcells xs) ∧ EeR M root n mb xs W) ∨ (rowsW M root = none ∧ e = .panicked tbk))) := by
  obtain ⟨V1, hV1, hb1, hs1, hl1⟩ := laid V #[.func (.func 62) #[] #[]] 123
  obtain ⟨V2, hV2, hb2, hs2, hl2⟩ := laid V1 #[.slice none 0 0] 29
  obtain ⟨X3, hX3⟩ : ∃ x, V.heap.size = x := ⟨_, rfl⟩
  obtain ⟨Z5, hZ5⟩ : ∃ x, V1.heap.size = x := ⟨_, rfl⟩
  rw [hX3] at hl1
  rw [hZ5] at hl2
  have K3 := hid (keep_laid hl1 hb2)
  have K5 := hid hl2
  have HB2 := hid (step hb1 hb2)
  have h35 : X3 < Z5 := by omega
  have HX3 := hid hX3
  have HMB : Hid (mb < V.heap.size) := hid (World.ownsMap.lt hi)
  have HSQ := hid (fun s1 => rows_seq T X H mb s1 root n wa wc la lc M V hn hm hn1 hn4 hok hr hW hI hi)
  have hs : Z5 < V2.heap.size := lt_laid hl2
  have c3 := cell_laid (i := 0) K3.out rfl
  clear hI hi hW hb1 hs1 hl1 hb2 hs2 hl2
  refine calls_of_wp_marks Tryz.func60 rfl ?_
  simp only [Tryz.ntmps60, List.size_toArray, List.length_cons, List.length_nil, Nat.reduceAdd, Nat.reduceSub, Array.replicate_succ, Array.replicate_zero, List.push_toArray, List.append_toArray, List.nil_append, List.cons_append]
  go_wp2
  have hmb3 : X3 ≠ mb := by have := HMB.out; have := HX3.out; omega
  have hmb5 : Z5 ≠ mb := by have := HMB.out; have := HX3.out; omega
  have hmbs : mb < V2.heap.size := by have := HMB.out; have := HX3.out; omega
  have hV2 : V.heap.size ≤ V2.heap.size := HB2.out.size
  refine wp_rangeR (Bs := mb) (s0 := V.heap.size) (T0 := 29) (T1 := 73) (gf := 86) (lb := #[.pointer (some ⟨T, 0, none⟩), .pointer (some ⟨X, 0, none⟩), .pointer (some ⟨H, 0, none⟩)]) rfl (enters_of Tryz.func86 (by kernel_rfl) rfl)
    (fun xs W l o o' hl hlo hc hE => ?hEe) (HSQ.out _) hV2 hmbs (fun o o' => ?hR) (fun _ => rfl)
    (fun pre W => ∃ v, Gk V mb X3 Z5 V2.heap.size pre v W) (fun c pre W => False) ?hI ?hIx ?h0
    (fun t pre p a' W => (∃ v, Gk V mb X3 Z5 V2.heap.size pre v W) ∧ ∃ B, a' = { tmps := (t.setIfInBounds 8 (rwV p)).setIfInBounds 6 (.pointer (some ⟨B, 0, none⟩)), defers := [] } ∧ V2.heap.size ≤ B ∧ W.heap[B]? = some (.cells #[.int .i64 ((p.1 : Nat) : Int), .int .u64 ((p.2.1 : Nat) : Int), .int .u64 ((p.2.2.1 : Nat) : Int), .int .u64 ((p.2.2.2 : Nat) : Int)] 73 (0, 0))) ?hAx ?assign ?body ?done ?stop ?panic
  case hEe =>
    obtain ⟨met, h1, h2, h3⟩ := hE
    exact ⟨met, h1, h2.block (World.putObj_heap_other (by omega)), h3⟩
  case hR => exact HB2.out.trans ((((Below.refl V2.heap.size V2).alloc (Nat.le_refl _) o).alloc (Nat.le_of_lt (by simp)) o').mono HB2.out.size)
  case hI => exact fun s A B row ⟨v, hs⟩ hg hr => ⟨v, hs.abide hg hr hmb3 hmb5 hmbs hV2⟩
  case hIx => exact fun c s A B row h hg hr => h
  case h0 => exact ⟨_, K3.out, K5.out, World.ownsRow_nil _ _ _ _, grownBy_below HB2.out _, Nat.le_refl _⟩
  case hAx =>
    rintro t pre p a' A B row ⟨⟨v, hU⟩, b, e, hb, hc⟩ hg hr
    exact ⟨⟨v, hU.abide hg (fun r e => .inr (hr r e)) hmb3 hmb5 hmbs hV2⟩, b, e, hb, cells_abide (Bs := mb) (B0 := V2.heap.size) hc hg (fun r e => .inr (hr r e)) (by omega)⟩
  case assign =>
    rintro l pre ⟨p1, p2, p3, p4⟩ W K ⟨v, hI⟩ hlen hK
    obtain ⟨wb, hwb, hbb, hsb, hlb⟩ := laid W #[.int .i64 ((p1 : Nat) : Int), .int .u64 ((p2 : Nat) : Int), .int .u64 ((p3 : Nat) : Int), .int .u64 ((p4 : Nat) : Int)] 73
    have HLB := hid hlb
    have HU := hid (hI.grow hbb)
    have HI := hid hI.sz
    clear hlb hsb hI
    unfold rwV
    gi_wp2
    refine hK _ _ hbb ⟨⟨_, HU.out⟩, W.heap.size, rfl, HI.out, HLB.out⟩
  case body =>
    rintro l pre ⟨p1, p2, p3, p4⟩ a' W ⟨⟨v, hLk⟩, B, rfl, hB, hc⟩ hlen
    obtain ⟨m, hm⟩ : ∃ m, pre.length = m := ⟨_, rfl⟩
    obtain ⟨va, vc, hv, hlv⟩ := Leads.of_own hLk.row
    subst hv
    have hvl := hlv.len
    rw [hm] at hlv hvl hlen
    have HLK : Hid (Gk V mb X3 Z5 V2.heap.size pre (.slice va m vc) W) := hid (by have := hLk; rw [hm] at this; exact this)
    have HC := hid hc
    have HMM := hid hm
    have c3 := cell_laid (i := 0) HLK.out.b3 rfl
    have q0 := cell_laid (i := 0) HC.out rfl
    have q1 := cell_laid (i := 1) HC.out rfl
    have q2 := cell_laid (i := 2) HC.out rfl
    have q3 := cell_laid (i := 3) HC.out rfl
    have hWs : V2.heap.size ≤ W.heap.size := HLK.out.sz
    have HHA := hid (fun W => holds_any (.int .i64 ((p1 : Nat) : Int)) (.int .u64 ((p2 : Nat) : Int)) (.int .u64 ((p3 : Nat) : Int)) (.int .u64 ((p4 : Nat) : Int)) W)
    clear hLk hc hlv
    gi_wp2_with fail
    refine ⟨trivial, ?_⟩
    refine (callsIn_wide.2 (HHA.out W)).mono ?_
    rintro e w5 ⟨rfl, hb5⟩
    have HB5 := hid hb5
    have kB := keep_laid HC.out hb5
    have HLK5 := hid (HLK.out.grow hb5)
    clear c3 q0 q1 q2 q3 hb5
    have c5 := cell_laid (i := 0) HLK5.out.b5 rfl
    have q0 := cell_laid (i := 0) kB rfl
    have q1 := cell_laid (i := 1) kB rfl
    have q2 := cell_laid (i := 2) kB rfl
    have q3 := cell_laid (i := 3) kB rfl
    obtain ⟨W3, hW3, hb7, hs7, hl7⟩ := laid w5 #[.int .i64 ((p1 : Nat) : Int), .int .u64 ((p2 : Nat) : Int), .int .u64 ((p3 : Nat) : Int), .int .u64 ((p4 : Nat) : Int)] 73
    have HLK3 := hid (HLK5.out.grow hb7)
    have HB7' := hid (step HB5.out hb7)
    have HL7 := hid hl7
    have hW3s : V2.heap.size ≤ W3.heap.size := HLK3.out.sz
    have HRW : Hid (W3.ownsRow V2.heap.size 73 4 (.slice va m vc) m (rwcells pre)) := hid (by have := HLK3.out.row; rw [HMM.out] at this; exact this)
    have hm6 : m ≤ 1000000 := by omega
    have h5w : V2.heap.size ≤ w5.heap.size := HLK5.out.sz
    clear kB hl7 hs7 hb7
    gi_wp2_with (gi_at_builtin; refine wpIn_append1 elemRw rfl (.tmp 12) (.tmp 14) rfl V2.heap.size (.slice va m vc) m (rwcells pre) rfl HRW.out w5.heap.size (rw4 (p1, p2, p3, p4)) rfl rfl ?c1 ?c2 ?c3 ?c4 ?c5)
    case c1 =>
      intro j u hj
      exact cell_laid HL7.out (by simpa [rw4] using hj)
    case c2 => first | (intro u hu; simp [rw4] at hu; rcases hu with rfl | rfl | rfl | rfl <;> rfl) | rfl | exact hm6
    try (case c3 => exact hm6)
    try (case c4 => omega)
    case c5 =>
      intro v' W4 hown' hb8 hg8
      have n4 := (hb8.block Z5 (by omega)).trans HLK3.out.b5
      have hc10 := cell_laid (i := 0) n4 rfl
      have hf10 := free_laid (i := 0) n4
      have N4 := hid n4
      have N3 := hid ((hb8.block X3 (by omega)).trans HLK3.out.b3)
      obtain ⟨a', cap', rfl, -⟩ := Leads.of_own hown'
      have HO' := hid hown'
      clear n4 hown'
      gi_wp2
      have hK4 : KeepsOthers W3 W4 := KeepsOthers.of_grownBy hg8 fun j o hj ho => by
        rcases HRW.out.2 with ⟨e, _⟩ | ⟨g, cap, cur, e, _, hh, _⟩
        · rw [e] at hj; cases hj
        · rw [e] at hj; cases hj; rw [hh] at ho; cases ho; rfl
      have hKO := ((keepsOthers_of_below HB7'.out).trans hK4).trans (KeepsOthers.setCell W4 ⟨Z5, 0, none⟩ (.slice a' (m + 1) cap'))
      have hV3 : V.heap.size ≤ Z5 := by have := HX3.out; omega
      refine ⟨hKO, ⟨?_, ?_⟩, ⟨.slice a' (m + 1) cap', other_laid N3.out (by omega) _, set_laid N4.out _, ?_, ?_, ?_⟩⟩
      · exact ((HB7'.out.mono (by omega)).trans (hb8.mono (by omega))).setCell (by show V.heap.size ≤ Z5; omega) _
      · intro k cs T' fr h1 h2 h3
        have h4 := (HB7'.out.block k (Array.getElem?_eq_some_iff.1 h1).1).trans h1
        have h5 : W4.heap[k]? = some (.cells cs T' fr) := (hg8.block k (Array.getElem?_eq_some_iff.1 h4).1 (fun e => by
          rcases HRW.out.2 with ⟨e', _⟩ | ⟨g, cap, cur, e', _, hh, _⟩
          · rw [e'] at e; cases e
          · rw [e'] at e; cases e; rw [hh] at h4; cases h4; exact h3 rfl)).trans h4
        exact (Below.heap_setCell W4 ⟨Z5, 0, none⟩ _ _ (by
          show k ≠ Z5
          rintro rfl
          have := N4.out
          rw [h5] at this
          cases this
          exact h2 rfl)).trans h5
      · rw [List.length_append, rwcells_snoc, HMM.out]
        exact ownsRow_setCell_below (a := ⟨Z5, 0, none⟩) HO'.out (by show Z5 < _; omega) _
      · exact grownBy_belowV HLK3.out.grown ((hb8.mono (by omega)).setCell (by show V.heap.size ≤ Z5; omega) _)
      · exact Nat.le_trans hW3s (Nat.le_trans hb8.size (by simp [World.setCell]))
  case done =>
    rintro D xs W hD hn ⟨v, hLk⟩ hE hK
    have HK := hid hK
    have HL := hid hLk
    have HE := hid hE
    have c5 := cell_laid (i := 0) hLk.b5 rfl
    have HB := hid (grownBy_belowV hLk.grown (below_put (D := D) (o := .deferred none) (by omega)))
    clear hK hLk hE hn
    go_wp2
    refine leaves_mark HK.out (results_tmp rfl _ _ _) ⟨HB.out, .inl ⟨xs, v, rfl, own_mark (own_base HL.out.row hV2) HK.out _, ?_⟩⟩
    obtain ⟨met, h1, h2, h3⟩ := HE.out
    exact ⟨met, h1, h2.block (World.putObj_heap_other (by omega)), h3⟩
  case stop =>
    rintro D c pre W hD hn hf hK
    exact hf.elim
  case panic =>
    rintro D c pre W hD ⟨hn, rfl⟩ ⟨v, hLk⟩ hK
    exact leaves_markP hK ⟨grownBy_belowV hLk.grown (below_put (D := D) (by omega)), .inr ⟨hn, rfl⟩⟩
end Go.Proofs.YtahicokokfcieaaGreatDoor
