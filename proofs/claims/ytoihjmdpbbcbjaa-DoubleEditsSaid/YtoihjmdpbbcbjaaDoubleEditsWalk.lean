/- Lists linked both ways: DoubleEdits, the walk (printed by gen_dbledits.py). -/
import Derived.Test.YtoihjmdpbbcbjaaDblWakes
namespace Go.Proofs.Ytoihjmdpbbcbjaa
open Go.RowKit
open Go.Proofs
set_option linter.unusedVariables false
attribute [local go_sem] Oper.semAt_some

theorem take48_id {M : Mem} (h1 : M.W.length ≤ 48) (h2 : M.L.length ≤ 48) : take48 M = M := by
  unfold take48
  rw [List.take_of_length_le h1, List.take_of_length_le h2]
theorem take48_len (M : Mem) : (take48 M).W.length ≤ 48 ∧ (take48 M).L.length ≤ 48 := by unfold take48; simp; omega
theorem take48_wok {M : Mem} (h : Wok M) : Wok (take48 M) := fun x hx => h x (List.mem_of_mem_take hx)
theorem sameM_self (M : Mem) : sameM M M = true := by unfold sameM; simp
theorem zeroE_okk : zeroE.Ok := ⟨by decide, by decide, by decide, by decide, by decide, by decide, by decide⟩
theorem MemO.spoilt {V W : World} {base B : Nat} {wa la : Option Addr} {wc lc : Nat} {M : Mem} {v1 v2 : Value} (h : MemO base wa wc la lc M V) (hs : spK B v1 v2 V W)
    (h1 : ∀ k, (∃ c e, V.heap[k]? = some (.cells c e (0, 0)) ∧ base ≤ k ∧ k < V.heap.size) → ((∃ b, wa = some b ∧ b.block = k) ∨ ∃ b, la = some b ∧ b.block = k) → v1.ownBlock ≠ some k ∧ v2.ownBlock ≠ some k) : MemO base wa wc la lc M W := by
  refine ⟨own_keep h.w fun k o hk ho => ?_, own_keep h.l fun k o hk ho => ?_⟩
  · obtain ⟨c, hc⟩ := own_type h.w k hk
    obtain ⟨b, rfl⟩ : ∃ b, wa = some b := by cases wa with
      | none => cases hk
      | some b => exact ⟨b, rfl⟩
    have hb : b.block = k := by simpa [Value.ownBlock] using hk
    obtain ⟨q1, q2⟩ := h1 k ⟨c, _, hc, (h.w.lt k hk).1, (h.w.lt k hk).2⟩ (.inl ⟨b, rfl, hb⟩)
    exact hs.2 k o ho q1 q2
  · obtain ⟨c, hc⟩ := own_type h.l k hk
    obtain ⟨b, rfl⟩ : ∃ b, la = some b := by cases la with
      | none => cases hk
      | some b => exact ⟨b, rfl⟩
    have hb : b.block = k := by simpa [Value.ownBlock] using hk
    obtain ⟨q1, q2⟩ := h1 k ⟨c, _, hc, (h.l.lt k hk).1, (h.l.lt k hk).2⟩ (.inr ⟨b, rfl, hb⟩)
    exact hs.2 k o ho q1 q2
/-- The rows of a memory that was made later. -/
theorem MemO.later {V W : World} {base B : Nat} {wa la wb lb : Option Addr} {wc lc wd ld : Nat} {M N' : Mem} (h : MemO base wa wc la lc M V) (hn : MemO B wb wd lb ld N' V) (hs : spK B (.slice wb N'.W.length wd) (.slice lb N'.L.length ld) V W) (hlt : (∀ k, (.slice wa M.W.length wc : Value).ownBlock = some k ∨ (.slice la M.L.length lc : Value).ownBlock = some k → k < B) ∨ (∀ k, (.slice wb N'.W.length wd : Value).ownBlock = some k ∨ (.slice lb N'.L.length ld : Value).ownBlock = some k → k < base)) : MemO base wa wc la lc M W := by
  have key : ∀ k, ((.slice wa M.W.length wc : Value).ownBlock = some k ∨ (.slice la M.L.length lc : Value).ownBlock = some k) → base ≤ k → (.slice wb N'.W.length wd : Value).ownBlock ≠ some k ∧ (.slice lb N'.L.length ld : Value).ownBlock ≠ some k := by
    intro k hk hbk
    constructor
    · intro e
      rcases hlt with h1 | h1
      · have := h1 k hk; have := (hn.w.lt k e).1; omega
      · have := h1 k (.inl e); omega
    · intro e
      rcases hlt with h1 | h1
      · have := h1 k hk; have := (hn.l.lt k e).1; omega
      · have := h1 k (.inr e); omega
  refine ⟨own_keep h.w fun k o hk ho => ?_, own_keep h.l fun k o hk ho => ?_⟩
  · obtain ⟨q1, q2⟩ := key k (.inl hk) (h.w.lt k hk).1
    exact hs.2 k o ho q1 q2
  · obtain ⟨q1, q2⟩ := key k (.inr hk) (h.l.lt k hk).1
    exact hs.2 k o ho q1 q2
/-- A variable stays as it is while a memory's rows are written. -/
theorem spK.box {V W : World} {B Z : Nat} {wb lb : Option Addr} {wd ld : Nat} {N' : Mem} {cs : Array Value} {e : TypeId} (hs : spK B (.slice wb N'.W.length wd) (.slice lb N'.L.length ld) V W) (hn : MemO B wb wd lb ld N' V) (hz : V.heap[Z]? = some (.cells cs e (0, 0))) (h1 : 26 ≠ e) (h2 : 4 ≠ e) : W.heap[Z]? = some (.cells cs e (0, 0)) :=
  hs.2 Z _ hz (own_ne hn.w hz h1) (own_ne hn.l hz h2)

theorem MemO.below {base : Nat} {wa la : Option Addr} {wc lc : Nat} {M : Mem} {V : World} (h : MemO base wa wc la lc M V) : ∀ k, (.slice wa M.W.length wc : Value).ownBlock = some k ∨ (.slice la M.L.length lc : Value).ownBlock = some k → k < V.heap.size := by
  rintro k (e | e)
  · exact (h.w.lt k e).2
  · exact (h.l.lt k e).2
theorem putM5 {V : World} {Y : Nat} {z0 z1 z2 z3 z4 : Value} {T : TypeId} (h : V.heap[Y]? = some (.cells #[z0, z1, z2, z3, z4] T (0, 0))) (v0 v1 v2 v3 v4 : Value) :
    ∃ V', V' = (((((V.setCell ⟨Y, 0, none⟩ v0).setCell ⟨Y, 1, none⟩ v1).setCell ⟨Y, 2, none⟩ v2).setCell ⟨Y, 3, none⟩ v3).setCell ⟨Y, 4, none⟩ v4) ∧ V'.heap[Y]? = some (.cells #[v0, v1, v2, v3, v4] T (0, 0)) ∧ (∀ (k : Nat) (o : Obj), k ≠ Y → V.heap[k]? = some o → V'.heap[k]? = some o) ∧ (∀ (B : Nat) (w : World), B ≤ Y → Below B w V → Below B w V') ∧
      (∀ (base : Nat) (wa : Option Addr) (wc : Nat) (la : Option Addr) (lc : Nat) (M : Mem), 26 ≠ T → 4 ≠ T → MemO base wa wc la lc M V → MemO base wa wc la lc M V') := by
  obtain ⟨V0, hV0⟩ : ∃ W, V.setCell ⟨Y, 0, none⟩ v0 = W := ⟨_, rfl⟩
  have h0 : V0.heap[Y]? = some (.cells #[v0, z1, z2, z3, z4] T (0, 0)) := by rw [← hV0]; exact set_laid (i := 0) h v0
  obtain ⟨V1, hV1⟩ : ∃ W, V0.setCell ⟨Y, 1, none⟩ v1 = W := ⟨_, rfl⟩
  have h1 : V1.heap[Y]? = some (.cells #[v0, v1, z2, z3, z4] T (0, 0)) := by rw [← hV1]; exact set_laid (i := 1) h0 v1
  obtain ⟨V2, hV2⟩ : ∃ W, V1.setCell ⟨Y, 2, none⟩ v2 = W := ⟨_, rfl⟩
  have h2 : V2.heap[Y]? = some (.cells #[v0, v1, v2, z3, z4] T (0, 0)) := by rw [← hV2]; exact set_laid (i := 2) h1 v2
  obtain ⟨V3, hV3⟩ : ∃ W, V2.setCell ⟨Y, 3, none⟩ v3 = W := ⟨_, rfl⟩
  have h3 : V3.heap[Y]? = some (.cells #[v0, v1, v2, v3, z4] T (0, 0)) := by rw [← hV3]; exact set_laid (i := 3) h2 v3
  obtain ⟨V4, hV4⟩ : ∃ W, V3.setCell ⟨Y, 4, none⟩ v4 = W := ⟨_, rfl⟩
  have h4 : V4.heap[Y]? = some (.cells #[v0, v1, v2, v3, v4] T (0, 0)) := by rw [← hV4]; exact set_laid (i := 4) h3 v4
  refine ⟨V4, by rw [hV0, hV1, hV2, hV3, hV4], h4, fun k o hk ho => ?_, fun B w hB hb => ?_, fun base wa wc la lc M h1' h2' hm => ?_⟩
  · rw [← hV4, ← hV3, ← hV2, ← hV1, ← hV0]; exact other_laid (other_laid (other_laid (other_laid (other_laid ho hk _) hk _) hk _) hk _) hk _
  · rw [← hV4, ← hV3, ← hV2, ← hV1, ← hV0]; exact ((((hb.setCell hB _).setCell hB _).setCell hB _).setCell hB _).setCell hB _
  · have m0 := hm.set h h1' h2' (i := 0) v0
    rw [hV0] at m0
    have m1 := m0.set h0 h1' h2' (i := 1) v1
    rw [hV1] at m1
    have m2 := m1.set h1 h1' h2' (i := 2) v2
    rw [hV2] at m2
    have m3 := m2.set h2 h1' h2' (i := 3) v3
    rw [hV3] at m3
    have m4 := m3.set h3 h1' h2' (i := 4) v4
    rw [hV4] at m4
    exact m4

/-- What a move comes to. -/
def resP (M : Mem) (head : Nat) (m : Mv) : Mem × Nat × Nat := if m.cuts = true then remP M head m.node.1 else insP M head m.prev m.node
theorem stepE_len (M : Mem) (s : Ed) : (stepE M s).1.W.length = M.W.length ∧ (stepE M s).1.L = M.L := by
  unfold stepE
  split
  · exact ⟨rfl, rfl⟩
  · unfold accR
    dsimp only
    exact ⟨stepM_len _ _ _ _, stepM_L _ _ _ _⟩
theorem runE_keep : ∀ (f : Nat) (M : Mem) (s : Ed) (n : Nat), okM M = true → Wok M → s.Ok → 0 ≤ s.ph → Wok (runE f M s n).1 ∧ (runE f M s n).1.W.length = M.W.length ∧ (runE f M s n).1.L.length = M.L.length
  | 0, M, s, n, h1, h2, h3, h4 => ⟨h2, rfl, rfl⟩
  | f + 1, M, s, n, h1, h2, h3, h4 => by
    unfold runE
    split
    · obtain ⟨q1, q2, q3, q4, q5⟩ := stepE_ok h1 h2 h3 h4
      obtain ⟨r1, r2, r3⟩ := runE_keep f (stepE M s).1 (stepE M s).2 (n + 1) q1 q2 q3 q5
      obtain ⟨l1, l2⟩ := stepE_len M s
      exact ⟨r1, by rw [r2, l1], by rw [r3, l2]⟩
    · exact ⟨h2, rfl, rfl⟩
theorem lookN_ok {M : Mem} {head : Nat} (h : (lookN M head).2 = 0) : okM M = true := by
  cases hok : okM M with
  | true => rfl
  | false => rw [lookN_bad hok] at h; cases h
theorem resP_facts {M : Mem} {head : Nat} {m : Mv} (hW : Wok M) (hh : head < 18446744073709551616) (hm : m.Ok) (hl : M.W.length ≤ 48 ∧ M.L.length ≤ 48) : Wok (resP M head m).1 ∧ ((resP M head m).1.W.length ≤ 48 ∧ (resP M head m).1.L.length ≤ 48) := by
  have hz : Wok zeroM ∧ (zeroM.W.length ≤ 48 ∧ zeroM.L.length ≤ 48) := ⟨by unfold Wok; intro x hx; simp [zeroM] at hx, by decide, by decide⟩
  unfold resP
  split
  · unfold remP
    split
    · exact hz
    · rename_i h0
      split
      · exact hz
      · obtain ⟨r1, r2, r3⟩ := runE_keep 12 M (cutE head m.node.1) 0 (lookN_ok (Decidable.not_not.1 h0)) hW (cutE_ok hh hm.node.1) (show (0 : Int) ≤ 5 by decide)
        exact ⟨r1, by dsimp only; omega, by dsimp only; omega⟩
  · unfold insP
    split
    · exact hz
    · rename_i hok
      split
      · exact hz
      · split
        · exact hz
        · split
          · exact hz
          · obtain ⟨r1, r2, r3⟩ := runE_keep 12 M (putE head m.prev m.node) 0 (by simpa using hok) hW (putE_ok hh hm.prev hm.node) (show (0 : Int) ≤ 0 by decide)
            exact ⟨r1, by dsimp only; omega, by dsimp only; omega⟩
/-- Either no words, or two or more. -/
def Two (M : Mem) : Prop := (M.W.length = 0 ∧ M.L.length = 0) ∨ (2 ≤ M.W.length ∧ 2 ≤ M.L.length)
theorem nodesN_two {M : Mem} {head : Nat} {xs : List Tw} {met : List Nat} (h : nodesN M head = some (xs, met)) (hok : okM M = true) : 2 ≤ M.W.length ∧ 2 ≤ M.L.length := by
  obtain ⟨h1, h2, h3⟩ := nodesN_spec h
  obtain ⟨q1, q2, q3, -⟩ := okM_spec hok
  have := nodup_lt h1 (nodesN_len h hok).2
  omega
theorem resP_two {M : Mem} {head : Nat} {m : Mv} (hW : Wok M) (hh : head < 18446744073709551616) (hm : m.Ok) : Two (resP M head m).1 := by
  have hz : Two zeroM := .inl ⟨rfl, rfl⟩
  unfold resP
  split
  · unfold remP
    split
    · exact hz
    · rename_i h0
      split
      · exact hz
      · have hok := lookN_ok (Decidable.not_not.1 h0)
        obtain ⟨r1, r2, r3⟩ := runE_keep 12 M (cutE head m.node.1) 0 hok hW (cutE_ok hh hm.node.1) (show (0 : Int) ≤ 5 by decide)
        cases hn : nodesN M head with
        | none => rw [lookN_none hok hn] at h0; exact absurd (by decide) h0
        | some r =>
          have := nodesN_two (xs := r.1) (met := r.2) hn hok
          exact .inr ⟨by dsimp only; omega, by dsimp only; omega⟩
  · unfold insP
    split
    · exact hz
    · rename_i hok
      have hok' : okM M = true := by simpa using hok
      split
      · exact hz
      · rename_i xs met hn
        split
        · exact hz
        · split
          · exact hz
          · obtain ⟨r1, r2, r3⟩ := runE_keep 12 M (putE head m.prev m.node) 0 hok' hW (putE_ok hh hm.prev hm.node) (show (0 : Int) ≤ 0 by decide)
            have := nodesN_two hn hok'
            exact .inr ⟨by dsimp only; omega, by dsimp only; omega⟩
/-- A memory's rows lie elsewhere than a variable that holds a memory. -/
theorem memL_put {W W' : World} {Z wn wc' ln lc' : Nat} {wa' la' : Option Addr} {F : Bool} {wa la : Option Addr} {wc lc : Nat} {M : Mem} {u0 u1 u2 : Value} (hZ : W.heap[Z]? = some (.cells #[.slice wa' wn wc', .slice la' ln lc', .bool F] 25 (0, 0))) (h : MemL W wa wc la lc M) (h2 : Two M)
    (hW : W' = ((W.setCell ⟨Z, 0, none⟩ u0).setCell ⟨Z, 1, none⟩ u1).setCell ⟨Z, 2, none⟩ u2) : MemL W' wa wc la lc M := by
  rcases h2 with ⟨q1, q2⟩ | ⟨q1, q2⟩
  · obtain ⟨a1, a2, -⟩ := h.w
    obtain ⟨b1, b2, -⟩ := h.l
    exact ⟨⟨a1, a2, .inl ⟨q1, by rw [List.eq_nil_of_length_eq_zero q1]; rfl⟩⟩, ⟨b1, b2, .inl ⟨q2, by rw [List.eq_nil_of_length_eq_zero q2]; rfl⟩⟩⟩
  · have hc : ∀ j, W.cell? ⟨Z, j, none⟩ = (#[.slice wa' wn wc', .slice la' ln lc', .bool F] : Array Value)[j]? := fun j => cell_of_row W Z j _ _ _ hZ
    have aw : apartA wa Z := by
      rintro b off e rfl
      obtain ⟨-, -, ⟨z, -⟩ | ⟨b', o', e', -, hcell⟩⟩ := h.w
      · omega
      · rw [e] at e'
        simp only [Option.some.injEq, Addr.mk.injEq, and_true] at e'
        obtain ⟨rfl, rfl⟩ := e'
        obtain ⟨x, hx⟩ : ∃ x, M.W[0]? = some x := ⟨_, List.getElem?_eq_getElem (by omega)⟩
        have h1 := hcell 0 _ (wcell_at hx)
        rw [Nat.add_zero, hc] at h1
        match off, h1 with
        | 0, h1 => simp at h1
        | 1, h1 => simp at h1
        | 2, h1 => simp at h1
        | k + 3, h1 => simp at h1
    have al : apartA la Z := by
      rintro b off e rfl
      obtain ⟨-, -, ⟨z, -⟩ | ⟨b', o', e', -, hcell⟩⟩ := h.l
      · omega
      · rw [e] at e'
        simp only [Option.some.injEq, Addr.mk.injEq, and_true] at e'
        obtain ⟨rfl, rfl⟩ := e'
        obtain ⟨x, hx⟩ : ∃ x, M.L[0]? = some x := ⟨_, List.getElem?_eq_getElem (by omega)⟩
        obtain ⟨y, hy⟩ : ∃ x, M.L[1]? = some x := ⟨_, List.getElem?_eq_getElem (by omega)⟩
        have h1 := hcell 0 _ (bcell_at hx)
        have h2 := hcell 1 _ (bcell_at hy)
        rw [Nat.add_zero, hc] at h1
        rw [hc] at h2
        match off, h1, h2 with
        | 0, h1, _ => simp at h1
        | 1, h1, _ => simp at h1
        | 2, _, h2 => simp at h2
        | k + 3, h1, _ => simp at h1
    rw [hW]
    exact ⟨((h.w.setNe aw).setNe aw).setNe aw, ((h.l.setNe al).setNe al).setNe al⟩
/-- Worlds in which two variables lie so. -/
structure RMV (X Y : Nat) (cs cs' : Array Value) where
  w : World
  bx : w.heap[X]? = some (.cells cs 25 (0, 0))
  by_ : w.heap[Y]? = some (.cells cs' 49 (0, 0))
/-- Between two rounds. -/
structure Edq (V : World) (Mb : Nat) (wak : Option Addr) (wck : Nat) (lak : Option Addr) (lck : Nat) (Mk : Mem) (W : World) : Prop where
  bm : W.heap[Mb]? = some (.cells #[.slice wak Mk.W.length wck, .slice lak Mk.L.length lck, .bool Mk.F] 25 (0, 0))
  mem : MemO V.heap.size wak wck lak lck Mk W
  below : Below V.heap.size V W
  wok : Wok Mk
  len : Mk.W.length ≤ 48 ∧ Mk.L.length ≤ 48
theorem Edq.grow {V W W' : World} {Mb : Nat} {wak lak : Option Addr} {wck lck : Nat} {Mk : Mem} (h : Edq V Mb wak wck lak lck Mk W) (hb : Below W.heap.size W W') : Edq V Mb wak wck lak lck Mk W' :=
  ⟨keep_laid h.bm hb, h.mem.grow hb, h.below.trans (hb.mono h.below.size), h.wok, h.len⟩
theorem Edq.keep {V W W' : World} {Mb : Nat} {wak lak : Option Addr} {wck lck : Nat} {Mk : Mem} (h : Edq V Mb wak wck lak lck Mk W) (N : Nat) (hk : ∀ (k : Nat) (o : Obj), k < N → W.heap[k]? = some o → W'.heap[k]? = some o) (hm : Mb < N) (hmem : ∀ k, (.slice wak Mk.W.length wck : Value).ownBlock = some k ∨ (.slice lak Mk.L.length lck : Value).ownBlock = some k → k < N) (hb : Below V.heap.size V W') : Edq V Mb wak wck lak lck Mk W' :=
  ⟨hk _ _ hm h.bm, ⟨own_keep h.mem.w fun k o e ho => hk k o (hmem k (.inl e)) ho, own_keep h.mem.l fun k o e ho => hk k o (hmem k (.inr e)) ho⟩, hb, h.wok, h.len⟩
theorem Edq.spoilt {V W W' : World} {Mb B : Nat} {wak lak wb lb : Option Addr} {wck lck wd ld : Nat} {Mk N' : Mem} (h : Edq V Mb wak wck lak lck Mk W) (hn : MemO B wb wd lb ld N' W) (hs : spK B (.slice wb N'.W.length wd) (.slice lb N'.L.length ld) W W') (hB : V.heap.size ≤ B) (hm : ∀ k, (.slice wak Mk.W.length wck : Value).ownBlock = some k ∨ (.slice lak Mk.L.length lck : Value).ownBlock = some k → k < B) : Edq V Mb wak wck lak lck Mk W' :=
  ⟨hs.box hn h.bm (by decide) (by decide), h.mem.later hn hs (.inl hm), h.below.trans (hs.1.mono hB), h.wok, h.len⟩
/-- What the document's list is. -/
def PreP (Mk : Mem) (head : Nat) (b : Bool) (c : Nat) (tv : Value) (W : World) : Prop :=
  (b = false ∧ ((okM Mk = false ∧ c = 120) ∨ (okM Mk = true ∧ nodesN Mk head = none ∧ c = 260))) ∨ (b = true ∧ okM Mk = true ∧ ∃ xs met vx vy, nodesN Mk head = some (xs, met) ∧ tv = .slice vx xs.length vy ∧ Leads W vx xs.length vy (twcells xs))
theorem PreP.grow {Mk : Mem} {head : Nat} {b : Bool} {c : Nat} {tv : Value} {W W' : World} (h : PreP Mk head b c tv W) (hb : Below W.heap.size W W') : PreP Mk head b c tv W' := by
  rcases h with h | ⟨h1, h2, xs, met, vx, vy, h3, h4, h5⟩
  · exact .inl h
  · exact .inr ⟨h1, h2, xs, met, vx, vy, h3, h4, h5.grow hb⟩
theorem resP_no {Mk : Mem} {head c : Nat} {m : Mv} (h : (okM Mk = false ∧ c = 120) ∨ (okM Mk = true ∧ nodesN Mk head = none ∧ c = 260)) : resP Mk head m = (zeroM, 0, c) := by
  unfold resP
  rcases h with ⟨h1, rfl⟩ | ⟨h1, h2, rfl⟩
  · split
    · exact rem_bad h1
    · exact ins_bad h1
  · split
    · exact rem_none h1 h2
    · exact ins_none h1 h2

set_option maxRecDepth 100000 in
set_option maxHeartbeats 16000000 in
theorem edits_walk (M : Mem) (head : Nat) (ms : List Mv) (wa la : Option Addr) (wc0M lc : Nat) (a : Option Addr) (n cap : Nat) (V : World) (h : MemL V wa wc0M la lc M) (hW : Wok M) (hh : head < 18446744073709551616) (hl : ms.length = n) (hle : Leads V a n cap (mvcells ms)) (hmb : ∀ m ∈ ms, m.Ok) :
    Calls Try.prog 4 #[memV wa wc0M la lc M, .int .u64 ((head : Nat) : Int), .slice a n cap] V (Ret (.bool true) V) := by
  obtain ⟨V1, hV1, hb1, hs1, hl1⟩ := laid V #[.slice wa M.W.length wc0M, .slice la M.L.length lc, .bool M.F] 25
  obtain ⟨Xm, hXm⟩ : ∃ X, V.heap.size = X := ⟨_, rfl⟩
  rw [hXm] at hl1
  have HX2 := hid hl1
  have HB2 := hid hb1
  have HWK := hid (take48_wok hW)
  have HH := hid hh
  have HMB := hid hmb
  have HLN := hid hl
  have HLE := hid hle
  have hwl := h.w.len
  have hll := h.l.len
  have hnl := hle.len
  have HOWN : Hid (∀ W : World, Below V.heap.size V W → Calls Try.prog 8 #[.agg #[.slice wa M.W.length wc0M, .slice la M.L.length lc, .bool M.F]] W (GivesM (take48 M) W)) := hid (fun W hb => lawown_any M wa la wc0M lc W (h.grow hb))
  have HLEN := hid (take48_len M)
  obtain ⟨Mz, hMz⟩ : ∃ Mk, take48 M = Mk := ⟨_, rfl⟩
  rw [hMz] at HOWN HWK HLEN
  unfold memV
  clear h hW hmb hl hle hh hb1 hs1 hl1 hMz
  go_enter Try.func4, Try.ntmps4
  go_wp2_with fail
  refine (wakes_any V1).mono ?_
  rintro e V3 ⟨rfl, hb3⟩
  obtain ⟨x0, x1, x2⟩ := cells3 (keep_laid HX2.out hb3)
  have HB3 := hid (step HB2.out hb3)
  clear hb3
  go_wp2_with fail
  refine (HOWN.out V3 HB3.out).mono ?_
  rintro e V4 ⟨wa0, wc0, la0, lc0, rfl, hO, hb4⟩
  obtain ⟨V5, hV5, hb5, hs5, hl5⟩ := laid V4 #[.slice none 0 0, .slice none 0 0, .bool false] 25
  obtain ⟨Mb, hMb⟩ : ∃ X, V4.heap.size = X := ⟨_, rfl⟩
  rw [hMb] at hl5
  obtain ⟨V6, hV6, hl6, hk6, hb6, hm6⟩ := put_mem hl5 (.slice wa0 Mz.W.length wc0) (.slice la0 Mz.L.length lc0) (.bool Mz.F)
  have hVM : V.heap.size ≤ Mb := by have := HB3.out.size; have := hb4.size; omega
  have HS6 : Hid (Edq V Mb wa0 wc0 la0 lc0 Mz V6) := hid ⟨hl6, (hm6 _ _ _ _ _ _ ((hO.base HB3.out.size).grow hb5)), hb6 _ _ (by omega) (step (step HB3.out hb4) hb5), HWK.out, HLEN.out⟩
  have HV6 := hid hV6
  have z0 := cell_laid (i := 0) hl5 rfl
  have zf0 := free_laid (i := 0) hl5
  have z1 := cell_laid (i := 1) hl5 rfl
  have zf1 := free_laid (i := 1) hl5
  have z2 := cell_laid (i := 2) hl5 rfl
  have zf2 := free_laid (i := 2) hl5
  rw [show memV wa0 wc0 la0 lc0 Mz = .agg #[.slice wa0 Mz.W.length wc0, .slice la0 Mz.L.length lc0, .bool Mz.F] from rfl]
  clear hb4 hb5 hs5 hl5 hV6 hl6 hk6 hb6 hm6 hO x0 x1 x2 HX2 HB2 HB3 HOWN HWK HLEN
  go_upto_region 4 with (fail)
  rw [← HV6.out]
  clear z0 zf0 z1 zf1 z2 zf2 HV6
  go_wp2
  go_loopg [24] n (fun g t24 wr => ∃ (k : Nat) (wak : Option Addr) (wck : Nat) (lak : Option Addr) (lck : Nat) (Mk : Mem), g + k = n ∧ t24 = .int .i64 ((k : Nat) : Int) ∧ Hid (Edq V Mb wak wck lak lck Mk wr))
  case atStart => exact ⟨0, _, _, _, _, _, rfl, rfl, HS6⟩
  case round =>
    clear HS6
    obtain ⟨k, wak, wck, lak, lck, Mk, hk, rfl, hS⟩ := hrel
    have HK := hid hk
    clear hk
    by_cases hlt : k < n
    · obtain ⟨⟨cuts, prev, p, q, r⟩, hmk⟩ : ∃ x, ms[k]? = some x := ⟨_, List.getElem?_eq_getElem (by rw [HLN.out]; exact hlt)⟩
      have HMO := hid (HMB.out _ (List.mem_of_getElem? hmk))
      obtain ⟨b1, o1, rfl, hc1⟩ : ∃ b o, a = some ⟨b, o, none⟩ ∧ ∀ i v, (mvcells ms)[i]? = some v → wr.cell? ⟨b, o + i, none⟩ = some v := by
        obtain ⟨_, _, ⟨h, _⟩ | ⟨b, off, e, _, h4⟩⟩ := HLE.out.grow hS.out.below
        · omega
        · exact ⟨b, off, e, h4⟩
      have c0 : wr.cell? ⟨b1, o1 + k * 5, none⟩ = some (.bool cuts) := hc1 (k * 5 + 0) _ (mvcells_at hmk (show 0 < 5 by decide))
      have c1 : wr.cell? ⟨b1, o1 + k * 5 + 1, none⟩ = some (.int .u64 ((prev : Nat) : Int)) := hc1 (k * 5 + 1) _ (mvcells_at hmk (show 1 < 5 by decide))
      have c2 : wr.cell? ⟨b1, o1 + k * 5 + 2, none⟩ = some (.int .u64 ((p : Nat) : Int)) := hc1 (k * 5 + 2) _ (mvcells_at hmk (show 2 < 5 by decide))
      have c3 : wr.cell? ⟨b1, o1 + k * 5 + 3, none⟩ = some (.int .u64 ((q : Nat) : Int)) := hc1 (k * 5 + 3) _ (mvcells_at hmk (show 3 < 5 by decide))
      have c4 : wr.cell? ⟨b1, o1 + k * 5 + 4, none⟩ = some (.int .u64 ((r : Nat) : Int)) := hc1 (k * 5 + 4) _ (mvcells_at hmk (show 4 < 5 by decide))
      obtain ⟨w1, hw1, hb1, hs1, hl1⟩ := laid wr #[.bool false, .int .u64 0, .int .u64 0, .int .u64 0, .int .u64 0] 49
      obtain ⟨B9, hB9⟩ : ∃ X, wr.heap.size = X := ⟨_, rfl⟩
      rw [hB9] at hl1
      obtain ⟨w2, hw2, a1, a2, a3, a4⟩ := putM5 hl1 (.bool cuts) (.int .u64 ((prev : Nat) : Int)) (.int .u64 ((p : Nat) : Int)) (.int .u64 ((q : Nat) : Int)) (.int .u64 ((r : Nat) : Int))
      have z0 := cell_laid (i := 0) hl1 rfl
      have zf0 := free_laid (i := 0) hl1
      have z1 := cell_laid (i := 1) hl1 rfl
      have zf1 := free_laid (i := 1) hl1
      have z2 := cell_laid (i := 2) hl1 rfl
      have zf2 := free_laid (i := 2) hl1
      have z3 := cell_laid (i := 3) hl1 rfl
      have zf3 := free_laid (i := 3) hl1
      have z4 := cell_laid (i := 4) hl1 rfl
      have zf4 := free_laid (i := 4) hl1
      have hVB : V.heap.size ≤ B9 := by have := hS.out.below.size; omega
      have hMB9 : Mb < B9 := by have := lt_laid hS.out.bm; omega
      have HS := hid ((hS.out.grow hb1).keep B9 (fun k o hk ho => a2 k o (by omega) ho) hMB9 (fun k hk => by have := hS.out.mem.below k hk; omega) (a3 _ _ hVB (hS.out.below.trans (hb1.mono hS.out.below.size))))
      have H9 := hid a1
      have HW2 := hid hw2
      have hw2s : wr.heap.size ≤ w2.heap.size := by have := lt_laid a1; omega
      clear hc1 hmk hb1 hs1 hl1 hw2 a1 a2 a3 a4
      go_upto_region 7 with (fail)
      rw [← HW2.out]
      clear c0 c1 c2 c3 c4 z0 z1 z2 z3 z4 zf0 zf1 zf2 zf3 zf4 HW2
      by_cases h8 : k = 8
      · have t8 : (((k : Nat) : Int) == 8) = true := by simp; omega
        go_wp2
        go_ret
        exact ⟨rfl, HS.out.below⟩
      · have t8 : (((k : Nat) : Int) == 8) = false := by simp; omega
        have HRI := hid (RefRight_any Mk wak lak wck lck w2 HS.out.mem.memL)
        unfold memV at HRI
        have hwlk := HS.out.mem.memL.w.len
        have hllk := HS.out.mem.memL.l.len
        obtain ⟨m0, m1, m2⟩ := cells3 HS.out.bm
        clear h8
        go_wp2_with fail
        refine HRI.out.mono ?_
        rintro e w3 ⟨rfl, hbn⟩
        have hw3s := Nat.le_trans hw2s hbn.size
        have HS_1 := hid (HS.out.grow hbn)
        have H9_2 := hid (keep_laid H9.out hbn)
        clear HS H9 hbn m0 m1 m2 HRI t8
        have HLOW := hid hS.out.mem.below
        clear hS
        go_upto_if 32 with (fail)
        go_cut [10, 11, 12] (fun t10 t11 t12 W => ∃ tv b c, t10 = tv ∧ t11 = .bool b ∧ t12 = .int .i64 ((c : Nat) : Int) ∧ Hid (Edq V Mb wak wck lak lck Mk W ∧ W.heap[B9]? = some (.cells #[.bool cuts, .int .u64 ((prev : Nat) : Int), .int .u64 ((p : Nat) : Int), .int .u64 ((q : Nat) : Int), .int .u64 ((r : Nat) : Int)] 49 (0, 0)) ∧ w3.heap.size ≤ W.heap.size ∧ PreP Mk head b c tv W))
        case first =>
          cases hok : okM Mk with
          | false =>
            have HOK := hid hok
            clear hok
            go_wp2
            go_meet
            exact ⟨_, false, 120, rfl, rfl, rfl, hid ⟨HS_1.out, H9_2.out, Nat.le_refl _, .inl ⟨rfl, .inl ⟨HOK.out, rfl⟩⟩⟩⟩
          | true =>
            have HOK := hid hok
            have HRN := hid (rNodes_any Mk wak lak wck lck head w3 HS_1.out.mem.memL hok HH.out HS_1.out.wok)
            unfold memV GivesW at HRN
            obtain ⟨m0, m1, m2⟩ := cells3 HS_1.out.bm
            clear hok
            go_wp2_with fail
            refine HRN.out.mono ?_
            rintro e w4 ⟨vw, bw, rfl, hbn, hno, hso⟩
            have hs4 := hbn.size
            have HS_3 := hid (HS_1.out.grow hbn)
            have H9_4 := hid (keep_laid H9_2.out hbn)
            clear HS_1 H9_2 hbn m0 m1 m2
            cases hnn : nodesN Mk head with
            | none =>
              obtain rfl := hno hnn
              have HNN := hid hnn
              clear hso hnn hno
              go_wp2
              go_meet
              exact ⟨_, false, 260, rfl, rfl, rfl, hid ⟨HS_3.out, H9_4.out, hs4, .inl ⟨rfl, .inr ⟨HOK.out, HNN.out, rfl⟩⟩⟩⟩
            | some r' =>
              obtain ⟨xs, met⟩ := r'
              obtain ⟨rfl, hro⟩ := hso xs met hnn
              obtain ⟨vx, vy, rfl, hlx⟩ := Leads.of_own hro
              have hxl := hlx.len
              have HNN := hid hnn
              have HLX := hid hlx
              clear hno hso hnn hro hlx
              go_wp2
              go_meet
              exact ⟨_, true, 120, rfl, rfl, rfl, hid ⟨HS_3.out, H9_4.out, hs4, .inr ⟨rfl, HOK.out, xs, met, vx, vy, HNN.out, rfl, HLX.out⟩⟩⟩
        case rest =>
          clear HS_1 H9_2
          obtain ⟨tv, b, c, rfl, rfl, rfl, hcc⟩ := hcut
          obtain ⟨w4, hw4⟩ : ∃ W, W = wc := ⟨_, rfl⟩
          subst hw4
          have HS := hid hcc.out.1
          have H9 := hid hcc.out.2.1
          have HP := hid hcc.out.2.2.2
          have hw4s := Nat.le_trans hw3s hcc.out.2.2.1
          clear hcc hw3s
          obtain ⟨⟨Mn, st, code⟩, hR⟩ : ∃ R, resP Mk head ⟨cuts, prev, p, q, r⟩ = R := ⟨_, rfl⟩
          have HF : Hid (Wok Mn ∧ (Mn.W.length ≤ 48 ∧ Mn.L.length ≤ 48)) := hid (by have := resP_facts HS.out.wok HH.out HMO.out HS.out.len; rw [hR] at this; exact this)
          have HTW : Hid (Two Mn) := hid (by have := resP_two HS.out.wok HH.out HMO.out; rw [hR] at this; exact this)
          have HR := hid hR
          clear hR
          obtain ⟨w5, hw5, hbn, hsn, hl5⟩ := laid w4 #[.slice none 0 0, .slice none 0 0, .bool false] 25
          obtain ⟨B13, hB13⟩ : ∃ X, w4.heap.size = X := ⟨_, rfl⟩
          rw [hB13] at hl5
          have h913 : B9 < B13 := by have := lt_laid H9.out; omega
          have HBK_3 : Hid (Below w4.heap.size w4 w4) := hid (Below.refl _ _)
          have HS_4 := hid (HS.out.grow hbn)
          have H9_5 := hid (keep_laid H9.out hbn)
          have HBK_6 := hid (HBK_3.out.trans (hbn.mono HBK_3.out.size))
          clear HS H9 HBK_3 hbn
          have H13_7 := hid (hl5)
          obtain ⟨w6, hw6, hbn, hsn6, hl6⟩ := laid w5 #[.slice none 0 0, .slice none 0 0, .bool false] 25
          obtain ⟨B14, hB14⟩ : ∃ X, w5.heap.size = X := ⟨_, rfl⟩
          rw [hB14] at hl6
          have h1314 : B13 < B14 := by omega
          have HS_8 := hid (HS_4.out.grow hbn)
          have H9_9 := hid (keep_laid H9_5.out hbn)
          have HBK_10 := hid (HBK_6.out.trans (hbn.mono HBK_6.out.size))
          have H13_11 := hid (keep_laid H13_7.out hbn)
          clear HS_4 H9_5 HBK_6 H13_7 hbn
          have H14_12 := hid (hl6)
          have hw6s : wr.heap.size ≤ w6.heap.size := by omega
          have p0 := cell_laid (i := 0) H9_9.out rfl
          clear hl5 hl6 hsn
          go_upto_if 42 with (fail)
          clear p0
          go_cut [12, 15, 16, 17] (fun t12 t15 t16 t17 W => t12 = .int .i64 ((code : Nat) : Int) ∧ t15 = .int .i64 ((st : Nat) : Int) ∧ t16 = .int .i64 ((st : Nat) : Int) ∧ t17 = .int .i64 ((code : Nat) : Int) ∧ Hid (∃ wan wcn lan lcn waw wcw law lcw, Edq V Mb wak wck lak lck Mk W ∧ MemO wr.heap.size wan wcn lan lcn Mn W ∧ W.heap[B13]? = some (.cells #[.slice wan Mn.W.length wcn, .slice lan Mn.L.length lcn, .bool Mn.F] 25 (0, 0)) ∧ W.heap[B14]? = some (.cells #[.slice waw Mn.W.length wcw, .slice law Mn.L.length lcw, .bool Mn.F] 25 (0, 0)) ∧ MemL W waw wcw law lcw Mn))
          case first =>
            cases cuts with
            | true =>
              have HRR : Hid (remP Mk head p = (Mn, st, code)) := hid (by have := HR.out; unfold resP at this; rw [if_pos rfl] at this; exact this)
              obtain ⟨m0, m1, m2⟩ := cells3 HS_8.out.bm
              have hwlk := HS_8.out.mem.memL.w.len
              have hllk := HS_8.out.mem.memL.l.len
              have p0 := cell_laid (i := 0) H9_9.out rfl
              have p1 := cell_laid (i := 1) H9_9.out rfl
              have p2 := cell_laid (i := 2) H9_9.out rfl
              have p3 := cell_laid (i := 3) H9_9.out rfl
              have p4 := cell_laid (i := 4) H9_9.out rfl
              have HCA := hid (Remove_any Mk wak lak wck lck head p w6 HS_8.out.mem.memL HH.out HMO.out.node.1 HS_8.out.wok)
              rw [HRR.out] at HCA
              unfold GivesI memV at HCA
              dsimp only at HCA
              go_wp2_with fail
              refine HCA.out.mono ?_
              rintro e w7 ⟨wan, wcn, lan, lcn, rfl, hO, hbn⟩
              have hw7s := hbn.size
              have hs7 := hbn.size
              have HS_13 := hid (HS_8.out.grow hbn)
              have H9_14 := hid (keep_laid H9_9.out hbn)
              have HBK_15 := hid (HBK_10.out.trans (hbn.mono HBK_10.out.size))
              have H13_16 := hid (keep_laid H13_11.out hbn)
              have H14_17 := hid (keep_laid H14_12.out hbn)
              clear HS_8 H9_9 HBK_10 H13_11 H14_12 hbn m0 m1 m2 p0 p1 p2 p3 p4 HCA
              have HO_18 := hid (hO.base hw6s)
              obtain ⟨w8, hw8, a1, a2, a3, a4⟩ := put_mem H13_16.out (.slice wan Mn.W.length wcn) (.slice lan Mn.L.length lcn) (.bool Mn.F)
              have z0 := cell_laid (i := 0) H13_16.out rfl
              have zf0 := free_laid (i := 0) H13_16.out
              have z1 := cell_laid (i := 1) H13_16.out rfl
              have zf1 := free_laid (i := 1) H13_16.out
              have z2 := cell_laid (i := 2) H13_16.out rfl
              have zf2 := free_laid (i := 2) H13_16.out
              have HW8 := hid hw8
              have HS_19 := hid (HS_13.out.keep B9 (fun k o hk ho => a2 k o (by omega) ho) hMB9 (fun k hk => by have := HLOW.out k hk; omega) (a3 _ _ (by omega) HS_13.out.below))
              have H9_20 := hid (a2 _ _ (by omega) H9_14.out)
              have HBK_21 := hid (a3 _ _ (by omega) HBK_15.out)
              have H13_22 := hid (a1)
              have H14_23 := hid (a2 _ _ (by omega) H14_17.out)
              have HO_24 := hid (a4 _ _ _ _ _ _ HO_18.out)
              clear HS_13 H9_14 HBK_15 H13_16 H14_17 HO_18 a1 a2 a3 a4 hw8
              go_upto_region 19 with (fail)
              rw [← HW8.out]
              clear z0 z1 z2 zf0 zf1 zf2
              rcases HP.out with ⟨rfl, hno⟩ | ⟨rfl, hok, xs, met, vx, vy, hnn, rfl, hlx⟩
              · obtain ⟨rfl, rfl, rfl⟩ : Mn = zeroM ∧ st = 0 ∧ code = c := by
                  have h1 := HR.out
                  rw [resP_no hno] at h1
                  simp only [Prod.mk.injEq] at h1
                  exact ⟨h1.1.symm, h1.2.1.symm, h1.2.2.symm⟩
                clear hno HP HR HRR
                go_wp2
                go_meet
                exact ⟨rfl, rfl, rfl, rfl, hid ⟨_, _, _, _, none, 0, none, 0, HS_19.out, HO_24.out, H13_22.out, H14_23.out, ⟨⟨Nat.le_refl _, Nat.zero_le _, .inl ⟨rfl, rfl⟩⟩, ⟨Nat.le_refl _, Nat.zero_le _, .inl ⟨rfl, rfl⟩⟩⟩⟩⟩
              · have HOK := hid hok
                have HNN := hid hnn
                have HXT := hid (nodesN_small hnn HS_19.out.wok)
                have HX5 := hid (nodesN_len hnn hok).1
                have hxl := hlx.len
                have HLX := hid (hlx.grow HBK_21.out)
                have HRF : Hid (rremP Mk head p xs = (Mn, st, code)) := hid (by rw [← HRR.out]; exact (rem_eq hok hnn).symm)
                clear HP hok hnn hlx HRR
                go_upto_region 20 with (fail)
                obtain ⟨D, hD⟩ : ∃ DX, w8.drew = DX := ⟨_, rfl⟩
                have hbn : Below w8.heap.size w8 D := by rw [← hD]; exact (Below.refl _ _).drew
                have HD := hid hD
                have HS_25 := hid (HS_19.out.grow hbn)
                have H9_26 := hid (keep_laid H9_20.out hbn)
                have HBK_27 := hid (HBK_21.out.trans (hbn.mono HBK_21.out.size))
                have H13_28 := hid (keep_laid H13_22.out hbn)
                have H14_29 := hid (keep_laid H14_23.out hbn)
                have HO_30 := hid (HO_24.out.grow hbn)
                have HLX_31 := hid (HLX.out.grow hbn)
                clear HS_19 H9_20 HBK_21 H13_22 H14_23 HO_24 HLX hbn hD
                have HOW : Hid (Calls Try.prog 8 #[.agg #[.slice wak Mk.W.length wck, .slice lak Mk.L.length lck, .bool Mk.F]] D (GivesM Mk D)) := hid (by have := lawown_any Mk wak lak wck lck D HS_25.out.mem.memL; rw [take48_id HS_25.out.len.1 HS_25.out.len.2] at this; exact this)
                haveI : Nonempty (RMV Mb B9 #[.slice wak Mk.W.length wck, .slice lak Mk.L.length lck, .bool Mk.F] #[.bool true, .int .u64 ((prev : Nat) : Int), .int .u64 ((p : Nat) : Int), .int .u64 ((q : Nat) : Int), .int .u64 ((r : Nat) : Int)]) := ⟨⟨D, HS_25.out.bm, H9_26.out⟩⟩
                have r0 : ∀ z : RMV Mb B9 #[.slice wak Mk.W.length wck, .slice lak Mk.L.length lck, .bool Mk.F] #[.bool true, .int .u64 ((prev : Nat) : Int), .int .u64 ((p : Nat) : Int), .int .u64 ((q : Nat) : Int), .int .u64 ((r : Nat) : Int)], z.w.cell? ⟨Mb, 0, none⟩ = some (.slice wak Mk.W.length wck) := fun z => cell_laid z.bx rfl
                have r1 : ∀ z : RMV Mb B9 #[.slice wak Mk.W.length wck, .slice lak Mk.L.length lck, .bool Mk.F] #[.bool true, .int .u64 ((prev : Nat) : Int), .int .u64 ((p : Nat) : Int), .int .u64 ((q : Nat) : Int), .int .u64 ((r : Nat) : Int)], z.w.cell? ⟨Mb, 1, none⟩ = some (.slice lak Mk.L.length lck) := fun z => cell_laid z.bx rfl
                have r2 : ∀ z : RMV Mb B9 #[.slice wak Mk.W.length wck, .slice lak Mk.L.length lck, .bool Mk.F] #[.bool true, .int .u64 ((prev : Nat) : Int), .int .u64 ((p : Nat) : Int), .int .u64 ((q : Nat) : Int), .int .u64 ((r : Nat) : Int)], z.w.cell? ⟨Mb, 2, none⟩ = some (.bool Mk.F) := fun z => cell_laid z.bx rfl
                have p0 : ∀ z : RMV Mb B9 #[.slice wak Mk.W.length wck, .slice lak Mk.L.length lck, .bool Mk.F] #[.bool true, .int .u64 ((prev : Nat) : Int), .int .u64 ((p : Nat) : Int), .int .u64 ((q : Nat) : Int), .int .u64 ((r : Nat) : Int)], z.w.cell? ⟨B9, 0, none⟩ = some (.bool true) := fun z => cell_laid z.by_ rfl
                have p1 : ∀ z : RMV Mb B9 #[.slice wak Mk.W.length wck, .slice lak Mk.L.length lck, .bool Mk.F] #[.bool true, .int .u64 ((prev : Nat) : Int), .int .u64 ((p : Nat) : Int), .int .u64 ((q : Nat) : Int), .int .u64 ((r : Nat) : Int)], z.w.cell? ⟨B9, 1, none⟩ = some (.int .u64 ((prev : Nat) : Int)) := fun z => cell_laid z.by_ rfl
                have p2 : ∀ z : RMV Mb B9 #[.slice wak Mk.W.length wck, .slice lak Mk.L.length lck, .bool Mk.F] #[.bool true, .int .u64 ((prev : Nat) : Int), .int .u64 ((p : Nat) : Int), .int .u64 ((q : Nat) : Int), .int .u64 ((r : Nat) : Int)], z.w.cell? ⟨B9, 2, none⟩ = some (.int .u64 ((p : Nat) : Int)) := fun z => cell_laid z.by_ rfl
                have p3 : ∀ z : RMV Mb B9 #[.slice wak Mk.W.length wck, .slice lak Mk.L.length lck, .bool Mk.F] #[.bool true, .int .u64 ((prev : Nat) : Int), .int .u64 ((p : Nat) : Int), .int .u64 ((q : Nat) : Int), .int .u64 ((r : Nat) : Int)], z.w.cell? ⟨B9, 3, none⟩ = some (.int .u64 ((q : Nat) : Int)) := fun z => cell_laid z.by_ rfl
                have p4 : ∀ z : RMV Mb B9 #[.slice wak Mk.W.length wck, .slice lak Mk.L.length lck, .bool Mk.F] #[.bool true, .int .u64 ((prev : Nat) : Int), .int .u64 ((p : Nat) : Int), .int .u64 ((q : Nat) : Int), .int .u64 ((r : Nat) : Int)], z.w.cell? ⟨B9, 4, none⟩ = some (.int .u64 ((r : Nat) : Int)) := fun z => cell_laid z.by_ rfl
                refine wp_region_mix2 (fun W => ∃ z : RMV Mb B9 #[.slice wak Mk.W.length wck, .slice lak Mk.L.length lck, .bool Mk.F] #[.bool true, .int .u64 ((prev : Nat) : Int), .int .u64 ((p : Nat) : Int), .int .u64 ((q : Nat) : Int), .int .u64 ((r : Nat) : Int)], W = z.w) 15 (.q 0 (.q 2 (.q 3 (.q 4 (.q 5 (.q 6 (.h 1 (.h 7 (.q 8 (.q 9 (.q 10 (.q 11 (.h 12 (.q 13 (.q 14 (.done)))))))))))))))) (by kernel_rfl) (by kernel_rfl) (by rw [HD.out]; exact ⟨⟨D, HS_25.out.bm, H9_26.out⟩, rfl⟩) ?_
                rw [HD.out]
                repeat (refine wpMix2_q rfl rfl ?_; go_big_quiet_step (fail); refine wpQuiet_nil ?_)
                refine wpMix2_h rfl fun R' hR' hO => ?_
                go_wp2_with fail
                refine HOW.out.mono ?_
                rintro e v1 ⟨wao, wco, lao, lco, rfl, hoo, hbn⟩
                have HRX := hid (rRemove_any Mk wao lao wco lco head p xs vx xs.length vy v1 hoo.memL HOK.out HS_25.out.wok HH.out HMO.out.node.1 (HLX_31.out.grow hbn) rfl)
                rw [HRF.out] at HRX
                unfold GivesRI memV at HRX
                dsimp only at HRX
                have HS_32 := hid (HS_25.out.grow hbn)
                have H9_33 := hid (keep_laid H9_26.out hbn)
                have HBK_34 := hid (HBK_27.out.trans (hbn.mono HBK_27.out.size))
                have H13_35 := hid (keep_laid H13_28.out hbn)
                have H14_36 := hid (keep_laid H14_29.out hbn)
                have HO_37 := hid (HO_30.out.grow hbn)
                have HLX_38 := hid (HLX_31.out.grow hbn)
                clear HS_25 H9_26 HBK_27 H13_28 H14_29 HO_30 HLX_31 hbn hoo
                unfold memV
                go_wp2
                refine hR' _ _ ⟨⟨v1, HS_32.out.bm, H9_33.out⟩, rfl⟩ ?_
                clear hR' hO R'
                refine wpMix2_h rfl fun R' hR' hO => ?_
                go_wp2_with fail
                refine HRX.out.mono ?_
                rintro e v2 ⟨waw, wcw, law, lcw, rfl, hmw, hbn⟩
                have HS_39 := hid (HS_32.out.grow hbn)
                have H9_40 := hid (keep_laid H9_33.out hbn)
                have HBK_41 := hid (HBK_34.out.trans (hbn.mono HBK_34.out.size))
                have H13_42 := hid (keep_laid H13_35.out hbn)
                have H14_43 := hid (keep_laid H14_36.out hbn)
                have HO_44 := hid (HO_37.out.grow hbn)
                have HLX_45 := hid (HLX_38.out.grow hbn)
                clear HS_32 H9_33 HBK_34 H13_35 H14_36 HO_37 HLX_38 hbn
                have HMW_46 := hid (hmw)
                clear hmw
                go_wp2
                refine hR' _ _ ⟨⟨v2, HS_39.out.bm, H9_40.out⟩, rfl⟩ ?_
                clear hR' hO R'
                repeat (refine wpMix2_q rfl rfl ?_; go_big_quiet_step (fail); refine wpQuiet_nil ?_)
                obtain ⟨v3, hv3, a1, a2, a3, a4⟩ := put_mem H14_43.out (.slice waw Mn.W.length wcw) (.slice law Mn.L.length lcw) (.bool Mn.F)
                have z0 := cell_laid (i := 0) H14_43.out rfl
                have zf0 := free_laid (i := 0) H14_43.out
                have z1 := cell_laid (i := 1) H14_43.out rfl
                have zf1 := free_laid (i := 1) H14_43.out
                have z2 := cell_laid (i := 2) H14_43.out rfl
                have zf2 := free_laid (i := 2) H14_43.out
                have HEQ := hid hv3
                clear HLX_45
                have HS_47 := hid (HS_39.out.keep B9 (fun k o hk ho => a2 k o (by omega) ho) hMB9 (fun k hk => by have := HLOW.out k hk; omega) (a3 _ _ (by omega) HS_39.out.below))
                have H9_48 := hid (a2 _ _ (by omega) H9_40.out)
                have HBK_49 := hid (a3 _ _ (by omega) HBK_41.out)
                have H13_50 := hid (a2 _ _ (by omega) H13_42.out)
                have H14_51 := hid (a1)
                have HO_52 := hid (a4 _ _ _ _ _ _ HO_44.out)
                have HMW_53 := hid (memL_put H14_43.out HMW_46.out HTW.out HEQ.out)
                clear HS_39 H9_40 HBK_41 H13_42 H14_43 HO_44 HMW_46 a1 a2 a3 a4 hv3
                refine wpMix2_h rfl fun R' hR' hO => ?_
                go_wp2
                rw [← HEQ.out]
                refine hR' _ _ ⟨⟨v3, HS_47.out.bm, H9_48.out⟩, rfl⟩ ?_
                clear hR' hO R'
                repeat (refine wpMix2_q rfl rfl ?_; go_big_quiet_step (fail); refine wpQuiet_nil ?_)
                refine wpMix2_done ?_
                simp only [List.drop_succ_cons, List.drop_nil]
                go_wp2
                go_meet
                exact ⟨rfl, rfl, rfl, rfl, hid ⟨_, _, _, _, _, _, _, _, HS_47.out, HO_52.out, H13_50.out, H14_51.out, HMW_53.out⟩⟩
            | false =>
              have HRR : Hid (insP Mk head prev (p, q, r) = (Mn, st, code)) := hid (by have := HR.out; unfold resP at this; rw [if_neg (fun h => Bool.noConfusion h)] at this; exact this)
              obtain ⟨m0, m1, m2⟩ := cells3 HS_8.out.bm
              have hwlk := HS_8.out.mem.memL.w.len
              have hllk := HS_8.out.mem.memL.l.len
              have p0 := cell_laid (i := 0) H9_9.out rfl
              have p1 := cell_laid (i := 1) H9_9.out rfl
              have p2 := cell_laid (i := 2) H9_9.out rfl
              have p3 := cell_laid (i := 3) H9_9.out rfl
              have p4 := cell_laid (i := 4) H9_9.out rfl
              have HCA := hid (Insert_any Mk wak lak wck lck head prev (p, q, r) w6 HS_8.out.mem.memL HH.out HMO.out.prev HMO.out.node HS_8.out.wok)
              rw [HRR.out] at HCA
              unfold GivesI memV twV at HCA
              dsimp only at HCA
              go_wp2_with fail
              refine HCA.out.mono ?_
              rintro e w7 ⟨wan, wcn, lan, lcn, rfl, hO, hbn⟩
              have hw7s := hbn.size
              have hs7 := hbn.size
              have HS_13 := hid (HS_8.out.grow hbn)
              have H9_14 := hid (keep_laid H9_9.out hbn)
              have HBK_15 := hid (HBK_10.out.trans (hbn.mono HBK_10.out.size))
              have H13_16 := hid (keep_laid H13_11.out hbn)
              have H14_17 := hid (keep_laid H14_12.out hbn)
              clear HS_8 H9_9 HBK_10 H13_11 H14_12 hbn m0 m1 m2 p0 p1 p2 p3 p4 HCA
              have HO_18 := hid (hO.base hw6s)
              obtain ⟨w8, hw8, a1, a2, a3, a4⟩ := put_mem H13_16.out (.slice wan Mn.W.length wcn) (.slice lan Mn.L.length lcn) (.bool Mn.F)
              have z0 := cell_laid (i := 0) H13_16.out rfl
              have zf0 := free_laid (i := 0) H13_16.out
              have z1 := cell_laid (i := 1) H13_16.out rfl
              have zf1 := free_laid (i := 1) H13_16.out
              have z2 := cell_laid (i := 2) H13_16.out rfl
              have zf2 := free_laid (i := 2) H13_16.out
              have HW8 := hid hw8
              have HS_19 := hid (HS_13.out.keep B9 (fun k o hk ho => a2 k o (by omega) ho) hMB9 (fun k hk => by have := HLOW.out k hk; omega) (a3 _ _ (by omega) HS_13.out.below))
              have H9_20 := hid (a2 _ _ (by omega) H9_14.out)
              have HBK_21 := hid (a3 _ _ (by omega) HBK_15.out)
              have H13_22 := hid (a1)
              have H14_23 := hid (a2 _ _ (by omega) H14_17.out)
              have HO_24 := hid (a4 _ _ _ _ _ _ HO_18.out)
              clear HS_13 H9_14 HBK_15 H13_16 H14_17 HO_18 a1 a2 a3 a4 hw8
              go_upto_region 22 with (fail)
              rw [← HW8.out]
              clear z0 z1 z2 zf0 zf1 zf2
              rcases HP.out with ⟨rfl, hno⟩ | ⟨rfl, hok, xs, met, vx, vy, hnn, rfl, hlx⟩
              · obtain ⟨rfl, rfl, rfl⟩ : Mn = zeroM ∧ st = 0 ∧ code = c := by
                  have h1 := HR.out
                  rw [resP_no hno] at h1
                  simp only [Prod.mk.injEq] at h1
                  exact ⟨h1.1.symm, h1.2.1.symm, h1.2.2.symm⟩
                clear hno HP HR HRR
                go_wp2
                go_meet
                exact ⟨rfl, rfl, rfl, rfl, hid ⟨_, _, _, _, none, 0, none, 0, HS_19.out, HO_24.out, H13_22.out, H14_23.out, ⟨⟨Nat.le_refl _, Nat.zero_le _, .inl ⟨rfl, rfl⟩⟩, ⟨Nat.le_refl _, Nat.zero_le _, .inl ⟨rfl, rfl⟩⟩⟩⟩⟩
              · have HOK := hid hok
                have HNN := hid hnn
                have HXT := hid (nodesN_small hnn HS_19.out.wok)
                have HX5 := hid (nodesN_len hnn hok).1
                have hxl := hlx.len
                have HLX := hid (hlx.grow HBK_21.out)
                have HRF : Hid (rinsP Mk head prev xs (p, q, r) = (Mn, st, code)) := hid (by rw [← HRR.out]; exact (ins_eq hok hnn).symm)
                clear HP hok hnn hlx HRR
                go_upto_region 23 with (fail)
                obtain ⟨D, hD⟩ : ∃ DX, w8.drew = DX := ⟨_, rfl⟩
                have hbn : Below w8.heap.size w8 D := by rw [← hD]; exact (Below.refl _ _).drew
                have HD := hid hD
                have HS_25 := hid (HS_19.out.grow hbn)
                have H9_26 := hid (keep_laid H9_20.out hbn)
                have HBK_27 := hid (HBK_21.out.trans (hbn.mono HBK_21.out.size))
                have H13_28 := hid (keep_laid H13_22.out hbn)
                have H14_29 := hid (keep_laid H14_23.out hbn)
                have HO_30 := hid (HO_24.out.grow hbn)
                have HLX_31 := hid (HLX.out.grow hbn)
                clear HS_19 H9_20 HBK_21 H13_22 H14_23 HO_24 HLX hbn hD
                have HOW : Hid (Calls Try.prog 8 #[.agg #[.slice wak Mk.W.length wck, .slice lak Mk.L.length lck, .bool Mk.F]] D (GivesM Mk D)) := hid (by have := lawown_any Mk wak lak wck lck D HS_25.out.mem.memL; rw [take48_id HS_25.out.len.1 HS_25.out.len.2] at this; exact this)
                haveI : Nonempty (RMV Mb B9 #[.slice wak Mk.W.length wck, .slice lak Mk.L.length lck, .bool Mk.F] #[.bool false, .int .u64 ((prev : Nat) : Int), .int .u64 ((p : Nat) : Int), .int .u64 ((q : Nat) : Int), .int .u64 ((r : Nat) : Int)]) := ⟨⟨D, HS_25.out.bm, H9_26.out⟩⟩
                have r0 : ∀ z : RMV Mb B9 #[.slice wak Mk.W.length wck, .slice lak Mk.L.length lck, .bool Mk.F] #[.bool false, .int .u64 ((prev : Nat) : Int), .int .u64 ((p : Nat) : Int), .int .u64 ((q : Nat) : Int), .int .u64 ((r : Nat) : Int)], z.w.cell? ⟨Mb, 0, none⟩ = some (.slice wak Mk.W.length wck) := fun z => cell_laid z.bx rfl
                have r1 : ∀ z : RMV Mb B9 #[.slice wak Mk.W.length wck, .slice lak Mk.L.length lck, .bool Mk.F] #[.bool false, .int .u64 ((prev : Nat) : Int), .int .u64 ((p : Nat) : Int), .int .u64 ((q : Nat) : Int), .int .u64 ((r : Nat) : Int)], z.w.cell? ⟨Mb, 1, none⟩ = some (.slice lak Mk.L.length lck) := fun z => cell_laid z.bx rfl
                have r2 : ∀ z : RMV Mb B9 #[.slice wak Mk.W.length wck, .slice lak Mk.L.length lck, .bool Mk.F] #[.bool false, .int .u64 ((prev : Nat) : Int), .int .u64 ((p : Nat) : Int), .int .u64 ((q : Nat) : Int), .int .u64 ((r : Nat) : Int)], z.w.cell? ⟨Mb, 2, none⟩ = some (.bool Mk.F) := fun z => cell_laid z.bx rfl
                have p0 : ∀ z : RMV Mb B9 #[.slice wak Mk.W.length wck, .slice lak Mk.L.length lck, .bool Mk.F] #[.bool false, .int .u64 ((prev : Nat) : Int), .int .u64 ((p : Nat) : Int), .int .u64 ((q : Nat) : Int), .int .u64 ((r : Nat) : Int)], z.w.cell? ⟨B9, 0, none⟩ = some (.bool false) := fun z => cell_laid z.by_ rfl
                have p1 : ∀ z : RMV Mb B9 #[.slice wak Mk.W.length wck, .slice lak Mk.L.length lck, .bool Mk.F] #[.bool false, .int .u64 ((prev : Nat) : Int), .int .u64 ((p : Nat) : Int), .int .u64 ((q : Nat) : Int), .int .u64 ((r : Nat) : Int)], z.w.cell? ⟨B9, 1, none⟩ = some (.int .u64 ((prev : Nat) : Int)) := fun z => cell_laid z.by_ rfl
                have p2 : ∀ z : RMV Mb B9 #[.slice wak Mk.W.length wck, .slice lak Mk.L.length lck, .bool Mk.F] #[.bool false, .int .u64 ((prev : Nat) : Int), .int .u64 ((p : Nat) : Int), .int .u64 ((q : Nat) : Int), .int .u64 ((r : Nat) : Int)], z.w.cell? ⟨B9, 2, none⟩ = some (.int .u64 ((p : Nat) : Int)) := fun z => cell_laid z.by_ rfl
                have p3 : ∀ z : RMV Mb B9 #[.slice wak Mk.W.length wck, .slice lak Mk.L.length lck, .bool Mk.F] #[.bool false, .int .u64 ((prev : Nat) : Int), .int .u64 ((p : Nat) : Int), .int .u64 ((q : Nat) : Int), .int .u64 ((r : Nat) : Int)], z.w.cell? ⟨B9, 3, none⟩ = some (.int .u64 ((q : Nat) : Int)) := fun z => cell_laid z.by_ rfl
                have p4 : ∀ z : RMV Mb B9 #[.slice wak Mk.W.length wck, .slice lak Mk.L.length lck, .bool Mk.F] #[.bool false, .int .u64 ((prev : Nat) : Int), .int .u64 ((p : Nat) : Int), .int .u64 ((q : Nat) : Int), .int .u64 ((r : Nat) : Int)], z.w.cell? ⟨B9, 4, none⟩ = some (.int .u64 ((r : Nat) : Int)) := fun z => cell_laid z.by_ rfl
                refine wp_region_mix2 (fun W => ∃ z : RMV Mb B9 #[.slice wak Mk.W.length wck, .slice lak Mk.L.length lck, .bool Mk.F] #[.bool false, .int .u64 ((prev : Nat) : Int), .int .u64 ((p : Nat) : Int), .int .u64 ((q : Nat) : Int), .int .u64 ((r : Nat) : Int)], W = z.w) 16 (.q 0 (.q 2 (.q 3 (.q 4 (.q 5 (.q 6 (.q 7 (.h 1 (.h 8 (.q 9 (.q 10 (.q 11 (.q 12 (.h 13 (.q 14 (.q 15 (.done))))))))))))))))) (by kernel_rfl) (by kernel_rfl) (by rw [HD.out]; exact ⟨⟨D, HS_25.out.bm, H9_26.out⟩, rfl⟩) ?_
                rw [HD.out]
                repeat (refine wpMix2_q rfl rfl ?_; go_big_quiet_step (fail); refine wpQuiet_nil ?_)
                refine wpMix2_h rfl fun R' hR' hO => ?_
                go_wp2_with fail
                refine HOW.out.mono ?_
                rintro e v1 ⟨wao, wco, lao, lco, rfl, hoo, hbn⟩
                have HRX := hid (rInsert_any Mk wao lao wco lco head prev xs (p, q, r) vx xs.length vy v1 hoo.memL HOK.out HS_25.out.wok HH.out HMO.out.prev HMO.out.node (HLX_31.out.grow hbn) rfl (by have := HX5.out; omega) HXT.out)
                rw [HRF.out] at HRX
                unfold GivesRI memV twV at HRX
                dsimp only at HRX
                have HS_32 := hid (HS_25.out.grow hbn)
                have H9_33 := hid (keep_laid H9_26.out hbn)
                have HBK_34 := hid (HBK_27.out.trans (hbn.mono HBK_27.out.size))
                have H13_35 := hid (keep_laid H13_28.out hbn)
                have H14_36 := hid (keep_laid H14_29.out hbn)
                have HO_37 := hid (HO_30.out.grow hbn)
                have HLX_38 := hid (HLX_31.out.grow hbn)
                clear HS_25 H9_26 HBK_27 H13_28 H14_29 HO_30 HLX_31 hbn hoo
                unfold memV
                go_wp2
                refine hR' _ _ ⟨⟨v1, HS_32.out.bm, H9_33.out⟩, rfl⟩ ?_
                clear hR' hO R'
                refine wpMix2_h rfl fun R' hR' hO => ?_
                go_wp2_with fail
                refine HRX.out.mono ?_
                rintro e v2 ⟨waw, wcw, law, lcw, rfl, hmw, hbn⟩
                have HS_39 := hid (HS_32.out.grow hbn)
                have H9_40 := hid (keep_laid H9_33.out hbn)
                have HBK_41 := hid (HBK_34.out.trans (hbn.mono HBK_34.out.size))
                have H13_42 := hid (keep_laid H13_35.out hbn)
                have H14_43 := hid (keep_laid H14_36.out hbn)
                have HO_44 := hid (HO_37.out.grow hbn)
                have HLX_45 := hid (HLX_38.out.grow hbn)
                clear HS_32 H9_33 HBK_34 H13_35 H14_36 HO_37 HLX_38 hbn
                have HMW_46 := hid (hmw)
                clear hmw
                go_wp2
                refine hR' _ _ ⟨⟨v2, HS_39.out.bm, H9_40.out⟩, rfl⟩ ?_
                clear hR' hO R'
                repeat (refine wpMix2_q rfl rfl ?_; go_big_quiet_step (fail); refine wpQuiet_nil ?_)
                obtain ⟨v3, hv3, a1, a2, a3, a4⟩ := put_mem H14_43.out (.slice waw Mn.W.length wcw) (.slice law Mn.L.length lcw) (.bool Mn.F)
                have z0 := cell_laid (i := 0) H14_43.out rfl
                have zf0 := free_laid (i := 0) H14_43.out
                have z1 := cell_laid (i := 1) H14_43.out rfl
                have zf1 := free_laid (i := 1) H14_43.out
                have z2 := cell_laid (i := 2) H14_43.out rfl
                have zf2 := free_laid (i := 2) H14_43.out
                have HEQ := hid hv3
                clear HLX_45
                have HS_47 := hid (HS_39.out.keep B9 (fun k o hk ho => a2 k o (by omega) ho) hMB9 (fun k hk => by have := HLOW.out k hk; omega) (a3 _ _ (by omega) HS_39.out.below))
                have H9_48 := hid (a2 _ _ (by omega) H9_40.out)
                have HBK_49 := hid (a3 _ _ (by omega) HBK_41.out)
                have H13_50 := hid (a2 _ _ (by omega) H13_42.out)
                have H14_51 := hid (a1)
                have HO_52 := hid (a4 _ _ _ _ _ _ HO_44.out)
                have HMW_53 := hid (memL_put H14_43.out HMW_46.out HTW.out HEQ.out)
                clear HS_39 H9_40 HBK_41 H13_42 H14_43 HO_44 HMW_46 a1 a2 a3 a4 hv3
                refine wpMix2_h rfl fun R' hR' hO => ?_
                go_wp2
                rw [← HEQ.out]
                refine hR' _ _ ⟨⟨v3, HS_47.out.bm, H9_48.out⟩, rfl⟩ ?_
                clear hR' hO R'
                repeat (refine wpMix2_q rfl rfl ?_; go_big_quiet_step (fail); refine wpQuiet_nil ?_)
                refine wpMix2_done ?_
                simp only [List.drop_succ_cons, List.drop_nil]
                go_wp2
                go_meet
                exact ⟨rfl, rfl, rfl, rfl, hid ⟨_, _, _, _, _, _, _, _, HS_47.out, HO_52.out, H13_50.out, H14_51.out, HMW_53.out⟩⟩
          case rest =>
            clear HS_8
            clear H9_9
            clear HBK_10
            clear H13_11
            clear H14_12
            obtain ⟨rfl, rfl, rfl, rfl, wan, wcn, lan, lcn, waw, wcw, law, lcw, hS8, hN8, h138, h148, hMw⟩ := hcut
            obtain ⟨w8, hw8⟩ : ∃ W, W = wc := ⟨_, rfl⟩
            subst hw8
            have HS := hid hS8
            have HN := hid hN8
            have H13 := hid h138
            have tq : (((code : Nat) : Int) != ((code : Nat) : Int)) = false := by simp
            have ts : (((st : Nat) : Int) != ((st : Nat) : Int)) = false := by simp
            have hsm := RefSame_any Mn Mn wan lan waw law wcn lcn wcw lcw w8 hN8.memL hMw
            rw [sameM_self] at hsm
            have HSM := hid hsm
            unfold memV at HSM
            have hwn := hN8.memL.w.len
            have hln := hN8.memL.l.len
            obtain ⟨n0, n1, n2⟩ := cells3 h138
            obtain ⟨v0, v1, v2⟩ := cells3 h148
            clear hS8 hN8 h138 h148 hMw hsm HP HR
            go_wp2_with fail
            refine HSM.out.mono ?_
            rintro e w9 ⟨rfl, hbn⟩
            have HS_13 := hid (HS.out.grow hbn)
            have HN_14 := hid (HN.out.grow hbn)
            have H13_15 := hid (keep_laid H13.out hbn)
            clear HS HN H13 hbn n0 n1 n2 v0 v1 v2 HSM tq ts
            have hwr9 : wr.heap.size ≤ w9.heap.size := by have := lt_laid H13_15.out; omega
            obtain ⟨n0, n1, n2⟩ := cells3 H13_15.out
            by_cases hc : code = 0
            · have tc : (((code : Nat) : Int) == 0) = true := by simp; omega
              have HO9 : Hid (Calls Try.prog 8 #[.agg #[.slice wan Mn.W.length wcn, .slice lan Mn.L.length lcn, .bool Mn.F]] w9 (GivesM Mn w9)) := hid (by have := lawown_any Mn wan lan wcn lcn w9 HN_14.out.memL; rw [take48_id HF.out.2.1 HF.out.2.2] at this; exact this)
              have HN9 := hid HN_14.out.below
              clear hc
              go_wp2_with fail
              refine HO9.out.mono ?_
              rintro e w10 ⟨wao, wco, lao, lco, rfl, hoo, hbn⟩
              have hw10s := hbn.size
              have HS_16 := hid (HS_13.out.grow hbn)
              have HN_17 := hid (HN_14.out.grow hbn)
              have H13_18 := hid (keep_laid H13_15.out hbn)
              clear HS_13 HN_14 H13_15 hbn n0 n1 n2
              obtain ⟨w11, hw11, a1, a2, a3, a4⟩ := put_mem HS_16.out.bm (.slice wao Mn.W.length wco) (.slice lao Mn.L.length lco) (.bool Mn.F)
              have z0 := cell_laid (i := 0) HS_16.out.bm rfl
              have zf0 := free_laid (i := 0) HS_16.out.bm
              have z1 := cell_laid (i := 1) HS_16.out.bm rfl
              have zf1 := free_laid (i := 1) HS_16.out.bm
              have z2 := cell_laid (i := 2) HS_16.out.bm rfl
              have zf2 := free_laid (i := 2) HS_16.out.bm
              have HM11 := hid a1
              have HN11 := hid (a4 _ _ _ _ _ _ HN_17.out)
              have HO11 := hid (a4 _ _ _ _ _ _ hoo)
              have H1311 := hid (a2 _ _ (by omega) H13_18.out)
              have HB11 := hid (a3 V.heap.size V hVM HS_16.out.below)
              have hs11 : w10.heap.size ≤ w11.heap.size := by have := a3 w10.heap.size w10; rw [hw11]; simp
              have HW11 := hid hw11
              have HSP := hid (spoil_any Mn wr.heap.size wan lan wcn lcn w11 HN11.out (by omega))
              unfold memV at HSP
              clear hoo a1 a2 a3 a4 hw11
              unfold memV
              go_upto_region 28 with (fail)
              rw [← HW11.out]
              clear z0 z1 z2 zf0 zf1 zf2
              obtain ⟨n0, n1, n2⟩ := cells3 H1311.out
              go_wp2_with fail
              refine HSP.out.mono ?_
              rintro e w12 ⟨⟨vv, rfl⟩, hsp⟩
              have HSN : Hid (Edq V Mb wao wco lao lco Mn w12) := hid ⟨hsp.box HN11.out HM11.out (by decide) (by decide), (HO11.out.later HN11.out hsp (.inr HN9.out)).base (by have := HS_16.out.below.size; omega), HB11.out.trans (hsp.1.mono (by omega)), HF.out.1, HF.out.2⟩
              clear hsp n0 n1 n2
              go_wp2
              go_roundg (gk - 1)
              case measure => have := HK.out; omega
              case rel => exact ⟨k + 1, _, _, _, _, _, by have := HK.out; omega, by go_num, HSN⟩
            · have tc : (((code : Nat) : Int) == 0) = false := by simp; omega
              have HSP := hid (spoil_any Mn wr.heap.size wan lan wcn lcn w9 HN_14.out hwr9)
              unfold memV at HSP
              clear hc
              go_wp2_with fail
              refine HSP.out.mono ?_
              rintro e w12 ⟨⟨vv, rfl⟩, hsp⟩
              have HSN := hid (HS_13.out.spoilt HN_14.out hsp (by omega) HLOW.out)
              clear hsp n0 n1 n2
              go_wp2
              go_roundg (gk - 1)
              case measure => have := HK.out; omega
              case rel => exact ⟨k + 1, _, _, _, _, _, by have := HK.out; omega, by go_num, HSN⟩
    · skip
      go_wp2
      go_ret
      exact ⟨rfl, hS.out.below⟩
end Go.Proofs.Ytoihjmdpbbcbjaa
