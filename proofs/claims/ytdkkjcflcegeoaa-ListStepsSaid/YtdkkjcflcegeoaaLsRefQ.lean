/- The document's lists (printed by gen_lsref3.py): the variables of a step. -/
import Derived.Test.YtdkkjcflcegeoaaLsRef1
import Derived.Test.YtdkkjcflcegeoaaMemRefStep
import Derived.Test.YtdkkjcflcegeoaaLs14
namespace Go.Proofs.Ytdkkjcflcegeoaa
open Go.RowKit
open Go.Proofs
set_option linter.unusedVariables false
attribute [local go_sem] Oper.semAt_some
def apartA (a : Option Addr) (E : Nat) : Prop := ∀ b off, a = some ⟨b, off, none⟩ → b ≠ E
def lowA (a : Option Addr) (B : Nat) : Prop := ∀ b off, a = some ⟨b, off, none⟩ → b < B
theorem Leads.grownNe {V V' : World} {a : Option Addr} {n cap E : Nat} {cs : List Value} (h : Leads V a n cap cs) (ha : apartA a E) (hg : V.grownBy V' (some E)) : Leads V' a n cap cs := by
  obtain ⟨h1, h2, ⟨h3, h4⟩ | ⟨b, off, h3, h4, h5⟩⟩ := h
  · exact ⟨h1, h2, .inl ⟨h3, h4⟩⟩
  · refine ⟨h1, h2, .inr ⟨b, off, h3, Nat.lt_of_lt_of_le h4 hg.size, fun i v hv => ?_⟩⟩
    have hc := h5 i v hv
    have := hg.block b h4 (fun e' => ha b off h3 (Option.some.inj e'))
    unfold World.cell? at hc ⊢
    rw [this]
    exact hc
theorem grownBy_put {V : World} {E i : Nat} (v : Value) : V.grownBy (V.setCell ⟨E, i, none⟩ v) (some E) := grownBy_setCell V E i v
theorem stepM_L (M : Mem) (st : Bool) (a : Int) (new : Nat) : (stepM M st a new).1.L = M.L := by
  unfold stepM; split
  · split <;> rfl
  · rfl
theorem stepM_len (M : Mem) (st : Bool) (a : Int) (new : Nat) : (stepM M st a new).1.W.length = M.W.length := by
  unfold stepM; split
  · split
    · simp
    · rfl
  · rfl
def apB (a : Option Addr) (X G : Nat) : Prop := ∀ b off, a = some ⟨b, off, none⟩ → b < X ∨ G < b
theorem apB.apart {a : Option Addr} {X G E : Nat} (h : apB a X G) (h1 : X ≤ E) (h2 : E ≤ G) : apartA a E := fun b off e => by have := h b off e; omega
theorem apB.kept {a a' : Option Addr} {X G : Nat} {W : World} (h : apB a X G) (hk : keptA W a a') (hG : G < W.heap.size) : apB a' X G := by
  rcases hk with rfl | hk
  · exact h
  · exact fun b off e => .inr (Nat.lt_of_lt_of_le hG (hk b off e))
theorem keptA.mono {a a' : Option Addr} {V W : World} (h : keptA W a a') (hs : V.heap.size ≤ W.heap.size) : keptA V a a' := by
  rcases h with rfl | h
  · exact .inl rfl
  · exact .inr fun b off e => Nat.le_trans hs (h b off e)
theorem keptA.refl (V : World) (a : Option Addr) : keptA V a a := .inl rfl
theorem Leads.setNe {W : World} {a : Option Addr} {n cap E i : Nat} {cs : List Value} {v : Value} (h : Leads W a n cap cs) (ha : apartA a E) : Leads (W.setCell ⟨E, i, none⟩ v) a n cap cs := h.grownNe ha (grownBy_put v)
theorem Leads.keepNe {W W' : World} {a : Option Addr} {n cap E : Nat} {cs : List Value} (h : Leads W a n cap cs) (ha : apartA a E) (hk : ∀ (k : Nat) (o : Obj), k ≠ E → W.heap[k]? = some o → W'.heap[k]? = some o) : Leads W' a n cap cs := by
  obtain ⟨h1, h2, ⟨h3, h4⟩ | ⟨b, off, h3, h4, h5⟩⟩ := h
  · exact ⟨h1, h2, .inl ⟨h3, h4⟩⟩
  · have hbE := ha b off h3
    have hb := hk b _ hbE (Array.getElem?_eq_getElem h4)
    refine ⟨h1, h2, .inr ⟨b, off, h3, lt_laid hb, fun i v hv => ?_⟩⟩
    have := h5 i v hv
    unfold World.cell? at this ⊢
    rw [hb, ← Array.getElem?_eq_getElem h4]
    exact this
theorem MemL.low {W : World} {wa la : Option Addr} {wc lc : Nat} {M : Mem} (h : MemL W wa wc la lc M) (hok : okM M = true) {X G : Nat} (hX : W.heap.size ≤ X) : apB wa X G ∧ apB la X G := by
  obtain ⟨h1, h2, h3, -⟩ := okM_spec hok
  constructor
  · rintro b off rfl
    obtain ⟨_, _, ⟨q, _⟩ | ⟨b', o', q, q2, _⟩⟩ := h.w
    · omega
    · cases q; exact .inl (by omega)
  · rintro b off rfl
    obtain ⟨_, _, ⟨q, _⟩ | ⟨b', o', q, q2, _⟩⟩ := h.l
    · omega
    · cases q; exact .inl (by omega)
/-- The variables of a document's step. -/
structure Sq (T : TypeId) (z : Array Value) (V : World) (X Y Z G : Nat) (wa : Option Addr) (wc : Nat) (la : Option Addr) (lc : Nat) (M : Mem) (cs : Array Value) (W : World) : Prop where
  bx : W.heap[X]? = some (.cells #[.slice wa M.W.length wc, .slice la M.L.length lc, .bool M.F] 25 (0, 0))
  by_ : W.heap[Y]? = some (.cells cs T (0, 0))
  bz : W.heap[Z]? = some (.cells #[.slice none 0 0, .slice none 0 0, .bool false] 25 (0, 0))
  bg : W.heap[G]? = some (.cells z T (0, 0))
  mem : MemL W wa wc la lc M
  aw : apB wa X G
  al : apB la X G
  below : Below V.heap.size V W
  ord : V.heap.size ≤ X ∧ X < Y ∧ Y < Z ∧ Z < G
section
variable {T : TypeId} {z cs cs' : Array Value} {V W W' : World} {X Y Z G : Nat} {wa la wa' la' : Option Addr} {wc lc wc' lc' : Nat} {M M' : Mem}
theorem Sq.grow (h : Sq T z V X Y Z G wa wc la lc M cs W) (hb : Below W.heap.size W W') : Sq T z V X Y Z G wa wc la lc M cs W' :=
  ⟨keep_laid h.bx hb, keep_laid h.by_ hb, keep_laid h.bz hb, keep_laid h.bg hb, h.mem.grow hb, h.aw, h.al, h.below.trans (hb.mono h.below.size), h.ord⟩
/-- Another memory is put in. -/
theorem Sq.putX (h : Sq T z V X Y Z G wa wc la lc M cs W) (hm : MemL W wa' wc' la' lc' M') (hw : apB wa' X G) (hl : apB la' X G) :
    ∃ W', W' = ((W.setCell ⟨X, 0, none⟩ (.slice wa' M'.W.length wc')).setCell ⟨X, 1, none⟩ (.slice la' M'.L.length lc')).setCell ⟨X, 2, none⟩ (.bool M'.F) ∧ Sq T z V X Y Z G wa' wc' la' lc' M' cs W' ∧ (∀ (k : Nat) (o : Obj), k ≠ X → W.heap[k]? = some o → W'.heap[k]? = some o) := by
  obtain ⟨W', hW', h1, h2, h3, -⟩ := put_mem h.bx (.slice wa' M'.W.length wc') (.slice la' M'.L.length lc') (.bool M'.F)
  obtain ⟨o1, o2, o3, o4⟩ := h.ord
  exact ⟨W', hW', ⟨h1, h2 _ _ (by omega) h.by_, h2 _ _ (by omega) h.bz, h2 _ _ (by omega) h.bg, ⟨hm.w.keepNe (hw.apart (Nat.le_refl _) (by omega)) h2, hm.l.keepNe (hl.apart (Nat.le_refl _) (by omega)) h2⟩, hw, hl, h3 _ _ o1 h.below, h.ord⟩, h2⟩
theorem Sq.setY {i : Nat} {v : Value} (h : Sq T z V X Y Z G wa wc la lc M cs W) (hs : cs.setIfInBounds i v = cs') : Sq T z V X Y Z G wa wc la lc M cs' (W.setCell ⟨Y, i, none⟩ v) := by
  obtain ⟨o1, o2, o3, o4⟩ := h.ord
  refine ⟨other_laid h.bx (by omega) _, ?_, other_laid h.bz (by omega) _, other_laid h.bg (by omega) _, ⟨h.mem.w.setNe (h.aw.apart (by omega) (by omega)), h.mem.l.setNe (h.al.apart (by omega) (by omega))⟩, h.aw, h.al, h.below.setCell (p := ⟨Y, i, none⟩) (by show V.heap.size ≤ Y; omega) _, h.ord⟩
  have := set_laid (i := i) h.by_ v
  rw [hs] at this
  exact this
/-- Other variables, made later, are written. -/
theorem Sq.keep {B : Nat} (h : Sq T z V X Y Z G wa wc la lc M cs W) (hB : G < B) (hw : apartA wa B) (hl : apartA la B) (hk : ∀ (k : Nat) (o : Obj), k ≠ B → W.heap[k]? = some o → W'.heap[k]? = some o) (hb : Below V.heap.size V W') : Sq T z V X Y Z G wa wc la lc M cs W' := by
  obtain ⟨o1, o2, o3, o4⟩ := h.ord
  exact ⟨hk _ _ (by omega) h.bx, hk _ _ (by omega) h.by_, hk _ _ (by omega) h.bz, hk _ _ (by omega) h.bg, ⟨h.mem.w.keepNe hw hk, h.mem.l.keepNe hl hk⟩, h.aw, h.al, hb, h.ord⟩
end
/-- Worlds in which two variables lie so. -/
structure RYX (T : TypeId) (X Y : Nat) (csx csy : Array Value) where
  w : World
  bx : w.heap[X]? = some (.cells csx 25 (0, 0))
  by_ : w.heap[Y]? = some (.cells csy T (0, 0))
theorem ryx_x {T : TypeId} {X Y : Nat} {csx csy : Array Value} (_ : Nonempty (RYX T X Y csx csy)) (i : Nat) (v : Value) (h : csx[i]? = some v) : ∀ z : RYX T X Y csx csy, z.w.cell? ⟨X, i, none⟩ = some v := fun z => cell_laid z.bx h
theorem ryx_y {T : TypeId} {X Y : Nat} {csx csy : Array Value} (_ : Nonempty (RYX T X Y csx csy)) (i : Nat) (v : Value) (h : csy[i]? = some v) : ∀ z : RYX T X Y csx csy, z.w.cell? ⟨Y, i, none⟩ = some v := fun z => cell_laid z.by_ h
/-- What was reached is put into the results. -/
theorem Sq.fin7 {T : TypeId} {z0 z1 z2 z3 z4 z5 z6 c0 c1 c2 c3 c4 c5 c6 : Value} {V W : World} {X Y Z G : Nat} {wa la : Option Addr} {wc lc : Nat} {M : Mem} (h : Sq T #[z0, z1, z2, z3, z4, z5, z6] V X Y Z G wa wc la lc M #[c0, c1, c2, c3, c4, c5, c6] W) (h1 : 26 ≠ T) (h2 : 4 ≠ T) :
    ∃ U1 U2, U1 = ((W.setCell ⟨Z, 0, none⟩ (.slice wa M.W.length wc)).setCell ⟨Z, 1, none⟩ (.slice la M.L.length lc)).setCell ⟨Z, 2, none⟩ (.bool M.F) ∧ U2 = (((((((U1.setCell ⟨G, 0, none⟩ c0).setCell ⟨G, 1, none⟩ c1).setCell ⟨G, 2, none⟩ c2).setCell ⟨G, 3, none⟩ c3).setCell ⟨G, 4, none⟩ c4).setCell ⟨G, 5, none⟩ c5).setCell ⟨G, 6, none⟩ c6) ∧
      U1.heap[X]? = some (.cells #[.slice wa M.W.length wc, .slice la M.L.length lc, .bool M.F] 25 (0, 0)) ∧ U1.heap[Y]? = some (.cells #[c0, c1, c2, c3, c4, c5, c6] T (0, 0)) ∧ U1.heap[G]? = some (.cells #[z0, z1, z2, z3, z4, z5, z6] T (0, 0)) ∧
      U2.heap[X]? = some (.cells #[.slice wa M.W.length wc, .slice la M.L.length lc, .bool M.F] 25 (0, 0)) ∧ U2.heap[Y]? = some (.cells #[c0, c1, c2, c3, c4, c5, c6] T (0, 0)) ∧ U2.heap[Z]? = some (.cells #[.slice wa M.W.length wc, .slice la M.L.length lc, .bool M.F] 25 (0, 0)) ∧ U2.heap[G]? = some (.cells #[c0, c1, c2, c3, c4, c5, c6] T (0, 0)) ∧
      MemL U2 wa wc la lc M ∧ Below V.heap.size V U2 := by
  obtain ⟨o1, o2, o3, o4⟩ := h.ord
  obtain ⟨U1, hU1, a1, a2, a3, -⟩ := put_mem h.bz (.slice wa M.W.length wc) (.slice la M.L.length lc) (.bool M.F)
  obtain ⟨U2, hU2, b1, b2, b3, -⟩ := putM7 (a2 G _ (by omega) h.bg) c0 c1 c2 c3 c4 c5 c6
  exact ⟨U1, U2, hU1, hU2, a2 X _ (by omega) h.bx, a2 Y _ (by omega) h.by_, a2 G _ (by omega) h.bg, b2 X _ (by omega) (a2 X _ (by omega) h.bx), b2 Y _ (by omega) (a2 Y _ (by omega) h.by_), b2 Z _ (by omega) a1, b1,
    ⟨(h.mem.w.keepNe (h.aw.apart (by omega) (by omega)) a2).keepNe (h.aw.apart (by omega) (by omega)) b2, (h.mem.l.keepNe (h.al.apart (by omega) (by omega)) a2).keepNe (h.al.apart (by omega) (by omega)) b2⟩, b3 _ _ (by omega) (a3 _ _ (by omega) h.below)⟩
/-- What was reached is put into the results. -/
theorem Sq.fin8 {T : TypeId} {z0 z1 z2 z3 z4 z5 z6 z7 c0 c1 c2 c3 c4 c5 c6 c7 : Value} {V W : World} {X Y Z G : Nat} {wa la : Option Addr} {wc lc : Nat} {M : Mem} (h : Sq T #[z0, z1, z2, z3, z4, z5, z6, z7] V X Y Z G wa wc la lc M #[c0, c1, c2, c3, c4, c5, c6, c7] W) (h1 : 26 ≠ T) (h2 : 4 ≠ T) :
    ∃ U1 U2, U1 = ((W.setCell ⟨Z, 0, none⟩ (.slice wa M.W.length wc)).setCell ⟨Z, 1, none⟩ (.slice la M.L.length lc)).setCell ⟨Z, 2, none⟩ (.bool M.F) ∧ U2 = ((((((((U1.setCell ⟨G, 0, none⟩ c0).setCell ⟨G, 1, none⟩ c1).setCell ⟨G, 2, none⟩ c2).setCell ⟨G, 3, none⟩ c3).setCell ⟨G, 4, none⟩ c4).setCell ⟨G, 5, none⟩ c5).setCell ⟨G, 6, none⟩ c6).setCell ⟨G, 7, none⟩ c7) ∧
      U1.heap[X]? = some (.cells #[.slice wa M.W.length wc, .slice la M.L.length lc, .bool M.F] 25 (0, 0)) ∧ U1.heap[Y]? = some (.cells #[c0, c1, c2, c3, c4, c5, c6, c7] T (0, 0)) ∧ U1.heap[G]? = some (.cells #[z0, z1, z2, z3, z4, z5, z6, z7] T (0, 0)) ∧
      U2.heap[X]? = some (.cells #[.slice wa M.W.length wc, .slice la M.L.length lc, .bool M.F] 25 (0, 0)) ∧ U2.heap[Y]? = some (.cells #[c0, c1, c2, c3, c4, c5, c6, c7] T (0, 0)) ∧ U2.heap[Z]? = some (.cells #[.slice wa M.W.length wc, .slice la M.L.length lc, .bool M.F] 25 (0, 0)) ∧ U2.heap[G]? = some (.cells #[c0, c1, c2, c3, c4, c5, c6, c7] T (0, 0)) ∧
      MemL U2 wa wc la lc M ∧ Below V.heap.size V U2 := by
  obtain ⟨o1, o2, o3, o4⟩ := h.ord
  obtain ⟨U1, hU1, a1, a2, a3, -⟩ := put_mem h.bz (.slice wa M.W.length wc) (.slice la M.L.length lc) (.bool M.F)
  obtain ⟨U2, hU2, b1, b2, b3, -⟩ := putM8 (a2 G _ (by omega) h.bg) c0 c1 c2 c3 c4 c5 c6 c7
  exact ⟨U1, U2, hU1, hU2, a2 X _ (by omega) h.bx, a2 Y _ (by omega) h.by_, a2 G _ (by omega) h.bg, b2 X _ (by omega) (a2 X _ (by omega) h.bx), b2 Y _ (by omega) (a2 Y _ (by omega) h.by_), b2 Z _ (by omega) a1, b1,
    ⟨(h.mem.w.keepNe (h.aw.apart (by omega) (by omega)) a2).keepNe (h.aw.apart (by omega) (by omega)) b2, (h.mem.l.keepNe (h.al.apart (by omega) (by omega)) a2).keepNe (h.al.apart (by omega) (by omega)) b2⟩, b3 _ _ (by omega) (a3 _ _ (by omega) h.below)⟩
theorem MemL.lowA {W : World} {wa la : Option Addr} {wc lc : Nat} {M : Mem} (h : MemL W wa wc la lc M) (hok : okM M = true) : lowA wa W.heap.size ∧ lowA la W.heap.size := by
  obtain ⟨h1, h2, h3, -⟩ := okM_spec hok
  constructor
  · rintro b off rfl
    obtain ⟨_, _, ⟨q, _⟩ | ⟨b', o', q, q2, _⟩⟩ := h.w
    · omega
    · cases q; exact q2
  · rintro b off rfl
    obtain ⟨_, _, ⟨q, _⟩ | ⟨b', o', q, q2, _⟩⟩ := h.l
    · omega
    · cases q; exact q2
theorem lowA.apart {a : Option Addr} {B E : Nat} (h : lowA a B) (hE : B ≤ E) : apartA a E := fun b off e => by have := h b off e; omega
theorem posL_le (p k : Nat) (hk : k ≤ 100) : posL p k ≤ 5000 := by unfold posL; omega
end Go.Proofs.Ytdkkjcflcegeoaa
