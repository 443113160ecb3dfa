/- Lists (printed by gen_ls1.py): where words are, which are met; at, ahead, meet. -/
import Derived.Test.YtipohagcppfgiaaGreatMemRefStep
import Derived.Test.YtipohagcppfgiaaGreatMapsJ
import Derived.Test.YtipohagcppfgiaaGreatRange4
namespace Go.Proofs.YtipohagcppfgiaaGreat
open Go.RowKit
open Go.Proofs
set_option linter.unusedVariables false
attribute [local go_sem] Oper.semAt_some
/-- Where a word of a place is. -/
def posL (p k : Nat) : Nat := min p 4096 + k
theorem at_any (p k : Nat) (V : World) (hp : p < 18446744073709551616) (hk : k ≤ 1000) : Calls Tryz.prog 86 #[.int .u64 p, .int .i64 k] V (fun e W => e = .returned (.int .i64 ((posL p k : Nat) : Int)) ∧ W = V) := by
 obtain ⟨m, hm⟩ := nm (min p 4096)
 have hmi : min ((p : Nat) : Int) 4096 = ((m : Nat) : Int) := by omega
 have hm2 : m ≤ 4096 := by omega
 have HP : Hid (posL p k = m + k) := hid (by unfold posL; rw [hm])
 clear hm
 go_enter Tryz.func86, Tryz.ntmps86
 go_wp2
 go_ret
 exact ⟨reti (by rw [HP.out]; go_num), rfl⟩
abbrev brkV : Value := .iface 146 (.agg #[])
abbrev brk : List PanicEntry := [{ v := brkV, recovered := false }]
def liveN (M : Mem) (w : Nat) : Bool := (M.L[w]?).getD false
def freeB (M : Mem) (met : List Nat) (w : Nat) : Bool := liveN M w && !decide (w ∈ met)
/-- Words are taken. -/
def takeP (M : Mem) (p : Nat) : List Nat → List Nat → Option (List Nat)
 | [], met => some met
 | k :: ks, met => if freeB M met (posL p k) = true then takeP M p ks (met ++ [posL p k]) else none
def ones (met : List Nat) : List (Nat × Nat) := met.map fun x => (x, 1)
theorem atM_ones (met : List Nat) (w : Nat) : atMJ (ones met) w = if w ∈ met then 1 else 0 := by
 refine snocRec (p := fun l => atMJ (ones l) w = if w ∈ l then 1 else 0) rfl (fun l x h => ?_) met
 unfold ones at h ⊢
 rw [List.map_append, List.map_singleton, atM_snocJ, h]
 by_cases e : x = w
 ·subst e; simp
 ·simp only [if_neg e, List.mem_append, List.mem_singleton]
  by_cases hm : w ∈ l
  ·simp [hm]
  ·rw [if_neg hm, if_neg]
   rintro (h | h)
   ·exact hm h
   ·exact e h.symm
theorem ones_snoc (met : List Nat) (w : Nat) : ones met ++ [(w, 1)] = ones (met ++ [w]) := by simp [ones]
theorem IdsJ.run {w : World} {b k : Nat} {l : List (Nat × Nat)} (h : IdsJ w b l) (hk : k < 9223372036854775808) {t : TypeId} (ht : Tryz.prog.underlying t = some (.map 3 3)) :
  (Instr.lookup t (.map (some b)) (.int .i64 k) false).run Tryz.prog w = .ok (.int .i64 ((atMJ l k : Nat) : Int)) w := by
 obtain ⟨c, hrun, hat, -⟩ := World.ownsMap.lookup_int h keyedUJ ht Tryz.underlying3 (by kernel_rfl) (keyUJ hk)
 rw [mapD_atJ] at hat
 obtain rfl : c = ((atMJ l k : Nat) : Int) := by simp at hat; omega
 exact hrun
theorem map_cell {V : World} {mb : Nat} {l : List (Nat × Nat)} (h : IdsJ V mb l) (i : Nat) : V.cell? ⟨mb, i, none⟩ = none := by
 obtain ⟨es, clock, hb, -⟩ := h
 simp [World.cell?, hb]
theorem Leads.grownM {V V' : World} {a : Option Addr} {n cap mb : Nat} {cs : List Value} {l : List (Nat × Nat)} (h : Leads V a n cap cs) (hm : IdsJ V mb l) (hg : V.grownBy V' (some mb)) : Leads V' a n cap cs := by
 obtain ⟨h1, h2, ⟨h3, h4⟩ | ⟨b, off, h3, h4, h5⟩⟩ := h
 ·exact ⟨h1, h2, .inl ⟨h3, h4⟩⟩
 ·refine ⟨h1, h2, .inr ⟨b, off, h3, Nat.lt_of_lt_of_le h4 hg.size, fun i v hv => ?_⟩⟩
  have hc := h5 i v hv
  by_cases e : mb = b
  ·subst e; rw [map_cell hm] at hc; cases hc
  ·have := hg.block b h4 (fun e' => e (Option.some.inj e').symm)
   unfold World.cell? at hc ⊢
   rw [this]
   exact hc
theorem grownBy_refl (V : World) (r : Option Nat) : V.grownBy V r := ⟨rfl, rfl, rfl, Nat.le_refl _, fun _ _ _ => rfl⟩
theorem grownBy_below {V V' : World} (h : Below V.heap.size V V') (r : Option Nat) : V.grownBy V' r := ⟨h.os, h.tape, h.output, h.size, fun k hk _ => h.block k hk⟩
theorem grownBy_trans {A B C : World} {r : Option Nat} (h : A.grownBy B r) (k : B.grownBy C r) : A.grownBy C r :=
 ⟨k.os.trans h.os, k.tape.trans h.tape, k.output.trans h.output, Nat.le_trans h.size k.size, fun b hb hr => (k.block b (Nat.lt_of_lt_of_le hb h.size) hr).trans (h.block b hb hr)⟩
theorem wp_putG {w : World} {ops : Array Oper} {rest : List Oper} {o : Oper} {a : Act} {Q : Exit → Act → World → Prop} (hg : o.guard = none) (m x v : Operand) (t : TypeId) (hop : o.op = Op.mapUpdate t m x v) (ht : Tryz.prog.underlying t = some (.map 3 3))
  (b k u : Nat) (l : List (Nat × Nat)) (hm : a.eval m = .map (some b)) (hown : IdsJ w b l) (hl : l.length ≤ 100000) (hx : a.eval x = .int .i64 k) (hv : a.eval v = .int .i64 u) (hk : k < 9223372036854775808) (hu : u < 9223372036854775808)
  (h : ∀ w', IdsJ w' b (l ++ [(k, u)]) → w.grownBy w' (some b) → wpList Tryz.prog ops Q rest (a.put o.dst undef) w') : wpList Tryz.prog ops Q (o :: rest) a w := by
 refine wpList_mapUpdate_own w hg m x v t hop 3 3 keyedUJ ht (plainElem Tryz.prog 3) b l.length (mapDJ l) hm hown (by unfold maxLen; omega) _ _ _ hx hv (keyUJ hk) _ [] (plainElem_int Tryz.underlying3 (wfUJ hu)) ?_
 intro w' h1 h2
 refine h w' ?_ h2
 unfold IdsJ
 rw [mapD_snocJ, List.length_append]
 exact h1
theorem takeP_spec (M : Mem) (p : Nat) : ∀ (ks met met' : List Nat), takeP M p ks met = some met' → (∀ k ∈ ks, liveN M (posL p k) = true) ∧ (met.Nodup → met'.Nodup) ∧ met'.length = met.length + ks.length ∧ ∀ x ∈ met', x ∈ met ∨ liveN M x = true
 | [], met, met', h => by
  cases h
  exact ⟨by simp, id, by simp, fun x h => .inl h⟩
 | k :: ks, met, met', h => by
  unfold takeP at h
  split at h
  ·rename_i hf
   obtain ⟨h1, h2, h3, h4⟩ := takeP_spec M p ks _ _ h
   unfold freeB at hf
   simp only [Bool.and_eq_true, Bool.not_eq_true', decide_eq_false_iff_not] at hf
   refine ⟨?_, ?_, ?_, ?_⟩
   ·intro j hj
    rcases List.mem_cons.1 hj with rfl | hj
    ·exact hf.1
    ·exact h1 j hj
   ·intro hn
    refine h2 ?_
    rw [List.nodup_append]
    refine ⟨hn, by simp, fun a ha b hb => ?_⟩
    rw [List.mem_singleton] at hb
    rintro rfl
    exact hf.2 (hb ▸ ha)
   ·rw [h3]; simp; omega
   ·intro x hx
    rcases h4 x hx with hx | hx
    ·rcases List.mem_append.1 hx with hx | hx
     ·exact .inl hx
     ·rw [List.mem_singleton] at hx; subst hx; exact .inr hf.1
    ·exact .inr hx
  ·cases h
theorem nodup_le : ∀ (l l' : List Nat), l.Nodup → (∀ x ∈ l, x ∈ l') → l.length ≤ l'.length
 | [], l', _, _ => Nat.zero_le _
 | a :: l, l', hn, hs => by
  have ha : a ∈ l' := hs a (List.mem_cons_self ..)
  rw [List.nodup_cons] at hn
  have := nodup_le l (l'.erase a) hn.2 (fun x hx => (List.mem_erase_of_ne (fun (e : x = a) => hn.1 (e ▸ hx))).2 (hs x (List.mem_cons_of_mem _ hx)))
  rw [List.length_erase_of_mem ha] at this
  have hp : 0 < l'.length := List.length_pos_of_mem ha
  simp only [List.length_cons]
  omega
theorem nodup_lt {n : Nat} {l : List Nat} (hn : l.Nodup) (h : ∀ x ∈ l, x < n) : l.length ≤ n := by
 have := nodup_le l (List.range n) hn (fun x hx => List.mem_range.2 (h x hx))
 simpa using this
theorem live_lt {M : Mem} {x : Nat} (h : liveN M x = true) : x < M.L.length := by
 unfold liveN at h
 cases hx : M.L[x]? with
 | none => rw [hx] at h; cases h
 | some b => exact (List.getElem?_eq_some_iff.1 hx).1
/-- How many words are met in a world. -/
noncomputable def metLen (mb : Nat) (V : World) : Nat := by
 classical
 exact if h : ∃ met : List Nat, met.Nodup ∧ (∀ x ∈ met, x < 5000) ∧ IdsJ V mb (ones met) then h.choose.length else 0
theorem ids_sub {V : World} {mb : Nat} {l l' : List Nat} (h : IdsJ V mb (ones l)) (h' : IdsJ V mb (ones l')) (hl : ∀ x ∈ l, x < 5000) : ∀ x ∈ l, x ∈ l' := by
 intro x hx
 have h5 := hl x hx
 have e1 := h.run (k := x) (by omega) (t := 165) Tryz.underlying165
 have e2 := h'.run (k := x) (by omega) (t := 165) Tryz.underlying165
 rw [e1] at e2
 simp only [Result.ok.injEq, Value.int.injEq, true_and, and_true] at e2
 rw [atM_ones, atM_ones, if_pos hx] at e2
 by_cases hc : x ∈ l'
 ·exact hc
 ·rw [if_neg hc] at e2; omega
theorem metLen_eq {V : World} {mb : Nat} {met : List Nat} (h : IdsJ V mb (ones met)) (hn : met.Nodup) (hl : ∀ x ∈ met, x < 5000) : metLen mb V = met.length := by
 have hex : ∃ met : List Nat, met.Nodup ∧ (∀ x ∈ met, x < 5000) ∧ IdsJ V mb (ones met) := ⟨met, hn, hl, h⟩
 unfold metLen
 rw [dif_pos hex]
 obtain ⟨h1, h2, h3⟩ := hex.choose_spec
 exact Nat.le_antisymm (nodup_le _ _ h1 (ids_sub h3 h h2)) (nodup_le _ _ hn (ids_sub h h3 hl))
/-- Words are met. -/
def meetP (M : Mem) : List Nat → List Nat → Option (List Nat)
 | [], met => some met
 | w :: ws, met => if freeB M met w = true then meetP M ws (met ++ [w]) else none
theorem takeP_meet (M : Mem) (p : Nat) : ∀ (ks met : List Nat), takeP M p ks met = meetP M (ks.map (posL p)) met
 | [], met => rfl
 | k :: ks, met => by
  show (if _ then _ else _) = (if _ then _ else _)
  rw [takeP_meet M p ks]
/-- A row of numbers. -/
def mcells (ws : List Nat) : List Value := ws.map fun w => .int .i64 ((w : Nat) : Int)
theorem mcell_at {ws : List Nat} {k w : Nat} (h : ws[k]? = some w) : (mcells ws)[k]? = some (.int .i64 w) := by unfold mcells; rw [List.getElem?_map, h]; rfl
set_option maxRecDepth 100000 in
set_option maxHeartbeats 2000000 in
theorem meet_any (M : Mem) (wa la : Option Addr) (wc lc mb : Nat) (ws : List Nat) (b : Option Addr) (m c : Nat) (met : List Nat) (V : World) (h : MemL V wa wc la lc M) (hm : M.L.length = M.W.length) (hi : IdsJ V mb (ones met)) (hl : Leads V b m c (mcells ws)) (hws : ws.length = m) (hw6 : ∀ w ∈ ws, w ≤ 1000000) (hmm : met.length + m ≤ 10000) :
  Calls Tryz.prog 98 #[.map (some mb), memV wa wc la lc M, .slice b m c] V (fun e V' => V.grownBy V' (some mb) ∧
   ((∃ met', meetP M ws met = some met' ∧ e = .returned (.tuple #[]) ∧ IdsJ V' mb (ones met')) ∨ (meetP M ws met = none ∧ e = .panicked brk))) := by
 obtain ⟨V1, hV1, hb1, hs1, hl1⟩ := laid V #[.slice wa M.W.length wc, .slice la M.L.length lc, .bool M.F] 25
 obtain ⟨X, hX⟩ := nm (V.heap.size)
 rw [hX] at hl1
 have HX1 := hid hl1
 have HM1 := hid (h.grow hb1)
 have HI1 := hid (hi.grow hb1)
 have HG1 := hid (grownBy_below hb1 (some mb))
 have HL1 := hid (hl.grow hb1)
 have HWS := hid hws
 have HW6 := hid hw6
 have HNX : Hid (mb ≠ X) := hid (by
  rintro rfl
  obtain ⟨es, clock, hb, -⟩ := hi
  have := llD hb
  omega)
 have hwl := h.w.len
 have hll := h.l.len
 have hbl := hl.len
 obtain ⟨RES, hRES⟩ := nm (meetP M ws met)
 rw [hRES]
 have HRES := hid hRES
 unfold memV
 rw [hm] at hV1 hll HX1 ⊢
 have HMM := hid hm
 obtain ⟨n, hn⟩ := nm (M.W.length)
 rw [hn] at hV1 hwl hll HX1 HMM ⊢
 have HN := hid hn
 clear h hi hl hws hw6 hb1 hs1 hl1 hRES hm hn
 go_enter Tryz.func98, Tryz.ntmps98
 go_wp2
 go_loopg [10] m (fun g i wr => ∃ (k : Nat) (met2 : List Nat), g + k = m ∧ i = .int .i64 k ∧ Hid (V1.grownBy wr (some mb)) ∧ Hid (IdsJ wr mb (ones met2)) ∧ Hid (meetP M (ws.drop k) met2 = RES) ∧ Hid (met2.length = met.length + k))
 case atStart => exact ⟨0, met, rfl, rfl, hid (grownBy_refl _ _), HI1, HRES, hid rfl⟩
 case round =>
  obtain ⟨k, met2, hk, rfl, hG, hI, hR, hlen⟩ := hrel
  have HK := hid hk
  clear hk
  by_cases hlt : k < m
  ·obtain ⟨w, hwk⟩ : ∃ x, ws[k]? = some x := ⟨_, List.getElem?_eq_getElem (by rw [HWS.out]; exact hlt)⟩
   have hw6 := HW6.out w (List.mem_of_getElem? hwk)
   have hR2 := hR.out
   rw [List.drop_eq_getElem_cons (by rw [HWS.out]; exact hlt), (List.getElem?_eq_some_iff.1 hwk).2] at hR2
   unfold meetP at hR2
   have HR2 := hid hR2
   obtain ⟨x0, x1, x2⟩ := cells3 (kgr HX1.out hG.out (fun e => HNX.out (Option.some.inj e)))
   obtain ⟨bb, bo, rfl, -, hc⟩ := (HL1.out.grownM HI1.out hG.out).at hlt (mcell_at hwk)
   have f0 := hc _ (Below.refl _ _)
   have hrun := hI.out.run (k := w) (by omega) (t := 165) Tryz.underlying165
   rw [atM_ones] at hrun
   have t0 : decide (((w : Nat) : Int) < 0) = false := decide_eq_false (by omega)
   clear hc hwk hR2 hR
   by_cases hwn : w < n
   ·have t1 : decide (((n : Nat) : Int) ≤ ((w : Nat) : Int)) = false := decide_eq_false (by omega)
    obtain ⟨bv, hbv⟩ : ∃ x, M.L[w]? = some x := ⟨_, List.getElem?_eq_getElem (by rw [HMM.out]; exact hwn)⟩
    have hML := HM1.out.l.grownM HI1.out hG.out
    rw [HMM.out] at hML
    obtain ⟨lb, lo, rfl, -, hc⟩ := hML.at hwn (bcell_at hbv)
    have f1 := hc _ (Below.refl _ _)
    have HBV := hid hbv
    clear hc hbv hML
    cases bv
    case' false =>
     have HF : Hid (freeB M met2 w = false) := hid (by unfold freeB liveN; rw [HBV.out]; rfl)
     go_wp2
     exact ⟨rfl, grownBy_trans HG1.out hG.out, .inr ⟨by rw [← HR2.out, HF.out]; rfl, rfl⟩⟩
    case' true =>
     by_cases hmem : w ∈ met2
     ·rw [if_pos hmem] at hrun
      have HF : Hid (freeB M met2 w = false) := hid (by unfold freeB liveN; rw [HBV.out, decide_eq_true hmem]; rfl)
      clear hmem
      go_wp2
      exact ⟨rfl, grownBy_trans HG1.out hG.out, .inr ⟨by rw [← HR2.out, HF.out]; rfl, rfl⟩⟩
     ·rw [if_neg hmem] at hrun
      have HF : Hid (freeB M met2 w = true) := hid (by unfold freeB liveN; rw [HBV.out, decide_eq_false hmem]; rfl)
      have HR3 : Hid (meetP M (ws.drop (k + 1)) (met2 ++ [w]) = RES) := hid (by have := HR2.out; rwa [if_pos HF.out] at this)
      have HI2 := hI
      clear hmem hI
      have q1 : (ones met2).length ≤ 100000 := by simp [ones]; have := hlen.out; omega
      go_wp2_with ((with_reducible show wpList _ _ _ _ _ _); refine wp_putG rfl (.tmp 39) (.tmp 40) (.const (.int .i64 1)) 165 rfl Tryz.underlying165 mb w 1 (ones met2) rfl HI2.out q1 rfl rfl ?c2 ?c3 ?c4)
      case c2 => omega
      case c3 => decide
      case c4 =>
       intro w3 hi hg
       rw [ones_snoc] at hi
       have HI3 := hid hi
       have HG3 := hid (grownBy_trans hG.out hg)
       clear hi hg hrun x0 x1 x2 f0 f1
       go_wp2
       go_roundg (gk - 1)
       case measure => have := HK.out; omega
       case rel => exact ⟨k + 1, _, by have := HK.out; omega, by go_num, HG3, HI3, HR3, hid (by rw [List.length_append, hlen.out]; simp; omega)⟩
   ·have t1 : decide (((n : Nat) : Int) ≤ ((w : Nat) : Int)) = true := decide_eq_true (by omega)
    have HF : Hid (freeB M met2 w = false) := hid (by unfold freeB liveN; rw [List.getElem?_eq_none (by rw [HMM.out]; omega)]; rfl)
    go_wp2
    exact ⟨rfl, grownBy_trans HG1.out hG.out, .inr ⟨by rw [← HR2.out, HF.out]; rfl, rfl⟩⟩
  ·have e := HK.out
   have HE : Hid (RES = some met2) := hid (by rw [← hR.out, List.drop_of_length_le (by rw [HWS.out]; omega)]; rfl)
   clear e
   go_wp2
   go_end0
   exact ⟨grownBy_trans HG1.out hG.out, .inl ⟨met2, HE.out, rfl, hI.out⟩⟩
end Go.Proofs.YtipohagcppfgiaaGreat
