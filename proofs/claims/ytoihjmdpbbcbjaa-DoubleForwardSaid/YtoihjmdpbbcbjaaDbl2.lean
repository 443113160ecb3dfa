/- Lists linked both ways: a list that is gone through. -/
import Derived.Test.YtoihjmdpbbcbjaaDbl1
namespace Go.Proofs.Ytoihjmdpbbcbjaa
open Go.RowKit
open Go.Proofs
set_option linter.unusedVariables false

def liveN (M : Mem) (w : Nat) : Bool := (M.L[w]?).getD false
def freeB (M : Mem) (met : List Nat) (w : Nat) : Bool := liveN M w && !decide (w ∈ met)
/-- Words are taken. -/
def takeP (M : Mem) (p : Nat) : List Nat → List Nat → Option (List Nat)
  | [], met => some met
  | k :: ks, met => if freeB M met (posN p k) = true then takeP M p ks (met ++ [posN p k]) else none
def ones (met : List Nat) : List (Nat × Nat) := met.map fun x => (x, 1)
theorem atM_ones (met : List Nat) (w : Nat) : atMJ (ones met) w = if w ∈ met then 1 else 0 := by
  refine snocRec (p := fun l => atMJ (ones l) w = if w ∈ l then 1 else 0) rfl (fun l x h => ?_) met
  unfold ones at h ⊢
  rw [List.map_append, List.map_singleton, atM_snocJ, h]
  by_cases e : x = w
  · subst e; simp
  · simp only [if_neg e, List.mem_append, List.mem_singleton]
    by_cases hm : w ∈ l
    · simp [hm]
    · rw [if_neg hm, if_neg]
      rintro (h | h)
      · exact hm h
      · exact e h.symm
theorem ones_snoc (met : List Nat) (w : Nat) : ones met ++ [(w, 1)] = ones (met ++ [w]) := by simp [ones]
theorem IdsJ.run {w : World} {b k : Nat} {l : List (Nat × Nat)} (h : IdsJ w b l) (hk : k < 9223372036854775808) {t : TypeId} (ht : Try.prog.underlying t = some (.map 3 3)) :
    (Instr.lookup t (.map (some b)) (.int .i64 ((k : Nat) : Int)) false).run Try.prog w = .ok (.int .i64 ((atMJ l k : Nat) : Int)) w := by
  obtain ⟨c, hrun, hat, -⟩ := World.ownsMap.lookup_int h keyedUJ ht Try.underlying3 (by kernel_rfl) (keyUJ hk)
  rw [mapD_atJ] at hat
  obtain rfl : c = ((atMJ l k : Nat) : Int) := by simp at hat; omega
  exact hrun
/-- A list that is gone through. -/
structure Lst (Lb mb : Nat) (wa : Option Addr) (wc : Nat) (la : Option Addr) (lc n head : Nat) (M : Mem) (met : List Nat) (V : World) : Prop where
  blk : V.heap[Lb]? = some (.cells #[.slice wa n wc, .slice la n lc, .bool M.F, .int .u64 ((head : Nat) : Int), .map (some mb)] 104 (0, 0))
  mem : MemL V wa wc la lc M
  ids : IdsJ V mb (ones met)
theorem map_cell {V : World} {mb : Nat} {l : List (Nat × Nat)} (h : IdsJ V mb l) (i : Nat) : V.cell? ⟨mb, i, none⟩ = none := by
  obtain ⟨es, clock, hb, -⟩ := h
  simp [World.cell?, hb]
theorem Leads.grownM {V V' : World} {a : Option Addr} {n cap mb : Nat} {cs : List Value} {l : List (Nat × Nat)} (h : Leads V a n cap cs) (hm : IdsJ V mb l) (hg : V.grownBy V' (some mb)) : Leads V' a n cap cs := by
  obtain ⟨h1, h2, ⟨h3, h4⟩ | ⟨b, off, h3, h4, h5⟩⟩ := h
  · exact ⟨h1, h2, .inl ⟨h3, h4⟩⟩
  · refine ⟨h1, h2, .inr ⟨b, off, h3, Nat.lt_of_lt_of_le h4 hg.size, fun i v hv => ?_⟩⟩
    have hc := h5 i v hv
    by_cases e : mb = b
    · subst e; rw [map_cell hm] at hc; cases hc
    · have := hg.block b h4 (fun e' => e (Option.some.inj e').symm)
      unfold World.cell? at hc ⊢
      rw [this]
      exact hc
theorem grownBy_refl (V : World) (r : Option Nat) : V.grownBy V r := ⟨rfl, rfl, rfl, Nat.le_refl _, fun _ _ _ => rfl⟩
theorem grownBy_below {V V' : World} (h : Below V.heap.size V V') (r : Option Nat) : V.grownBy V' r := ⟨h.os, h.tape, h.output, h.size, fun k hk _ => h.block k hk⟩
theorem grownBy_trans {A B C : World} {r : Option Nat} (h : A.grownBy B r) (k : B.grownBy C r) : A.grownBy C r :=
  ⟨k.os.trans h.os, k.tape.trans h.tape, k.output.trans h.output, Nat.le_trans h.size k.size, fun b hb hr => (k.block b (Nat.lt_of_lt_of_le hb h.size) hr).trans (h.block b hb hr)⟩
section
variable {Lb mb : Nat} {wa : Option Addr} {wc : Nat} {la : Option Addr} {lc n head : Nat} {M : Mem} {met : List Nat} {V V' : World}
theorem Lst.grow (h : Lst Lb mb wa wc la lc n head M met V) (hb : Below V.heap.size V V') : Lst Lb mb wa wc la lc n head M met V' := ⟨keep_laid h.blk hb, h.mem.grow hb, h.ids.grow hb⟩
theorem Lst.ne (h : Lst Lb mb wa wc la lc n head M met V) : mb ≠ Lb := by
  rintro rfl
  obtain ⟨es, clock, hb, -⟩ := h.ids
  have := h.blk
  rw [hb] at this
  cases this
theorem Lst.put {l : List Nat} (h : Lst Lb mb wa wc la lc n head M met V) (hg : V.grownBy V' (some mb)) (hi : IdsJ V' mb (ones l)) : Lst Lb mb wa wc la lc n head M l V' :=
  ⟨keep_grown h.blk hg (fun e => h.ne (Option.some.inj e)), ⟨h.mem.w.grownM h.ids hg, h.mem.l.grownM h.ids hg⟩, hi⟩
end

theorem wp_putG {w : World} {ops : Array Oper} {rest : List Oper} {o : Oper} {a : Act} {Q : Exit → Act → World → Prop} (hg : o.guard = none) (m x v : Operand) (t : TypeId) (hop : o.op = Op.mapUpdate t m x v) (ht : Try.prog.underlying t = some (.map 3 3))
    (b k u : Nat) (l : List (Nat × Nat)) (hm : a.eval m = .map (some b)) (hown : IdsJ w b l) (hl : l.length ≤ 100000) (hx : a.eval x = .int .i64 ((k : Nat) : Int)) (hv : a.eval v = .int .i64 ((u : Nat) : Int)) (hk : k < 9223372036854775808) (hu : u < 9223372036854775808)
    (h : ∀ w', IdsJ w' b (l ++ [(k, u)]) → w.grownBy w' (some b) → wpList Try.prog ops Q rest (a.put o.dst undef) w') : wpList Try.prog ops Q (o :: rest) a w := by
  refine wpList_mapUpdate_own w hg m x v t hop 3 3 keyedUJ ht (plainElem Try.prog 3) b l.length (mapDJ l) hm hown (by unfold maxLen; omega) _ _ _ hx hv (keyUJ hk) _ [] (plainElem_int Try.underlying3 (wfUJ hu)) ?_
  intro w' h1 h2
  refine h w' ?_ h2
  unfold IdsJ
  rw [mapD_snocJ, List.length_append]
  exact h1

theorem word_ret (p k : Nat) (V : World) (hp : p < 18446744073709551616) (hk : k ≤ 1000) : Calls Try.prog 40 #[.int .u64 ((p : Nat) : Int), .int .i64 ((k : Nat) : Int)] V (Ret (.int .i64 ((posN p k : Nat) : Int)) V) :=
  (word_any p k V hp hk).mono fun e W h => by obtain ⟨rfl, rfl⟩ := h; exact ⟨rfl, Below.refl _ _⟩

set_option maxRecDepth 100000 in
set_option maxHeartbeats 1000000 in
theorem holds_any {Lb mb : Nat} {wa : Option Addr} {wc : Nat} {la : Option Addr} {lc n head : Nat} {M : Mem} {met : List Nat} (p k x : Nat) (V : World) (h : Lst Lb mb wa wc la lc n head M met V) (hn : M.W.length = n) (hp : p < 18446744073709551616) (hk : k ≤ 1000) (hx : M.W[posN p k]? = some x) :
    Calls Try.prog 65 #[.pointer (some ⟨Lb, 0, none⟩), .int .u64 ((p : Nat) : Int), .int .i64 ((k : Nat) : Int)] V (Ret (.int .u64 ((x : Nat) : Int)) V) := by
  obtain ⟨q, hq⟩ : ∃ q, posN p k = q := ⟨_, rfl⟩
  have HW := hid (fun V => word_ret p k V hp hk)
  rw [hq] at HW hx
  have hqn : q < n := by rw [← hn]; exact (List.getElem?_eq_some_iff.1 hx).1
  obtain ⟨b, off, rfl, hb, hc⟩ := h.mem.w.at (by rw [hn]; exact hqn) (wcell_at hx)
  have b0 : ∀ z : Ext V, z.v.cell? ⟨Lb, 0, none⟩ = some (.slice (some ⟨b, off, none⟩) n wc) := fun z => cell_laid (keep_laid h.blk z.b) rfl
  have f0 : ∀ z : Ext V, z.v.cell? ⟨b, off + q, none⟩ = some (.int .u64 ((x : Nat) : Int)) := fun z => hc z.v z.b
  have hl := h.mem.w.len
  rw [hn] at hl
  clear hc hx hn h hq hb
  go_enter Try.func65, Try.ntmps65
  go_upto_region 1 with (fail)
  refine wp_region_ext (by kernel_rfl) (by kernel_rfl) ?_
  repeat (go_big_quiet_step ((go_at_call 40; exact ext_of (HW.out _))))
  refine wpQuiet_nil ?_
  rintro _ ⟨z2, rfl⟩
  go_wp2
  go_ret
  exact ⟨rfl, z2.b⟩

set_option maxRecDepth 100000 in
set_option maxHeartbeats 2000000 in
theorem takes1_any {Lb mb : Nat} {wa : Option Addr} {wc : Nat} {la : Option Addr} {lc n head : Nat} {M : Mem} {met : List Nat} (G X w : Nat) (V : World) (h : Lst Lb mb wa wc la lc n head M met V) (hn : M.L.length = n) (hn4 : n ≤ 4096) (hw : w ≤ 1000000) (hm : met.length ≤ 10000)
    (hG : V.cell? ⟨G, 0, none⟩ = some (.int .i64 ((w : Nat) : Int))) (hX : V.cell? ⟨X, 0, none⟩ = some (.pointer (some ⟨Lb, 0, none⟩))) :
    Calls Try.prog 77 #[.slice (some ⟨G, 0, none⟩) 1 1, .pointer (some ⟨X, 0, none⟩)] V (fun e V' =>
      (freeB M met w = true ∧ e = .returned (.tuple #[]) ∧ Lst Lb mb wa wc la lc n head M (met ++ [w]) V' ∧ V.grownBy V' (some mb)) ∨ (freeB M met w = false ∧ e = .panicked brk ∧ V' = V)) := by
  have b0 : V.cell? ⟨Lb, 0, none⟩ = some (.slice wa n wc) := cell_laid h.blk rfl
  have b1 : V.cell? ⟨Lb, 1, none⟩ = some (.slice la n lc) := cell_laid h.blk rfl
  have b4 : V.cell? ⟨Lb, 4, none⟩ = some (.map (some mb)) := cell_laid h.blk rfl
  have HN := hid hn
  have H := hid h
  have hwl := h.mem.w.len
  have hll := h.mem.l.len
  rw [hn] at hll
  have HLL := hid (show Leads V la n lc (bcells M.L) from by have := h.mem.l; rw [hn] at this; exact this)
  have hrun := h.ids.run (k := w) (by omega) (t := 72) Try.underlying72
  rw [atM_ones] at hrun
  have hmk := @keyUJ
  clear h hn
  go_enter Try.func77, Try.ntmps77
  go_wp2
  go_loopg [7] 1 (fun g i wr => (g = 1 ∧ i = .int .i64 0 ∧ wr = V) ∨ (g = 0 ∧ i = .int .i64 1 ∧ Hid (freeB M met w = true) ∧ Hid (Lst Lb mb wa wc la lc n head M (met ++ [w]) wr) ∧ Hid (V.grownBy wr (some mb))))
  case atStart => exact .inl ⟨rfl, rfl, rfl⟩
  case round =>
    rcases hrel with ⟨rfl, rfl, hwr⟩ | ⟨rfl, rfl, hfr, hL, hg⟩
    · subst hwr
      by_cases hlt : w < n
      · obtain ⟨b, hb⟩ : ∃ b, M.L[w]? = some b := ⟨_, List.getElem?_eq_getElem (by rw [HN.out]; exact hlt)⟩
        obtain ⟨bb, oo, rfl, -, hc⟩ := HLL.out.at hlt (bcell_at hb)
        have f1 := hc _ (Below.refl _ _)
        have HB := hid hb
        clear hc hb
        cases b
        case' false =>
          have HF : Hid (freeB M met w = false) := hid (by unfold freeB liveN; rw [HB.out]; rfl)
          go_wp2_with fail
          refine (need_no _).mono ?_
          rintro e w2 ⟨rfl, rfl⟩
          exact ⟨rfl, .inr ⟨HF.out, rfl, rfl⟩⟩
        case' true =>
          by_cases hmem : w ∈ met
          · rw [if_pos hmem] at hrun
            have HF : Hid (freeB M met w = false) := hid (by unfold freeB liveN; rw [HB.out, decide_eq_true hmem]; rfl)
            clear hmem
            go_wp2_with fail
            refine (need_no _).mono ?_
            rintro e w2 ⟨rfl, rfl⟩
            exact ⟨rfl, .inr ⟨HF.out, rfl, rfl⟩⟩
          · rw [if_neg hmem] at hrun
            have HF : Hid (freeB M met w = true) := hid (by unfold freeB liveN; rw [HB.out, decide_eq_false hmem]; rfl)
            clear hmem
            go_wp2_with fail
            refine (need_yes _).mono ?_
            rintro e w2 ⟨rfl, hw2⟩
            subst hw2
            go_wp2_with ((with_reducible show wpList _ _ _ _ _ _); refine wp_putG rfl (.tmp 42) (.tmp 43) (.const (.int .i64 1)) 72 rfl Try.underlying72 mb w 1 (ones met) rfl H.out.ids ?c1 rfl rfl ?c2 ?c3 ?c4)
            case c1 => simp [ones]; omega
            case c2 => omega
            case c3 => decide
            case c4 =>
              intro w3 hi hg
              rw [ones_snoc] at hi
              have HL := hid (H.out.put hg hi)
              have HG := hid hg
              clear hi hg hrun
              go_wp2
              go_roundg 0
              case measure => omega
              case rel => exact .inr ⟨rfl, rfl, HF, HL, HG⟩
      · have HF : Hid (freeB M met w = false) := hid (by unfold freeB liveN; rw [List.getElem?_eq_none (by rw [HN.out]; omega)]; rfl)
        go_wp2_with fail
        refine (need_no _).mono ?_
        rintro e w2 ⟨rfl, rfl⟩
        exact ⟨rfl, .inr ⟨HF.out, rfl, rfl⟩⟩
    · go_wp2
      go_end0
      exact .inl ⟨hfr.out, rfl, hL.out, hg.out⟩
end Go.Proofs.Ytoihjmdpbbcbjaa
