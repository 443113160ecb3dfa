/- Mounts: All, on no mounts (a loop by goto; printed by gen_all.py). -/
import Derived.Test.YtbfhppafffhlkaaMount13
import Derived.Test.YtbfhppafffhlkaaRegion2
import Derived.ScopeJumps
import Derived.WalkMore
import Derived.Deep.DeepCutAuto
import Derived.Deep.CutBlock
namespace Go.Proofs.Ytbfhppafffhlkaa
open Go.RowKit
open Go.Proofs
set_option linter.unusedVariables false

/-- The first k paths with the ids from 1. -/
def accM (xs : List Nat) (k : Nat) : List (Nat × Nat) := (xs.take k).zipIdx 1
theorem accM_len {xs : List Nat} {k : Nat} (h : k ≤ xs.length) : (accM xs k).length = k := by simp [accM]; omega
theorem accM_succ {xs : List Nat} {k x : Nat} (h : xs[k]? = some x) : accM xs (k + 1) = accM xs k ++ [(x, k + 1)] := by
  obtain ⟨hk, _⟩ := List.getElem?_eq_some_iff.1 h
  have e : min k xs.length = k := by omega
  unfold accM
  rw [List.take_add_one, h, List.zipIdx_append, List.length_take, e, Nat.add_comm 1 k]
  rfl
theorem accM_ok {xs : List Nat} {k : Nat} (hk : k ≤ 1000) (h : ∀ x ∈ xs, x < 18446744073709551616) : mok (accM xs k) := by
  intro p hp
  unfold accM at hp
  obtain ⟨h1, h2, h3⟩ := List.mem_zipIdx hp
  rw [List.length_take] at h2
  refine ⟨?_, by omega⟩
  rw [h3]
  exact h _ (List.mem_of_mem_take (List.getElem_mem _))
theorem nums_succ (k : Nat) : List.range' 1 (k + 1) = List.range' 1 k ++ [k + 1] := by
  rw [List.range'_concat, Nat.mul_comm, Nat.mul_one, Nat.add_comm 1 k]

/-- What holds at each jump. -/
structure AllJ (xs : List Nat) (B p : Nat) (w : World) (k N : Nat) (va ua : Option Addr) (vc uc : Nat) (W : World) : Prop where
  le : k ≤ p
  nx : N = k + 1
  box : W.heap[B]? = some (.cells #[.slice va k vc, .int .u64 ((N : Nat) : Int)] 25 (0, 0))
  out : W.heap[B + 1]? = some (.cells #[.slice none 0 0, .int .u64 0] 25 (0, 0))
  row : W.ownsRow (B + 2) 51 2 (.slice va k vc) k (mcells (accM xs k))
  ids : W.ownsRow (B + 2) 23 1 (.slice ua k uc) k (wcells (List.range' 1 k))
  below : Below w.heap.size w W
  size : B + 2 ≤ W.heap.size
def lenOf : Value → Nat | .slice _ n _ => n | _ => 0

/-- A world in which two cells of a box, and a cell of a row, are as they were. -/
structure Boxed3 (b : Nat) (ad : Addr) (v0 v1 v2 : Value) where
  v : World
  h0 : v.cell? ⟨b, 0, none⟩ = some v0
  h1 : v.cell? ⟨b, 1, none⟩ = some v1
  h2 : v.cell? ad = some v2

/-- As wp_append1; all blocks but the row's own one stay. -/
theorem wp_append1g {P : Program} {w : World} {ops : Array Oper} {rest : List Oper} {o : Oper} {a : Act} {Q : Exit → Act → World → Prop} {t e : TypeId} {size bytes : Nat} (I : Elem P t e size bytes) (hgd : o.guard = none) (s x : Operand)
    (ho : o.op = .call { callee := .builtin .append, args := #[s, x], argTypes := #[t, t] })
    (base : Nat) (v : Value) (n : Nat) (xs : List Value) (hs : a.eval s = v) (hown : w.ownsRow base e size v n xs)
    (B : Nat) (news : List Value) (hx : a.eval x = .slice (some ⟨B, 0, none⟩) 1 1) (hl : news.length = size) (hnews : ∀ (j : Nat) u, news[j]? = some u → w.cell? ⟨B, j, none⟩ = some u) (h1 : ∀ u ∈ news, u.oneCell' = true)
    (hn : n ≤ 1000000) (hbase : base ≤ w.heap.size)
    (h : ∀ v' w', w'.ownsRow base e size v' (n + 1) (xs ++ news) → Below base w w' → w.grownBy w' v.ownBlock → wpList P ops Q rest (a.put o.dst v') w') : wpList P ops Q (o :: rest) a w := by
  obtain ⟨i, z, hi, hz, h2, h3, h4⟩ := I.info
  refine wpList_append_own w hgd s x t ho base e i z size bytes I.under hi hz h2 h3 h4 I.pos v n xs hs hown ⟨B, 0, none⟩ 1 1 news hx (by omega) ?_ h1 (by unfold maxLen; omega) ?_ hbase ?_
  · intro j u hj
    have := hnews j u hj
    rcases j with _ | j
    · simpa [Addr.add] using this
    · simpa [Addr.add] using this
  · have := Nat.mul_le_mul (Nat.add_le_add_right hn 1) I.small
    omega
  · intro v' w' hown' hg _
    exact h v' w' hown' (own_below hown hg hbase) hg
theorem own_apart {w w' : World} {base n size : Nat} {e : TypeId} {v : Value} {xs : List Value} {r : Option Nat} (h : w.ownsRow base e size v n xs) (hg : w.grownBy w' r) (hr : ∀ k, r = some k → k < base) : w'.ownsRow base e size v n xs := by
  refine ⟨h.1, ?_⟩
  rcases h.2 with hn | ⟨g, cap, cur, hv, hb, hgg, rest⟩
  · exact .inl hn
  · refine .inr ⟨g, cap, cur, hv, hb, (hg.block g (lt_laid hgg) ?_).trans hgg, rest⟩
    intro he
    have := hr g he.symm
    omega
theorem keep_grown {w w' : World} {b : Nat} {o : Obj} {r : Option Nat} (h : w.heap[b]? = some o) (hg : w.grownBy w' r) (hr : ∀ k, r = some k → k ≠ b) : w'.heap[b]? = some o :=
  (hg.block b (lt_laid h) (fun he => hr b he.symm rfl)).trans h
theorem own_lt {w : World} {base n size : Nat} {e : TypeId} {v : Value} {xs : List Value} (h : w.ownsRow base e size v n xs) (k : Nat) (hk : v.ownBlock = some k) : k < w.heap.size := by
  rcases h.2 with ⟨rfl, _⟩ | ⟨g, cap, cur, rfl, _, hh, _⟩
  · cases hk
  · have e : g = k := by simpa [Value.ownBlock] using hk
    subst e
    exact lt_laid hh

/-- What holds behind the call of Add. -/
structure AllM (xs : List Nat) (B : Nat) (w : World) (k N N2 : Nat) (va ua va' : Option Addr) (vc uc vc' S D : Nat) (V : World) : Prop where
  box : V.heap[B]? = some (.cells #[.slice va k vc, .int .u64 ((N : Nat) : Int)] 25 (0, 0))
  out : V.heap[B + 1]? = some (.cells #[.slice none 0 0, .int .u64 0] 25 (0, 0))
  blk : V.heap[D]? = some (.cells #[.slice va' (k + 1) vc', .int .u64 ((N2 : Nat) : Int)] 25 (0, 0))
  row : V.ownsRow S 51 2 (.slice va' (k + 1) vc') (k + 1) (mcells (accM xs (k + 1)))
  ids : V.ownsRow (B + 2) 23 1 (.slice ua k uc) k (wcells (List.range' 1 k))
  idlt : ∀ g, (Value.slice ua k uc).ownBlock = some g → g < S
  dS : S ≤ D
  bS : B + 2 ≤ S
  below : Below w.heap.size w V
  size : S ≤ V.heap.size
theorem AllM.drew {xs : List Nat} {B : Nat} {w : World} {k N N2 : Nat} {va ua va' : Option Addr} {vc uc vc' S D : Nat} {V : World} (h : AllM xs B w k N N2 va ua va' vc uc vc' S D V) : AllM xs B w k N N2 va ua va' vc uc vc' S D V.drew :=
  ⟨h.box, h.out, h.blk, h.row, h.ids, h.idlt, h.dS, h.bS, h.below.drew, h.size⟩

/-- What Add gives in a round. -/
def AddK (xs : List Nat) (k N N2 : Nat) (W : World) (e : Ending) (W' : World) : Prop :=
  ∃ va vc, e = .returned (.tuple #[.agg #[.slice va (k + 1) vc, .int .u64 ((N2 : Nat) : Int)], .int .u64 ((N : Nat) : Int), .int .i64 0]) ∧ W'.ownsRow W.heap.size 51 2 (.slice va (k + 1) vc) (k + 1) (mcells (accM xs (k + 1))) ∧ Below W.heap.size W W'
theorem add_round {xs : List Nat} {k N N2 x vc : Nat} {va : Option Addr} {W : World} (hN : N = k + 1) (hN2 : N2 = k + 2) (hx : xs[k]? = some x) (hk : k ≤ 1000) (hxs : ∀ x ∈ xs, x < 18446744073709551616) (hE : addE (accM xs k) (k + 1) x = 0) (h : Leads W va k vc (mcells (accM xs k))) :
    Calls Try.prog 13 #[.agg #[.slice va k vc, .int .u64 ((N : Nat) : Int)], .int .u64 ((x : Nat) : Int)] W (AddK xs k N N2 W) := by
  subst hN hN2
  obtain ⟨hlt, _⟩ := List.getElem?_eq_some_iff.1 hx
  have hl : (accM xs k).length = k := accM_len (Nat.le_of_lt hlt)
  refine (mAdd_any (accM xs k) va k vc (k + 1) x W hl (accM_ok hk hxs) hk (by omega) (hxs x (List.mem_of_getElem? hx)) h).mono ?_
  rintro e W' ⟨v, h1, hb⟩
  rw [if_pos hE] at h1
  obtain ⟨rfl, ho⟩ := h1
  rw [hl, ← accM_succ hx] at ho
  obtain ⟨va', vc', rfl, -⟩ := Leads.of_own ho
  exact ⟨va', vc', rfl, ho, hb⟩

theorem wp_scope_jumps2 {P : Program} {Q : Exit → Act → World → Prop} {a : Act} {w : World} {c rest : Code} (l : Nat) (J : Act → World → Prop) (μ : Act → World → Nat) (hf : findLabel c l = some (.seq .skip rest))
    (pass : ∀ a w, J a w → rest.wp P (Exit.jump l (fun a' w' => J a' w' ∧ μ a' w' < μ a w) Q) a w)
    (first : (∀ a w, J a w → rest.wp P (Exit.jump l J Q) a w) → c.wp P (Exit.jump l J Q) a w) : (Code.scope c).wp P Q a w := by
  refine wp_scope_jumps l J μ hf (first fun a w hJ => Code.wp_mono ?_ (pass a w hJ)) (fun a w hJ => wp_seq (wp_skip (pass a w hJ)))
  intro e a' w' h
  cases e <;> simp only [Exit.jump] at h ⊢ <;> first | exact h | exact ⟨h.1, h.2.1⟩

theorem all_result {W : World} {b : Nat} {v0 v1 v5 v6 : Value} {tmps : Array Value} (h : W.heap[b]? = some (.cells #[v0, v1] 25 (0, 0))) (hp : tmps[4]?.getD undef = .pointer (some ⟨b, 0, none⟩)) (h5 : tmps[5]?.getD undef = v5) (h6 : tmps[6]?.getD undef = v6) :
    (results Try.f25 tmps).run Try.prog W = .ok (.tuple #[.agg #[v0, v1], v5, v6]) W := by
  have h0 := cell_laid (i := 0) (v := v0) h rfl
  have h1 := cell_laid (i := 1) (v := v1) h rfl
  simp [results, Try.results25, go_sem, hp, h5, h6, h0, h1]

/-- What All gives where all can be added. -/
def AllP (xs : List Nat) (p : Nat) (w : World) (e : Ending) (w' : World) : Prop :=
  ∃ v u, e = .returned (.tuple #[.agg #[v, .int .u64 ((p + 1 : Nat) : Int)], u, .int .i64 0]) ∧ w'.ownsRow w.heap.size 51 2 v p (mcells (accM xs p)) ∧ w'.ownsRow w.heap.size 23 1 u p (wcells (List.range' 1 p)) ∧ Below w.heap.size w w'

set_option maxRecDepth 100000 in
set_option maxHeartbeats 2000000 in
theorem mAll_any (xs : List Nat) (pa : Option Addr) (p pcap : Nat) (w : World) (hl : xs.length = p) (hp : p ≤ 1000) (hx : ∀ x ∈ xs, x < 18446744073709551616) (h : Leads w pa p pcap (wcells xs)) (hE : ∀ (k x : Nat), xs[k]? = some x → addE (accM xs k) (k + 1) x = 0) :
    Calls Try.prog 25 #[.agg #[.slice none 0 0, .int .u64 1], .slice pa p pcap] w (AllP xs p w) := by
  obtain ⟨B, hB⟩ : ∃ B, w.heap.size = B := ⟨_, rfl⟩
  obtain ⟨w1, hw1, hb1, hs1, hl1⟩ := laid w #[.slice none 0 0, .int .u64 1] 25
  obtain ⟨w2, hw2, hb2, hs2, hl2⟩ := laid w1 #[.slice none 0 0, .int .u64 0] 25
  have hb02 := step hb1 hb2
  rw [hB] at hs1 hl1
  rw [hs1] at hs2 hl2
  have L1 := keep_laid hl1 hb2
  have HL1 := hid L1
  have HL2 := hid hl2
  have hc0 : w2.cell? ⟨B, 0, none⟩ = some (.slice none 0 0) := cell_laid L1 rfl
  have hc1 : w2.cell? ⟨B, 1, none⟩ = some (.int .u64 1) := cell_laid L1 rfl
  have hC : Calls Try.prog 19 #[.agg #[.slice none 0 0, .int .u64 1]] w2 (Ret (.int .i64 0) w2) := mCheck_any [] none 0 0 1 w2 rfl (fun p hp => nomatch hp) (by decide) (by decide) ⟨Nat.le_refl _, Nat.zero_le _, .inl ⟨rfl, rfl⟩⟩
  have hC2 : ∀ W, Calls Try.prog 28 #[.slice none 0 0] W (Fresh 51 2 0 [] W) := fun W => CloneM_any none 0 0 [] W ⟨Nat.le_refl _, Nat.zero_le _, .inl ⟨rfl, rfl⟩⟩ rfl (by decide) (fun u hu => nomatch hu)
  have HC := hid hC
  have HC2 := hid hC2
  have hsz2 : B + 2 ≤ w2.heap.size := by omega
  have hwB : w.heap.size ≤ B := by omega
  have hpc := h.len.1
  have H := hid h
  have HL := hid hl
  have HX := hid hx
  have HE := hid hE
  clear hl1 hl2 L1 hs2 hC hC2 h hl hx hE
  go_enter Try.func25, Try.ntmps25
  go_wp2
  refine wp_scope_jumps2 0 (fun a' W => ∃ (k N : Nat) (va ua : Option Addr) (vc uc : Nat) (u3 u5 u6 u7 u9 u10 u11 u12 u13 u14 u15 u16 u17 u18 u19 u20 u21 u22 u23 u24 u25 u26 u27 u28 u29 u30 u31 u32 u33 u34 u35 u36 u37 u38 u39 u40 u41 u42 u43 u44 u45 u46 u47 u48 : Value), a' = { tmps := #[.agg #[.slice none 0 0, .int .u64 1], .slice pa p pcap, .pointer (some ⟨B, 0, none⟩), u3, .pointer (some ⟨B + 1, 0, none⟩), u5, u6, u7, .slice ua k uc, u9, u10, u11, u12, u13, u14, u15, u16, u17, u18, u19, u20, u21, u22, u23, u24, u25, u26, u27, u28, u29, u30, u31, u32, u33, u34, u35, u36, u37, u38, u39, u40, u41, u42, u43, u44, u45, u46, u47, u48], defers := [] } ∧ AllJ xs B p w k N va ua vc uc W) (fun a' _ => p - lenOf (a'.tmps.getD 8 undef)) rfl ?pass ?first
  case first =>
    intro hgo
    go_wp2_with fail
    refine HC.out.mono ?_
    rintro e w3 ⟨rfl, hb3⟩
    have k0 : w3.cell? ⟨B, 0, none⟩ = some (.slice none 0 0) := cell_laid (keep_laid HL1.out hb3) rfl
    go_wp2_with fail
    refine (HC2.out _).mono ?_
    rintro e w4 ⟨v, rfl, ho, hb4⟩
    obtain ⟨va, vc, rfl, -⟩ := Leads.of_own ho
    have hb24 := step hb3 hb4
    have j1 := keep_laid HL1.out hb24
    have j2 := keep_laid HL2.out hb24
    have hf0 := free_laid (i := 0) j1
    have hd0 := cell_laid (i := 0) j1 rfl
    have J1 := hid (set_laid (i := 0) j1 (.slice va 0 vc))
    have J2 := hid (other_laid j2 (show B + 1 ≠ B by omega) (i := 0) (.slice va 0 vc))
    have hsz3 := hb3.size
    have hsz4 := hb4.size
    have HO := hid (own_base (ownsRow_setCell_below (a := ⟨B, 0, none⟩) ho (by show B < _; omega) (.slice va 0 vc)) (show B + 2 ≤ _ by omega))
    have HB4 := hid ((step hb02 hb24).setCell (p := ⟨B, 0, none⟩) (by show w.heap.size ≤ B; omega) (.slice va 0 vc))
    clear j1 j2 ho
    go_wp2
    go_step3
    rename_i KK hKK
    show KK _ _
    refine hKK _ _ (hgo _ _ ?_)
    refine ⟨0, 1, va, none, vc, 0, _, _, _, _, _, _, _, _, _, _, _, _, _, _, _, _, _, _, _, _, _, _, _, _, _, _, _, _, _, _, _, _, _, _, _, _, _, _, _, _, _, _, _, _, rfl, Nat.zero_le _, rfl, J1.out, J2.out, HO.out, World.ownsRow_nil _ _ _ _, HB4.out, ?_⟩
    show B + 2 ≤ (w4.setCell _ _).heap.size
    rw [World.setCell]
    simp
    omega
  case pass =>
    rintro a' W ⟨k, N, va, ua, vc, uc, u3, u5, u6, u7, u9, u10, u11, u12, u13, u14, u15, u16, u17, u18, u19, u20, u21, u22, u23, u24, u25, u26, u27, u28, u29, u30, u31, u32, u33, u34, u35, u36, u37, u38, u39, u40, u41, u42, u43, u44, u45, u46, u47, u48, rfl, hJ⟩
    have hkp := hJ.le
    have HN := hid hJ.nx
    obtain ⟨N2, hN2⟩ : ∃ N2, N2 = k + 2 := ⟨_, rfl⟩
    have HN2 := hid hN2
    have HJ := hid hJ
    clear hJ hN2
    by_cases hlt : k < p
    · obtain ⟨x, hxk⟩ : ∃ x, xs[k]? = some x := ⟨_, List.getElem?_eq_getElem (by rw [HL.out]; exact hlt)⟩
      obtain ⟨pb, off, rfl, hc⟩ := H.out.at hlt (wcell_at hxk)
      have hadd := fun W h => add_round (vc := vc) (va := va) (W := W) HN.out HN2.out hxk (by omega) HX.out (HE.out k x hxk) h
      have HADD := hid hadd
      have HV := hid (Leads.of_own HJ.out.row)
      have HLV : Hid (Leads W va k vc (mcells (accM xs k))) := hid (by obtain ⟨a, c, e, h⟩ := HV.out; simp only [Value.slice.injEq, true_and] at e; obtain ⟨rfl, rfl⟩ := e; exact h)
      have hc0 := cell_laid (i := 0) HJ.out.box rfl
      have hc1 := cell_laid (i := 1) HJ.out.box rfl
      have hcx := hc W HJ.out.below
      have HC3 := hid hc
      have hWsz := HJ.out.size
      clear hadd HV hc hxk
      go_upto_region 7 with (fail)
      have f0 : ∀ z : Boxed3 B ⟨pb, off + k, none⟩ (.slice va k vc) (.int .u64 ((N : Nat) : Int)) (.int .u64 ((x : Nat) : Int)), z.v.cell? ⟨B, 0, none⟩ = some (.slice va k vc) := fun z => z.h0
      have f1 : ∀ z : Boxed3 B ⟨pb, off + k, none⟩ (.slice va k vc) (.int .u64 ((N : Nat) : Int)) (.int .u64 ((x : Nat) : Int)), z.v.cell? ⟨B, 1, none⟩ = some (.int .u64 ((N : Nat) : Int)) := fun z => z.h1
      have f2 : ∀ z : Boxed3 B ⟨pb, off + k, none⟩ (.slice va k vc) (.int .u64 ((N : Nat) : Int)) (.int .u64 ((x : Nat) : Int)), z.v.cell? ⟨pb, off + k, none⟩ = some (.int .u64 ((x : Nat) : Int)) := fun z => z.h2
      have HX4 : Hid (∀ V : World, V.heap[B]? = some (.cells #[.slice va k vc, .int .u64 ((N : Nat) : Int)] 25 (0, 0)) → Below w.heap.size w V → ∃ z : Boxed3 B ⟨pb, off + k, none⟩ (.slice va k vc) (.int .u64 ((N : Nat) : Int)) (.int .u64 ((x : Nat) : Int)), V = z.v) := hid fun V h hb => ⟨⟨V, cell_laid h rfl, cell_laid h rfl, HC3.out V hb⟩, rfl⟩
      have hnon : Nonempty (Boxed3 B ⟨pb, off + k, none⟩ (.slice va k vc) (.int .u64 ((N : Nat) : Int)) (.int .u64 ((x : Nat) : Int))) := ⟨(HX4.out _ HJ.out.box HJ.out.below).choose⟩
      have hSw : w.heap.size ≤ W.heap.size := HJ.out.below.size
      have HIDL := hid (own_lt HJ.out.ids)
      clear hc0 hc1 hcx
      refine wp_region_mix2 (fun w' => ∃ z : Boxed3 B ⟨pb, off + k, none⟩ (.slice va k vc) (.int .u64 ((N : Nat) : Int)) (.int .u64 ((x : Nat) : Int)), w' = z.v) 15 (.q 0 (.q 1 (.q 2 (.q 3 (.q 4 (.q 5 (.h2 6 (.q 7 (.q 8 (.q 9 (.q 10 (.h 11 (.h 12 (.q 13 (.q 14 (.done))))))))) 11 (.h 6 (.q 7 (.q 8 (.q 9 (.q 10 (.h 12 (.q 13 (.q 14 (.done)))))))))))))))) (by kernel_rfl) (by kernel_rfl) (HX4.out _ HJ.out.box HJ.out.below.drew) ?_
      refine wpMix2_q rfl rfl ?_; go_big_quiet_step (fail); refine wpQuiet_nil ?_
      repeat (refine wpMix2_q rfl rfl ?_; go_big_quiet_step (fail); refine wpQuiet_nil ?_)
      refine wpMix2_h2 ?_ ?_
      · refine wpMix2_h rfl fun R' hR' hO => ?_
        go_wp2_with fail
        refine (HADD.out W.drew HLV.out).mono ?_
        rintro e W1 ⟨va', vc', rfl, hrow, hb1⟩
        have hbW1 : Below W.heap.size W W1 := (Below.refl _ _).drew.trans hb1
        have HR1 := hid hrow
        have hb01 := HJ.out.below.trans (hbW1.mono hSw)
        clear hrow
        go_wp2
        refine hR' _ _ (HX4.out _ (keep_laid HJ.out.box hbW1) hb01) ?_
        repeat (refine wpMix2_q rfl rfl ?_; go_big_quiet_step (fail); refine wpQuiet_nil ?_)
        refine wpMix2_h rfl fun R' hR' hO => ?_
        obtain ⟨W2, hW2, hb2, hs2, hl2⟩ := laid W1 #[.slice none 0 0, .int .u64 0] 25
        obtain ⟨D, hD⟩ : ∃ D, W1.heap.size = D := ⟨_, rfl⟩
        rw [hD] at hl2
        have hbW2 := step hbW1 hb2
        have hWD : W.heap.size ≤ D := by rw [← hD]; exact hbW1.size
        have hf0 := free_laid (i := 0) hl2
        have hf1 := free_laid (i := 1) hl2
        have hd0 := cell_laid (i := 0) hl2 rfl
        have hd1 := cell_laid (i := 1) hl2 rfl
        have HL2' := hid hl2
        clear hl2
        go_wp2
        refine hR' _ _ (HX4.out _ (keep_laid HJ.out.box hbW2) (HJ.out.below.trans (hbW2.mono hSw))) ?_
        refine wpMix2_h rfl fun R' hR' hO => ?_
        have HB3 := hid ((hbW2.setCell (p := ⟨D, 0, none⟩) (by show W.heap.size ≤ D; exact hWD) (.slice va' (k + 1) vc')).setCell (p := ⟨D, 1, none⟩) (by show W.heap.size ≤ D; exact hWD) (.int .u64 ((N2 : Nat) : Int)))
        have HB13 := hid ((hb2.setCell (p := ⟨D, 0, none⟩) (by show W1.heap.size ≤ D; omega) (.slice va' (k + 1) vc')).setCell (p := ⟨D, 1, none⟩) (by show W1.heap.size ≤ D; omega) (.int .u64 ((N2 : Nat) : Int)))
        have HBLK := hid (set_laid (i := 1) (set_laid (i := 0) HL2'.out (.slice va' (k + 1) vc')) (.int .u64 ((N2 : Nat) : Int)))
        go_wp2
        obtain ⟨V, hV⟩ : ∃ V, (W2.setCell ⟨D, 0, none⟩ (.slice va' (k + 1) vc')).setCell ⟨D, 1, none⟩ (.int .u64 ((N2 : Nat) : Int)) = V := ⟨_, rfl⟩
        have HM : Hid (AllM xs B w k N N2 va ua va' vc uc vc' W.heap.size D V) := hid (by
          rw [← hV]
          exact ⟨keep_laid HJ.out.box HB3.out, keep_laid HJ.out.out HB3.out, HBLK.out, own_grow HR1.out HB13.out, own_grow HJ.out.ids HB3.out, HIDL.out, hWD, hWsz, HJ.out.below.trans (HB3.out.mono hSw), HB3.out.size⟩)
        rw [hV]
        refine hR' _ _ (HX4.out _ HM.out.box HM.out.below) ?_
        have hv0 := cell_laid (i := 0) HM.out.blk rfl
        clear hD hV hf0 hf1 hd0 hd1 HL2' HB3 HB13 HBLK hb2 hW2 hs2 hbW2 HR1 hb01
        repeat (refine wpMix2_q rfl rfl ?_; go_big_quiet_step (fail); refine wpQuiet_nil ?_)
        refine wpMix2_done ?_
        simp only [List.drop_succ_cons, List.drop_nil]
        go_upto_region 10 with (fail)
        have g0 : ∀ z : Boxed D D (.slice va' (k + 1) vc') (.int .u64 ((N2 : Nat) : Int)) (.slice va' (k + 1) vc'), z.v.cell? ⟨D, 0, none⟩ = some (.slice va' (k + 1) vc') := fun z => z.h0
        have g1 : ∀ z : Boxed D D (.slice va' (k + 1) vc') (.int .u64 ((N2 : Nat) : Int)) (.slice va' (k + 1) vc'), z.v.cell? ⟨D, 1, none⟩ = some (.int .u64 ((N2 : Nat) : Int)) := fun z => z.h1
        have HZ : Hid (∀ V : World, V.heap[D]? = some (.cells #[.slice va' (k + 1) vc', .int .u64 ((N2 : Nat) : Int)] 25 (0, 0)) → ∃ z : Boxed D D (.slice va' (k + 1) vc') (.int .u64 ((N2 : Nat) : Int)) (.slice va' (k + 1) vc'), V = z.v) := hid fun V h => ⟨⟨V, cell_laid h rfl, cell_laid h rfl, cell_laid h rfl⟩, rfl⟩
        have hnon2 : Nonempty (Boxed D D (.slice va' (k + 1) vc') (.int .u64 ((N2 : Nat) : Int)) (.slice va' (k + 1) vc')) := ⟨(HZ.out _ HM.out.blk).choose⟩
        obtain ⟨V1, hV1, hbV1, hsV1, hlV1⟩ := laid V.drew #[.int .u64 ((N : Nat) : Int)] 23
        have HLV := hid hlV1
        have HMD := hid HM.out.drew
        have hbV : Below V.heap.size V V1 := (Below.refl _ _).drew.trans hbV1
        have hBV : B + 2 ≤ V.heap.size := Nat.le_trans HM.out.bS HM.out.size
        have hBV1 : B + 2 ≤ V1.heap.size := by have := hbV.size; omega
        have hDV := lt_laid HM.out.blk
        clear hlV1
        refine wp_region_mix2 (fun w' => ∃ z : Boxed D D (.slice va' (k + 1) vc') (.int .u64 ((N2 : Nat) : Int)) (.slice va' (k + 1) vc'), w' = z.v) 7 (.q 0 (.q 1 (.q 2 (.h 3 (.h 4 (.h 5 (.q 6 (.done)))))))) (by kernel_rfl) (by kernel_rfl) (HZ.out _ HMD.out.blk) ?_
        repeat (refine wpMix2_q rfl rfl ?_; go_big_quiet_step (fail); refine wpQuiet_nil ?_)
        refine wpMix2_h rfl fun R' hR' hO => ?_
        go_wp2
        refine hR' _ _ (HZ.out _ (keep_laid HM.out.blk hbV)) ?_
        refine wpMix2_h rfl fun R' hR' hO => ?_
        refine wp_append1g elemWords rfl (.tmp 43) (.tmp 45) rfl (B + 2) (.slice ua k uc) k _ rfl (own_grow HM.out.ids hbV) V.drew.heap.size [.int .u64 ((N : Nat) : Int)] rfl rfl ?c1 ?c2 ?c3 hBV1 ?c5
        case c1 =>
          intro j u hj
          exact cell_laid HLV.out (by simpa using hj)
        case c2 => intro u hu; simp at hu; subst hu; rfl
        case c3 => omega
        case c5 =>
          intro u' V2 hown' hb2 hg2
          obtain ⟨ua', uc', rfl, -⟩ := Leads.of_own hown'
          have hlt := HM.out.idlt
          have hbS := HM.out.bS
          have m0 := keep_laid (keep_laid HM.out.box hbV) (show Below V1.heap.size V1 V1 from Below.refl _ _)
          have j0 : V2.heap[B]? = some (.cells #[.slice va k vc, .int .u64 ((N : Nat) : Int)] 25 (0, 0)) := (hb2.block B (by omega)).trans (keep_laid HM.out.box hbV)
          have j1 : V2.heap[B + 1]? = some (.cells #[.slice none 0 0, .int .u64 0] 25 (0, 0)) := (hb2.block (B + 1) (by omega)).trans (keep_laid HM.out.out hbV)
          have j2 := keep_grown (keep_laid HM.out.blk hbV) hg2 (fun g hg => by have := hlt g hg; have := HM.out.dS; omega)
          have j3 := own_apart (own_grow HM.out.row hbV) hg2 (fun g hg => hlt g hg)
          have hBD : B ≠ D := by have := HM.out.dS; omega
          have J1 := hid (set_laid (i := 1) (set_laid (i := 0) j0 (.slice va' (k + 1) vc')) (.int .u64 ((N2 : Nat) : Int)))
          have J2 := hid (other_laid (other_laid j1 (show B + 1 ≠ B by omega) (i := 0) (.slice va' (k + 1) vc')) (show B + 1 ≠ B by omega) (i := 1) (.int .u64 ((N2 : Nat) : Int)))
          have J3 := hid j2
          have J4 := hid (own_base (ownsRow_setCell_below (a := ⟨B, 1, none⟩) (ownsRow_setCell_below (a := ⟨B, 0, none⟩) j3 (by show B < _; omega) (.slice va' (k + 1) vc')) (by show B < _; omega) (.int .u64 ((N2 : Nat) : Int))) hbS)
          have hids : V2.ownsRow (B + 2) 23 1 (.slice ua' (k + 1) uc') (k + 1) (wcells (List.range' 1 (k + 1))) := by
            rw [nums_succ]; unfold wcells at *; rw [List.map_append, List.map_singleton, ← HN.out, HN.out]; rw [HN.out] at hown'; exact hown'
          have J5 := hid (ownsRow_setCell_below (a := ⟨B, 1, none⟩) (ownsRow_setCell_below (a := ⟨B, 0, none⟩) hids (by show B < B + 2; omega) (.slice va' (k + 1) vc')) (by show B < B + 2; omega) (.int .u64 ((N2 : Nat) : Int)))
          have J6 := hid (((((HM.out.below.trans (hbV.mono (by have := HM.out.below.size; omega))).trans (hb2.mono (show w.heap.size ≤ B + 2 by omega)))).setCell (p := ⟨B, 0, none⟩) (by show w.heap.size ≤ B; omega) (.slice va' (k + 1) vc')).setCell (p := ⟨B, 1, none⟩) (by show w.heap.size ≤ B; omega) (.int .u64 ((N2 : Nat) : Int)))
          have hsz2 := hg2.size
          have hf0 := free_laid (i := 0) j0
          have hf1 := free_laid (i := 1) j0
          have hd0 := cell_laid (i := 0) j0 rfl
          have hd1 := cell_laid (i := 1) j0 rfl
          clear hown' hids j0 j1 j2 j3 hlt m0
          go_wp2
          refine hR' _ _ (HZ.out _ J3.out) ?_
          refine wpMix2_h rfl fun R' hR' hO => ?_
          go_wp2
          refine hR' _ _ (HZ.out _ (other_laid (other_laid J3.out (Ne.symm hBD) _) (Ne.symm hBD) _)) ?_
          repeat (refine wpMix2_q rfl rfl ?_; go_big_quiet_step (fail); refine wpQuiet_nil ?_)
          refine wpMix2_done ?_
          simp only [List.drop_succ_cons, List.drop_nil]
          go_wp2
          go_step3
          refine ⟨rfl, ⟨k + 1, N2, va', ua', vc', uc', _, _, _, _, _, _, _, _, _, _, _, _, _, _, _, _, _, _, _, _, _, _, _, _, _, _, _, _, _, _, _, _, _, _, _, _, _, _, _, _, _, _, _, _, rfl, ?_⟩, ?_⟩
          · exact ⟨by omega, by have := HN2.out; omega, J1.out, J2.out, J4.out, J5.out, J6.out, by simp [World.setCell]; omega⟩
          · simp [lenOf]; omega
      · refine wpMix2_h rfl fun R' hR' hO => ?_
        obtain ⟨W2, hW2, hb2, hs2, hl2⟩ := laid W.drew #[.slice none 0 0, .int .u64 0] 25
        obtain ⟨D, hD⟩ : ∃ D, W.heap.size = D := ⟨_, rfl⟩
        have hD' : W.drew.heap.size = D := hD
        rw [hD'] at hl2
        have hbW2 : Below W.heap.size W W2 := (Below.refl _ _).drew.trans hb2
        have hWD : W.heap.size ≤ D := by omega
        have HL2' := hid hl2
        clear hl2
        go_wp2
        refine hR' _ _ (HX4.out _ (keep_laid HJ.out.box hbW2) (HJ.out.below.trans (hbW2.mono hSw))) ?_
        refine wpMix2_h rfl fun R' hR' hO => ?_
        go_wp2_with fail
        refine (HADD.out W2 (HLV.out.grow hbW2)).mono ?_
        rintro e W1 ⟨va', vc', rfl, hrow, hb1⟩
        have hbW1 : Below W.heap.size W W1 := step hbW2 hb1
        have HR1 := hid hrow
        have hD2 : D < W2.heap.size := by rw [hs2, hD']; omega
        have hb01 := HJ.out.below.trans (hbW1.mono hSw)
        have hl1 := keep_laid HL2'.out hb1
        have hf0 := free_laid (i := 0) hl1
        have hf1 := free_laid (i := 1) hl1
        have hd0 := cell_laid (i := 0) hl1 rfl
        have hd1 := cell_laid (i := 1) hl1 rfl
        have HL1' := hid hl1
        clear hrow hl1
        go_wp2
        refine hR' _ _ (HX4.out _ (keep_laid HJ.out.box hbW1) hb01) ?_
        repeat (refine wpMix2_q rfl rfl ?_; go_big_quiet_step (fail); refine wpQuiet_nil ?_)
        refine wpMix2_h rfl fun R' hR' hO => ?_
        have HB3 := hid ((hbW1.setCell (p := ⟨D, 0, none⟩) (by show W.heap.size ≤ D; exact hWD) (.slice va' (k + 1) vc')).setCell (p := ⟨D, 1, none⟩) (by show W.heap.size ≤ D; exact hWD) (.int .u64 ((N2 : Nat) : Int)))
        have HBLK := hid (set_laid (i := 1) (set_laid (i := 0) HL1'.out (.slice va' (k + 1) vc')) (.int .u64 ((N2 : Nat) : Int)))
        have HR3 := hid (own_base (ownsRow_setCell_below (a := ⟨D, 1, none⟩) (ownsRow_setCell_below (a := ⟨D, 0, none⟩) HR1.out (by show D < _; omega) (.slice va' (k + 1) vc')) (by show D < _; omega) (.int .u64 ((N2 : Nat) : Int))) (show W.heap.size ≤ W2.heap.size by omega))
        go_wp2
        obtain ⟨V, hV⟩ : ∃ V, (W1.setCell ⟨D, 0, none⟩ (.slice va' (k + 1) vc')).setCell ⟨D, 1, none⟩ (.int .u64 ((N2 : Nat) : Int)) = V := ⟨_, rfl⟩
        have HM : Hid (AllM xs B w k N N2 va ua va' vc uc vc' W.heap.size D V) := hid (by
          rw [← hV]
          exact ⟨keep_laid HJ.out.box HB3.out, keep_laid HJ.out.out HB3.out, HBLK.out, HR3.out, own_grow HJ.out.ids HB3.out, HIDL.out, hWD, hWsz, HJ.out.below.trans (HB3.out.mono hSw), HB3.out.size⟩)
        rw [hV]
        refine hR' _ _ (HX4.out _ HM.out.box HM.out.below) ?_
        have hv0 := cell_laid (i := 0) HM.out.blk rfl
        clear hD hV hf0 hf1 hd0 hd1 HL2' HB3 HBLK hb2 hW2 hs2 hbW2 HR1 hb01
        repeat (refine wpMix2_q rfl rfl ?_; go_big_quiet_step (fail); refine wpQuiet_nil ?_)
        refine wpMix2_done ?_
        simp only [List.drop_succ_cons, List.drop_nil]
        go_upto_region 10 with (fail)
        have g0 : ∀ z : Boxed D D (.slice va' (k + 1) vc') (.int .u64 ((N2 : Nat) : Int)) (.slice va' (k + 1) vc'), z.v.cell? ⟨D, 0, none⟩ = some (.slice va' (k + 1) vc') := fun z => z.h0
        have g1 : ∀ z : Boxed D D (.slice va' (k + 1) vc') (.int .u64 ((N2 : Nat) : Int)) (.slice va' (k + 1) vc'), z.v.cell? ⟨D, 1, none⟩ = some (.int .u64 ((N2 : Nat) : Int)) := fun z => z.h1
        have HZ : Hid (∀ V : World, V.heap[D]? = some (.cells #[.slice va' (k + 1) vc', .int .u64 ((N2 : Nat) : Int)] 25 (0, 0)) → ∃ z : Boxed D D (.slice va' (k + 1) vc') (.int .u64 ((N2 : Nat) : Int)) (.slice va' (k + 1) vc'), V = z.v) := hid fun V h => ⟨⟨V, cell_laid h rfl, cell_laid h rfl, cell_laid h rfl⟩, rfl⟩
        have hnon2 : Nonempty (Boxed D D (.slice va' (k + 1) vc') (.int .u64 ((N2 : Nat) : Int)) (.slice va' (k + 1) vc')) := ⟨(HZ.out _ HM.out.blk).choose⟩
        obtain ⟨V1, hV1, hbV1, hsV1, hlV1⟩ := laid V.drew #[.int .u64 ((N : Nat) : Int)] 23
        have HLV := hid hlV1
        have HMD := hid HM.out.drew
        have hbV : Below V.heap.size V V1 := (Below.refl _ _).drew.trans hbV1
        have hBV : B + 2 ≤ V.heap.size := Nat.le_trans HM.out.bS HM.out.size
        have hBV1 : B + 2 ≤ V1.heap.size := by have := hbV.size; omega
        have hDV := lt_laid HM.out.blk
        clear hlV1
        refine wp_region_mix2 (fun w' => ∃ z : Boxed D D (.slice va' (k + 1) vc') (.int .u64 ((N2 : Nat) : Int)) (.slice va' (k + 1) vc'), w' = z.v) 7 (.q 0 (.q 1 (.q 2 (.h 3 (.h 4 (.h 5 (.q 6 (.done)))))))) (by kernel_rfl) (by kernel_rfl) (HZ.out _ HMD.out.blk) ?_
        repeat (refine wpMix2_q rfl rfl ?_; go_big_quiet_step (fail); refine wpQuiet_nil ?_)
        refine wpMix2_h rfl fun R' hR' hO => ?_
        go_wp2
        refine hR' _ _ (HZ.out _ (keep_laid HM.out.blk hbV)) ?_
        refine wpMix2_h rfl fun R' hR' hO => ?_
        refine wp_append1g elemWords rfl (.tmp 43) (.tmp 45) rfl (B + 2) (.slice ua k uc) k _ rfl (own_grow HM.out.ids hbV) V.drew.heap.size [.int .u64 ((N : Nat) : Int)] rfl rfl ?c1 ?c2 ?c3 hBV1 ?c5
        case c1 =>
          intro j u hj
          exact cell_laid HLV.out (by simpa using hj)
        case c2 => intro u hu; simp at hu; subst hu; rfl
        case c3 => omega
        case c5 =>
          intro u' V2 hown' hb2 hg2
          obtain ⟨ua', uc', rfl, -⟩ := Leads.of_own hown'
          have hlt := HM.out.idlt
          have hbS := HM.out.bS
          have m0 := keep_laid (keep_laid HM.out.box hbV) (show Below V1.heap.size V1 V1 from Below.refl _ _)
          have j0 : V2.heap[B]? = some (.cells #[.slice va k vc, .int .u64 ((N : Nat) : Int)] 25 (0, 0)) := (hb2.block B (by omega)).trans (keep_laid HM.out.box hbV)
          have j1 : V2.heap[B + 1]? = some (.cells #[.slice none 0 0, .int .u64 0] 25 (0, 0)) := (hb2.block (B + 1) (by omega)).trans (keep_laid HM.out.out hbV)
          have j2 := keep_grown (keep_laid HM.out.blk hbV) hg2 (fun g hg => by have := hlt g hg; have := HM.out.dS; omega)
          have j3 := own_apart (own_grow HM.out.row hbV) hg2 (fun g hg => hlt g hg)
          have hBD : B ≠ D := by have := HM.out.dS; omega
          have J1 := hid (set_laid (i := 1) (set_laid (i := 0) j0 (.slice va' (k + 1) vc')) (.int .u64 ((N2 : Nat) : Int)))
          have J2 := hid (other_laid (other_laid j1 (show B + 1 ≠ B by omega) (i := 0) (.slice va' (k + 1) vc')) (show B + 1 ≠ B by omega) (i := 1) (.int .u64 ((N2 : Nat) : Int)))
          have J3 := hid j2
          have J4 := hid (own_base (ownsRow_setCell_below (a := ⟨B, 1, none⟩) (ownsRow_setCell_below (a := ⟨B, 0, none⟩) j3 (by show B < _; omega) (.slice va' (k + 1) vc')) (by show B < _; omega) (.int .u64 ((N2 : Nat) : Int))) hbS)
          have hids : V2.ownsRow (B + 2) 23 1 (.slice ua' (k + 1) uc') (k + 1) (wcells (List.range' 1 (k + 1))) := by
            rw [nums_succ]; unfold wcells at *; rw [List.map_append, List.map_singleton, ← HN.out, HN.out]; rw [HN.out] at hown'; exact hown'
          have J5 := hid (ownsRow_setCell_below (a := ⟨B, 1, none⟩) (ownsRow_setCell_below (a := ⟨B, 0, none⟩) hids (by show B < B + 2; omega) (.slice va' (k + 1) vc')) (by show B < B + 2; omega) (.int .u64 ((N2 : Nat) : Int)))
          have J6 := hid (((((HM.out.below.trans (hbV.mono (by have := HM.out.below.size; omega))).trans (hb2.mono (show w.heap.size ≤ B + 2 by omega)))).setCell (p := ⟨B, 0, none⟩) (by show w.heap.size ≤ B; omega) (.slice va' (k + 1) vc')).setCell (p := ⟨B, 1, none⟩) (by show w.heap.size ≤ B; omega) (.int .u64 ((N2 : Nat) : Int)))
          have hsz2 := hg2.size
          have hf0 := free_laid (i := 0) j0
          have hf1 := free_laid (i := 1) j0
          have hd0 := cell_laid (i := 0) j0 rfl
          have hd1 := cell_laid (i := 1) j0 rfl
          clear hown' hids j0 j1 j2 j3 hlt m0
          go_wp2
          refine hR' _ _ (HZ.out _ J3.out) ?_
          refine wpMix2_h rfl fun R' hR' hO => ?_
          go_wp2
          refine hR' _ _ (HZ.out _ (other_laid (other_laid J3.out (Ne.symm hBD) _) (Ne.symm hBD) _)) ?_
          repeat (refine wpMix2_q rfl rfl ?_; go_big_quiet_step (fail); refine wpQuiet_nil ?_)
          refine wpMix2_done ?_
          simp only [List.drop_succ_cons, List.drop_nil]
          go_wp2
          go_step3
          refine ⟨rfl, ⟨k + 1, N2, va', ua', vc', uc', _, _, _, _, _, _, _, _, _, _, _, _, _, _, _, _, _, _, _, _, _, _, _, _, _, _, _, _, _, _, _, _, _, _, _, _, _, _, _, _, _, _, _, _, rfl, ?_⟩, ?_⟩
          · exact ⟨by omega, by have := HN2.out; omega, J1.out, J2.out, J4.out, J5.out, J6.out, by simp [World.setCell]; omega⟩
          · simp [lenOf]; omega
    · obtain rfl : p = k := by omega
      have hf0 := free_laid (i := 0) HJ.out.out
      have hf1 := free_laid (i := 1) HJ.out.out
      have hd0 := cell_laid (i := 0) HJ.out.out rfl
      have hd1 := cell_laid (i := 1) HJ.out.out rfl
      have hc0 := cell_laid (i := 0) HJ.out.box rfl
      have hc1 := cell_laid (i := 1) HJ.out.box rfl
      have HEND := hid (set_laid (i := 1) (set_laid (i := 0) HJ.out.out (.slice va p vc)) (.int .u64 ((N : Nat) : Int)))
      have HBF := hid ((HJ.out.below.setCell (p := ⟨B + 1, 0, none⟩) (by show w.heap.size ≤ B + 1; omega) (.slice va p vc)).setCell (p := ⟨B + 1, 1, none⟩) (by show w.heap.size ≤ B + 1; omega) (.int .u64 ((N : Nat) : Int)))
      have HEQ : Hid (Ending.returned (Value.tuple #[.agg #[.slice va p vc, .int .u64 ((N : Nat) : Int)], .slice ua p uc, .int .i64 0]) = Ending.returned (.tuple #[.agg #[.slice va p vc, .int .u64 ((p + 1 : Nat) : Int)], .slice ua p uc, .int .i64 0])) := hid (by rw [HN.out])
      have HR3 := hid (own_base (ownsRow_setCell_below (a := ⟨B + 1, 1, none⟩) (ownsRow_setCell_below (a := ⟨B + 1, 0, none⟩) HJ.out.row (by show B + 1 < _; omega) (.slice va p vc)) (by show B + 1 < _; omega) (.int .u64 ((N : Nat) : Int))) (show w.heap.size ≤ B + 2 by omega))
      have HI3 := hid (own_base (ownsRow_setCell_below (a := ⟨B + 1, 1, none⟩) (ownsRow_setCell_below (a := ⟨B + 1, 0, none⟩) HJ.out.ids (by show B + 1 < _; omega) (.slice va p vc)) (by show B + 1 < _; omega) (.int .u64 ((N : Nat) : Int))) (show w.heap.size ≤ B + 2 by omega))
      go_wp2
      simp only [Exit.jump]
      refine bodyPost_ret (all_result HEND.out rfl rfl rfl) rfl ⟨_, _, HEQ.out, HR3.out, HI3.out, HBF.out⟩
end Go.Proofs.Ytbfhppafffhlkaa
