/- slices.Clone, slices.Equal, at words and at fields. -/
import Derived.Test.YtgigjfdgejajbaaBits1
import Derived.Test.YtgigjfdgejajbaaLawDefs
import Derived.Laws.StructEq
import Derived.Lib.SliceRun
import Derived.Deep.LoopGhost
import Derived.Deep.DeepCutAuto
import Derived.Deep.CutBlock
namespace Go.Proofs.Ytgigjfdgejajbaa
open Go.RowKit
open Go.Proofs
set_option linter.unusedVariables false

theorem elemWords : Elem Try.prog 23 25 1 8 := Elem.mk' (z := .int .u64 0) Try.underlying23 (by kernel_rfl) rfl (by decide) (by decide)
theorem elemFields : Elem Try.prog 55 53 2 16 := Elem.mk' (z := .agg #[.int .i64 0, .int .i64 0]) Try.underlying55 (by kernel_rfl) rfl (by decide) (by decide)

/-- A call gives a new row of its own. -/
def Fresh (e : TypeId) (size n : Nat) (cs : List Value) (w : World) (en : Ending) (w' : World) : Prop :=
  ∃ v, en = .returned v ∧ w'.ownsRow w.heap.size e size v n cs ∧ Below w.heap.size w w'

theorem wp_appendN {P : Program} {w : World} {ops : Array Oper} {rest : List Oper} {o : Oper} {a : Act} {Q : Exit → Act → World → Prop} {t e : TypeId} {size bytes : Nat} (I : Elem P t e size bytes) (hgd : o.guard = none) (s x : Operand)
    (ho : o.op = .call { callee := .builtin .append, args := #[s, x], argTypes := #[t, t] })
    (base : Nat) (v : Value) (n : Nat) (xs : List Value) (hs : a.eval s = v) (hown : w.ownsRow base e size v n xs)
    (ad : Addr) (m c : Nat) (news : List Value) (hx : a.eval x = .slice (some ad) m c) (hl : news.length = m * size) (hnews : ∀ (j : Nat) u, news[j]? = some u → w.cell? (ad.add j) = some u) (h1 : ∀ u ∈ news, u.oneCell' = true)
    (hn : n + m ≤ 1000000) (hbase : base ≤ w.heap.size)
    (h : ∀ v' w', w'.ownsRow base e size v' (n + m) (xs ++ news) → Below base w w' → w.heap.size ≤ w'.heap.size → wpList P ops Q rest (a.put o.dst v') w') : wpList P ops Q (o :: rest) a w := by
  obtain ⟨i, z, hi, hz, h2, h3, h4⟩ := I.info
  refine wpList_append_own w hgd s x t ho base e i z size bytes I.under hi hz h2 h3 h4 I.pos v n xs hs hown ad m c news hx hl hnews h1 (by unfold maxLen; omega) ?_ hbase ?_
  · have := Nat.mul_le_mul hn I.small
    omega
  · intro v' w' hown' hg _
    exact h v' w' hown' (own_below hown hg hbase) hg.size

theorem CloneW_any (a : Option Addr) (n cap : Nat) (cs : List Value) (w : World) (h : Leads w a n cap cs) (hl : cs.length = n * 1) (hn : n ≤ 1000) (h1 : ∀ u ∈ cs, u.oneCell' = true) :
    Calls Try.prog 30 #[.slice a n cap] w (Fresh 25 1 n cs w) := by
  have q : ∀ (w : World) (a : Option Addr) (n c n' c' : Nat), (binOp .eql 23 (.slice a n c) (.slice none n' c')).run Try.prog w = .ok (.bool a.isNone) w := fun w a n c n' c' => Lib.run_eql_slice_nil w _ _ a n c n' c' Try.underlying23
  cases a with
  | none =>
    obtain ⟨_, _, ⟨rfl, rfl⟩ | ⟨b, off, h, _⟩⟩ := h
    · clear h1 hl
      go_enter Try.func30, Try.ntmps30
      go_wp2
      go_ret
      exact ⟨_, rfl, World.ownsRow_nil _ _ _ _, Below.refl _ _⟩
    · cases h
  | some ad =>
    have hc : ∀ j u, cs[j]? = some u → w.cell? (ad.add j) = some u := by
      obtain ⟨_, _, ⟨_, rfl⟩ | ⟨b, off, h, _, h5⟩⟩ := h
      · intro j u hj; cases hj
      · cases h
        intro j u hj
        have := h5 j u hj
        rcases j with _ | j
        · simpa [Addr.add] using this
        · simpa [Addr.add] using this
    have HC := hid hc
    have HL := hid hl
    have H1 := hid h1
    clear hc hl h1 h
    go_enter Try.func30, Try.ntmps30
    go_wp2_with (at_builtin; refine wp_appendN elemWords rfl _ _ rfl w.heap.size _ _ _ rfl (World.ownsRow_made w #[] 0 (Nat.le_refl _) (Nat.zero_le _) (by simp)) ad n cap cs rfl ?qc1 ?qc2 ?qc3 ?qc4 ?qc5 ?_)
    case qc1 => exact HL.out
    case qc2 =>
      intro j u hj
      exact Lib.cell?_alloc_some _ (HC.out j u hj)
    case qc3 => exact H1.out
    case qc4 => omega
    case qc5 => simp
    intro v' w1 hown hgrow hsz
    have hb : Below w.heap.size w w1 := ((Below.refl _ w).alloc (Nat.le_refl _) _).trans hgrow
    go_wp2
    go_ret
    exact ⟨v', rfl, by simpa using hown, hb⟩

theorem EqualW_same (a a' : Option Addr) (n cap cap' : Nat) (cs : List Value) (w : World) (h : Leads w a n cap cs) (h' : Leads w a' n cap' cs) (hl : cs.length = n * 1) (hw : ∀ (j : Nat) (v : Value), cs[j]? = some v → ∃ x : Int, v = .int .u64 x) :
    Calls Try.prog 40 #[.slice a n cap, .slice a' n cap'] w (Ret (.bool true) w) := by
  have HW := hid hw
  clear hw
  have hn := h.len.1
  have H := hid h
  have H' := hid h'
  have HL := hid hl
  clear h h' hl
  go_enter Try.func40, Try.ntmps40
  go_wp2
  go_loopg [13] n (fun g i wr => ∃ k : Nat, g + k = n ∧ i = .int .i64 (k : Nat) ∧ Below w.heap.size w wr)
  case atStart => exact ⟨0, rfl, rfl, Below.refl _ _⟩
  case round =>
    obtain ⟨k, hk, rfl, hb⟩ := hrel
    have HK := hid hk
    clear hk
    by_cases hlt : k < n
    · obtain ⟨_, _, ⟨h, _⟩ | ⟨b, off, rfl, h3, h4⟩⟩ := H.out
      · omega
      obtain ⟨_, _, ⟨h, _⟩ | ⟨b', off', rfl, h3', h4'⟩⟩ := H'.out
      · omega
      obtain ⟨v, hv⟩ : ∃ v, cs[k]? = some v := ⟨_, List.getElem?_eq_getElem (by have := HL.out; omega)⟩
      obtain ⟨x0, rfl⟩ := HW.out k v hv
      have hc := (hb.cell (p := ⟨b, off + k, none⟩) h3).trans (h4 k _ hv)
      have hc' := (hb.cell (p := ⟨b', off' + k, none⟩) h3').trans (h4' k _ hv)
      clear hv
      have H4 := hid h4
      have H4' := hid h4'
      clear h4 h4'
      go_upto_region 6 with (fail)
      have f1 : ∀ x : Ext wr, x.v.cell? ⟨b, off + k, none⟩ = some (.int .u64 x0) := fun x => (x.b.cell (p := ⟨b, off + k, none⟩) (Nat.lt_of_lt_of_le h3 hb.size)).trans hc
      have f2 : ∀ x : Ext wr, x.v.cell? ⟨b', off' + k, none⟩ = some (.int .u64 x0) := fun x => (x.b.cell (p := ⟨b', off' + k, none⟩) (Nat.lt_of_lt_of_le h3' hb.size)).trans hc'
      clear hc hc'
      refine wp_region_ext (by kernel_rfl) (by kernel_rfl) ?_
      repeat (go_big_quiet_step (fail))
      refine wpQuiet_nil ?_
      rintro _ ⟨⟨w2, hb2⟩, rfl⟩
      go_wp2
      go_roundg (gk - 1)
      case measure => have := HK.out; omega
      case rel => exact ⟨k + 1, by have := HK.out; omega, by go_num, step hb hb2⟩
    · go_wp2
      go_ret
      exact ⟨rfl, hb⟩

theorem CloneF_any (a : Option Addr) (n cap : Nat) (cs : List Value) (w : World) (h : Leads w a n cap cs) (hl : cs.length = n * 2) (hn : n ≤ 1000) (h1 : ∀ u ∈ cs, u.oneCell' = true) :
    Calls Try.prog 29 #[.slice a n cap] w (Fresh 53 2 n cs w) := by
  have q : ∀ (w : World) (a : Option Addr) (n c n' c' : Nat), (binOp .eql 55 (.slice a n c) (.slice none n' c')).run Try.prog w = .ok (.bool a.isNone) w := fun w a n c n' c' => Lib.run_eql_slice_nil w _ _ a n c n' c' Try.underlying55
  cases a with
  | none =>
    obtain ⟨_, _, ⟨rfl, rfl⟩ | ⟨b, off, h, _⟩⟩ := h
    · clear h1 hl
      go_enter Try.func29, Try.ntmps29
      go_wp2
      go_ret
      exact ⟨_, rfl, World.ownsRow_nil _ _ _ _, Below.refl _ _⟩
    · cases h
  | some ad =>
    have hc : ∀ j u, cs[j]? = some u → w.cell? (ad.add j) = some u := by
      obtain ⟨_, _, ⟨_, rfl⟩ | ⟨b, off, h, _, h5⟩⟩ := h
      · intro j u hj; cases hj
      · cases h
        intro j u hj
        have := h5 j u hj
        rcases j with _ | j
        · simpa [Addr.add] using this
        · simpa [Addr.add] using this
    have HC := hid hc
    have HL := hid hl
    have H1 := hid h1
    clear hc hl h1 h
    go_enter Try.func29, Try.ntmps29
    go_wp2_with (at_builtin; refine wp_appendN elemFields rfl _ _ rfl w.heap.size _ _ _ rfl (World.ownsRow_made w #[] 0 (Nat.le_refl _) (Nat.zero_le _) (by simp)) ad n cap cs rfl ?qc1 ?qc2 ?qc3 ?qc4 ?qc5 ?_)
    case qc1 => exact HL.out
    case qc2 =>
      intro j u hj
      exact Lib.cell?_alloc_some _ (HC.out j u hj)
    case qc3 => exact H1.out
    case qc4 => omega
    case qc5 => simp
    intro v' w1 hown hgrow hsz
    have hb : Below w.heap.size w w1 := ((Below.refl _ w).alloc (Nat.le_refl _) _).trans hgrow
    go_wp2
    go_ret
    exact ⟨v', rfl, by simpa using hown, hb⟩

theorem neq_field (w : World) (x y : Int) : (binOp .neq 53 (.agg #[.int .i64 x, .int .i64 y]) (.agg #[.int .i64 x, .int .i64 y])).run Try.prog w = .ok (.bool false) w := by
  have hS : Try.prog.underlying 53 = some (.struct (Try.prog.fieldsOf 53)) := by kernel_rfl
  have hp : Try.prog.stoodInHeld 53 = false := by kernel_rfl
  rw [run_neq_struct, show (10000 : Nat) = 9999 + 1 from rfl, run_equalIn_agg w 9999 53 _ _ hS hp]
  simp only [Program.fieldsOf, Try.underlying53]
  go_simp

theorem EqualF_same (a a' : Option Addr) (n cap cap' : Nat) (cs : List Value) (w : World) (h : Leads w a n cap cs) (h' : Leads w a' n cap' cs) (hl : cs.length = n * 2) (hw : ∀ k, k < n → ∃ x y : Int, cs[k * 2]? = some (.int .i64 x) ∧ cs[k * 2 + 1]? = some (.int .i64 y)) :
    Calls Try.prog 39 #[.slice a n cap, .slice a' n cap'] w (Ret (.bool true) w) := by
  have HW := hid hw
  clear hw
  have hn := h.len.1
  have H := hid h
  have H' := hid h'
  have HL := hid hl
  clear h h' hl
  go_enter Try.func39, Try.ntmps39
  go_wp2
  go_loopg [13] n (fun g i wr => ∃ k : Nat, g + k = n ∧ i = .int .i64 (k : Nat) ∧ Below w.heap.size w wr)
  case atStart => exact ⟨0, rfl, rfl, Below.refl _ _⟩
  case round =>
    obtain ⟨k, hk, rfl, hb⟩ := hrel
    have HK := hid hk
    clear hk
    by_cases hlt : k < n
    · obtain ⟨_, _, ⟨h, _⟩ | ⟨b, off, rfl, h3, h4⟩⟩ := H.out
      · omega
      obtain ⟨_, _, ⟨h, _⟩ | ⟨b', off', rfl, h3', h4'⟩⟩ := H'.out
      · omega
      obtain ⟨x0, y, hv, hv2⟩ := HW.out k hlt
      have hc := (hb.cell (p := ⟨b, off + k * 2, none⟩) h3).trans (h4 _ _ hv)
      have hc2 := (hb.cell (p := ⟨b, off + k * 2 + 1, none⟩) h3).trans (h4 _ _ hv2)
      have hc' := (hb.cell (p := ⟨b', off' + k * 2, none⟩) h3').trans (h4' _ _ hv)
      have hc2' := (hb.cell (p := ⟨b', off' + k * 2 + 1, none⟩) h3').trans (h4' _ _ hv2)
      clear hv hv2
      have H4 := hid h4
      have H4' := hid h4'
      clear h4 h4'
      go_upto_region 6 with (fail)
      have f1 : ∀ x : Ext wr, x.v.cell? ⟨b, off + k * 2, none⟩ = some (.int .i64 x0) := fun x => (x.b.cell (p := ⟨b, off + k * 2, none⟩) (Nat.lt_of_lt_of_le h3 hb.size)).trans hc
      have f2 : ∀ x : Ext wr, x.v.cell? ⟨b', off' + k * 2, none⟩ = some (.int .i64 x0) := fun x => (x.b.cell (p := ⟨b', off' + k * 2, none⟩) (Nat.lt_of_lt_of_le h3' hb.size)).trans hc'
      have f3 : ∀ x : Ext wr, x.v.cell? ⟨b, off + k * 2 + 1, none⟩ = some (.int .i64 y) := fun x => (x.b.cell (p := ⟨b, off + k * 2 + 1, none⟩) (Nat.lt_of_lt_of_le h3 hb.size)).trans hc2
      have f4 : ∀ x : Ext wr, x.v.cell? ⟨b', off' + k * 2 + 1, none⟩ = some (.int .i64 y) := fun x => (x.b.cell (p := ⟨b', off' + k * 2 + 1, none⟩) (Nat.lt_of_lt_of_le h3' hb.size)).trans hc2'
      have f5 : ∀ (w : World) (x y : Int), (binOp .neq 53 (.agg #[.int .i64 x, .int .i64 y]) (.agg #[.int .i64 x, .int .i64 y])).run Try.prog w = .ok (.bool false) w := neq_field
      clear hc hc' hc2 hc2'
      refine wp_region_ext (by kernel_rfl) (by kernel_rfl) ?_
      repeat (go_big_quiet_step (fail))
      refine wpQuiet_nil ?_
      rintro _ ⟨⟨w2, hb2⟩, rfl⟩
      go_wp2
      go_roundg (gk - 1)
      case measure => have := HK.out; omega
      case rel => exact ⟨k + 1, by have := HK.out; omega, by go_num, step hb hb2⟩
    · go_wp2
      go_ret
      exact ⟨rfl, hb⟩
end Go.Proofs.Ytgigjfdgejajbaa
