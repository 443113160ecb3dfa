/- Mounts: Clone, New, and the law's own and spoil. -/
import Derived.Test.YtbfhppafffhlkaaMount9
import Derived.Laws.StructEq
import Derived.Lib.SliceRun
namespace Go.Proofs.Ytbfhppafffhlkaa
open Go.RowKit
open Go.Proofs
set_option linter.unusedVariables false

/-- A call gives a new row of its own. -/
def Fresh (e : TypeId) (size n : Nat) (cs : List Value) (w : World) (en : Ending) (w' : World) : Prop :=
  ∃ v, en = .returned v ∧ w'.ownsRow w.heap.size e size v n cs ∧ Below w.heap.size w w'

theorem wp_appendN {P : Program} {w : World} {ops : Array Oper} {rest : List Oper} {o : Oper} {a : Act} {Q : Exit → Act → World → Prop} {t e : TypeId} {size bytes : Nat} (I : Elem P t e size bytes) (hgd : o.guard = none) (s x : Operand)
    (ho : o.op = .call { callee := .builtin .append, args := #[s, x], argTypes := #[t, t] })
    (base : Nat) (v : Value) (n : Nat) (xs : List Value) (hs : a.eval s = v) (hown : w.ownsRow base e size v n xs)
    (ad : Addr) (m c : Nat) (news : List Value) (hx : a.eval x = .slice (some ad) m c) (hl : news.length = m * size) (hnews : ∀ (j : Nat) u, news[j]? = some u → w.cell? (ad.add j) = some u) (h1 : ∀ u ∈ news, u.oneCell' = true)
    (hn : n + m ≤ 1000000) (hbase : base ≤ w.heap.size)
    (h : ∀ v' w', w'.ownsRow base e size v' (n + m) (xs ++ news) → Below base w w' → w.heap.size ≤ w'.heap.size → wpList P ops Q rest (a.put o.dst v') w') : wpList P ops Q (o :: rest) a w := by
  obtain ⟨i, z, hi, hz, h2, h3, h4⟩ := I.info
  refine wpList_append_own w hgd s x t ho base e i z size bytes I.under hi hz h2 h3 h4 I.pos v n xs hs hown ad m c news hx hl hnews h1 (by unfold maxLen; omega) ?_ hbase ?_
  · have := Nat.mul_le_mul hn I.small
    omega
  · intro v' w' hown' hg _
    exact h v' w' hown' (own_below hown hg hbase) hg.size

theorem CloneM_any (a : Option Addr) (n cap : Nat) (cs : List Value) (w : World) (h : Leads w a n cap cs) (hl : cs.length = n * 2) (hn : n ≤ 1000) (h1 : ∀ u ∈ cs, u.oneCell' = true) :
    Calls Try.prog 28 #[.slice a n cap] w (Fresh 51 2 n cs w) := by
  have q : ∀ (w : World) (a : Option Addr) (n c n' c' : Nat), (binOp .eql 22 (.slice a n c) (.slice none n' c')).run Try.prog w = .ok (.bool a.isNone) w := fun w a n c n' c' => Lib.run_eql_slice_nil w _ _ a n c n' c' Try.underlying22
  cases a with
  | none =>
    obtain ⟨_, _, ⟨rfl, rfl⟩ | ⟨b, off, h, _⟩⟩ := h
    · clear h1 hl
      go_enter Try.func28, Try.ntmps28
      go_wp2
      go_ret
      exact ⟨_, rfl, World.ownsRow_nil _ _ _ _, Below.refl _ _⟩
    · cases h
  | some ad =>
    have hc : ∀ j u, cs[j]? = some u → w.cell? (ad.add j) = some u := by
      obtain ⟨_, _, ⟨_, rfl⟩ | ⟨b, off, h, _, h5⟩⟩ := h
      · intro j u hj; cases hj
      · cases h
        intro j u hj
        have := h5 j u hj
        rcases j with _ | j
        · simpa [Addr.add] using this
        · simpa [Addr.add] using this
    have HC := hid hc
    have HL := hid hl
    have H1 := hid h1
    clear hc hl h1 h
    go_enter Try.func28, Try.ntmps28
    go_wp2_with (at_builtin; refine wp_appendN elemMounts rfl _ _ rfl w.heap.size _ _ _ rfl (World.ownsRow_made w #[] 0 (Nat.le_refl _) (Nat.zero_le _) (by simp)) ad n cap cs rfl ?qc1 ?qc2 ?qc3 ?qc4 ?qc5 ?_)
    case qc1 => exact HL.out
    case qc2 =>
      intro j u hj
      exact Lib.cell?_alloc_some _ (HC.out j u hj)
    case qc3 => exact H1.out
    case qc4 => omega
    case qc5 => simp
    intro v' w1 hown hgrow hsz
    have hb : Below w.heap.size w w1 := ((Below.refl _ w).alloc (Nat.le_refl _) _).trans hgrow
    go_wp2
    go_ret
    exact ⟨v', rfl, by simpa using hown, hb⟩


theorem new_result {W : World} {b : Nat} {v0 v1 : Value} {tmps : Array Value} (h : W.heap[b]? = some (.cells #[v0, v1] 25 (0, 0))) (hp : tmps[0]?.getD undef = .pointer (some ⟨b, 0, none⟩)) :
    (results Try.f26 tmps).run Try.prog W = .ok (.agg #[v0, v1]) W := by
  have h0 := cell_laid (i := 0) (v := v0) h rfl
  have h1 := cell_laid (i := 1) (v := v1) h rfl
  simp [results, Try.results26, go_sem, hp, h0, h1]
theorem mNew_any (w : World) : Calls Try.prog 26 #[] w (Ret (.agg #[.slice none 0 0, .int .u64 1]) w) := by
  obtain ⟨w1, hw1, hb1, hs1, hl1⟩ := laid w #[.slice none 0 0, .int .u64 0] 25
  have hf0 := free_laid (i := 0) hl1
  have hf1 := free_laid (i := 1) hl1
  have hd0 := cell_laid (i := 0) hl1 rfl
  have hd1 := cell_laid (i := 1) hl1 rfl
  have HL := hid hl1
  clear hl1 hs1
  go_enter Try.func26, Try.ntmps26
  go_wp2
  refine bodyPost_ret (new_result (set_laid (i := 1) (set_laid (i := 0) HL.out (.slice none 0 0)) (.int .u64 1)) rfl) rfl ⟨rfl, ?_⟩
  exact (hb1.setCell (p := ⟨w.heap.size, 0, none⟩) (Nat.le_refl _) _).setCell (p := ⟨w.heap.size, 1, none⟩) (Nat.le_refl _) _
end Go.Proofs.Ytbfhppafffhlkaa
