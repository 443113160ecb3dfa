/- Rows of one's own; appends that tell where the row lies. -/
import Derived.Test.YtipohagcppfgiaaGreatLawDefs
import Derived.Test.YtipohagcppfgiaaGreatRegion4
import Derived.Laws.AppendOwn
import Derived.Laws.OwnMore
import Derived.Laws.CopyOwn
import Derived.Deep.LoopGhost
import Derived.Deep.DeepCutAuto
import Derived.Deep.CutBlock
namespace Go.Proofs.YtipohagcppfgiaaGreat
open Go.RowKit
open Go.Proofs
set_option linter.unusedVariables false
theorem Leads.at {w : World} {a : Option Addr} {n cap k : Nat} {cs : List Value} {v : Value} (h : Leads w a n cap cs) (hk : k < n) (hv : cs[k]? = some v) : ∃ b off, a = some ⟨b, off, none⟩ ∧ b < w.heap.size ∧ ∀ w', Below w.heap.size w w' → w'.cell? ⟨b, off + k, none⟩ = some v := by
 obtain ⟨_, _, ⟨h, _⟩ | ⟨b, off, rfl, h3, h4⟩⟩ := h
 ·omega
 ·exact ⟨b, off, rfl, h3, fun w' hb => (hb.cell (p := ⟨b, off + k, none⟩) h3).trans (h4 k _ hv)⟩
theorem own_type {W : World} {base size n : Nat} {e : TypeId} {v : Value} {xs : List Value} (h : W.ownsRow base e size v n xs) (k : Nat) (hk : v.ownBlock = some k) : ∃ cur, W.heap[k]? = some (.cells cur e (0, 0)) := by
 rcases h.2 with ⟨rfl, _⟩ | ⟨g, cap, cur, rfl, _, hh, _⟩
 ·cases hk
 ·have : g = k := by simpa [Value.ownBlock] using hk
  subst this
  exact ⟨cur, hh⟩
theorem tyN {W : World} {k k' : Nat} {cur cur' : Array Value} {e e' : TypeId} (h : W.heap[k]? = some (.cells cur e (0, 0))) (h' : W.heap[k']? = some (.cells cur' e' (0, 0))) (hne : e ≠ e') : k ≠ k' := by
 rintro rfl
 rw [h] at h'
 cases h'
 exact hne rfl
theorem wcell_at {l : List Nat} {k x : Nat} (h : l[k]? = some x) : (wcells l)[k]? = some (.int .u64 x) := by unfold wcells; rw [List.getElem?_map, h]; rfl
theorem own_lt {w : World} {base n size : Nat} {e : TypeId} {v : Value} {xs : List Value} (h : w.ownsRow base e size v n xs) (k : Nat) (hk : v.ownBlock = some k) : k < w.heap.size := by
 obtain ⟨cur, hc⟩ := own_type h k hk
 exact llD hc
theorem okp {w w' : World} {base n size : Nat} {e : TypeId} {v : Value} {xs : List Value} (h : w.ownsRow base e size v n xs) (hk : ∀ k o, v.ownBlock = some k → w.heap[k]? = some o → w'.heap[k]? = some o) : w'.ownsRow base e size v n xs := by
 refine ⟨h.1, ?_⟩
 rcases h.2 with hn | ⟨g, cap, cur, rfl, hb, hgg, rest⟩
 ·exact .inl hn
 ·exact .inr ⟨g, cap, cur, rfl, hb, hk g _ rfl hgg, rest⟩
theorem kgr {w w' : World} {b : Nat} {o : Obj} {r : Option Nat} (h : w.heap[b]? = some o) (hg : w.grownBy w' r) (hr : r ≠ some b) : w'.heap[b]? = some o :=
 (hg.block b (llD h) (fun he => hr he.symm)).trans h
def Moved (w : World) (v v' : Value) : Prop := v'.ownBlock = v.ownBlock ∨ ∀ k, v'.ownBlock = some k → w.heap.size ≤ k
theorem run_append_moved {P : Program} {w : World} (base : Nat) (t ty e : TypeId) (i : TypeInfo) (z : Value) (size bytes : Nat) (ht : P.underlying t = some (.slice e)) (hi : P.info? e = some i) (hz : i.zero = some z)
  (hsize : i.size = size) (hby : i.bytes = bytes) (hzs : z.cells.size = size) (hsz : 0 < size)
  (v : Value) (n : Nat) (xs : List Value) (hown : w.ownsRow base e size v n xs)
  (a : Addr) (m c : Nat) (news : List Value) (hl : news.length = m * size) (hnews : ∀ j u, news[j]? = some u → w.cell? (a.add j) = some u) (h1 : ∀ u ∈ news, u.oneCell' = true)
  (h63 : n + m ≤ maxLen) (hbytes : (n + m) * bytes ≤ 140737488355328) (hbase : base ≤ w.heap.size) :
  ∃ v' w', (Builtin.append_ #[t, t] ty #[v, .slice (some a) m c]).run P w = .ok v' w' ∧ w'.ownsRow base e size v' (n + m) (xs ++ news) ∧ w.grownBy w' v.ownBlock ∧ Moved w v v' := by
 obtain ⟨v', w', hr, h2, h3, -⟩ := run_append_own (P := P) (w := w) base t ty e i z size bytes ht hi hz hsize hby hzs hsz v n xs hown a m c news hl hnews h1 h63 hbytes hbase
 refine ⟨v', w', hr, h2, h3, ?_⟩
 rcases hown.2 with ⟨hv, hn⟩ | ⟨g, cap, cur, hv, hbg, hg, hnc, hcm, hcs, htake⟩
 ·subst hv
  subst hn
  have hx : xs = [] := List.eq_nil_of_length_eq_zero (by simpa using hown.1)
  subst hx
  obtain ⟨v2, w2, hr2, h4, -, -⟩ := run_append_own (P := P) (w := w) w.heap.size t ty e i z size bytes ht hi hz hsize hby hzs hsz (.slice none 0 0) 0 [] (World.ownsRow_nil _ _ _ _) a m c news hl hnews h1 h63 hbytes (Nat.le_refl _)
  rw [hr] at hr2
  obtain ⟨rfl, rfl⟩ : v' = v2 ∧ w' = w2 := by simpa using hr2
  exact .inr fun k hk => (h4.lt k hk).1
 ·subst hv
  by_cases hroom : n + m ≤ cap
  ·have hfit : n * i.size + news.length ≤ cur.size := by rw [hl, hcs, hsize, ← Nat.add_mul]; exact Nat.mul_le_mul_right _ hroom
   have hr2 := run_append_room (P := P) w t ty e i ht hi g n cap cur hg a m c news (by rw [hsize]; exact hl) hnews h1 hroom hfit
   rw [hr] at hr2
   have e1 : v' = .slice (some ⟨g, 0, none⟩) (n + m) cap := by
    have := hr2
    simp only [Result.ok.injEq] at this
    exact this.1
   rw [e1]
   exact .inl rfl
  ·have hlx : xs.length = n * i.size := by rw [hsize]; exact hown.1
   have holds : ∀ j u, xs[j]? = some u → w.cell? ((⟨g, 0, none⟩ : Addr).add j) = some u := hown.cells (g := g) rfl
   have hsmall : n + m ≤ 9223372036854775807 := by simp only [maxLen] at h63; omega
   have hr2 := run_append_grow (P := P) w t ty e i z ht hi hz ⟨g, 0, none⟩ n cap xs hlx holds a m c news (by rw [hsize]; exact hl) hnews (by omega) (by omega) (growslice_fits (by omega) (by rw [hby]; exact hbytes))
   rw [hr] at hr2
   simp only [Result.ok.injEq] at hr2
   rw [hr2.1]
   exact .inr fun k hk => by
    have : w.heap.size = k := by simpa [Value.ownBlock] using hk
    omega
theorem waM {P : Program} {w : World} {ops : Array Oper} {rest : List Oper} {o : Oper} {a : Act} {Q : Exit → Act → World → Prop} {t e : TypeId} {size bytes : Nat} (I : Elem P t e size bytes) (hgd : o.guard = none) (s x : Operand)
  (ho : o.op = .call { callee := .builtin .append, args := #[s, x], argTypes := #[t, t] })
  (base : Nat) (v : Value) (n : Nat) (xs : List Value) (hs : a.eval s = v) (hown : w.ownsRow base e size v n xs)
  (ad : Addr) (m c : Nat) (news : List Value) (hx : a.eval x = .slice (some ad) m c) (hl : news.length = m * size) (hnews : ∀ (j : Nat) u, news[j]? = some u → w.cell? (ad.add j) = some u) (h1 : ∀ u ∈ news, u.oneCell' = true)
  (hn : n + m ≤ 1000000) (hbase : base ≤ w.heap.size)
  (h : ∀ v' w', w'.ownsRow base e size v' (n + m) (xs ++ news) → w.grownBy w' v.ownBlock → Moved w v v' → wpList P ops Q rest (a.put o.dst v') w') : wpList P ops Q (o :: rest) a w := by
 obtain ⟨i, z, hi, hz, h2, h3, h4⟩ := I.info
 refine wpList_plain hgd fun K hK => ?_
 have hbt : (n + m) * bytes ≤ 140737488355328 := by
  have := Nat.mul_le_mul hn I.small
  omega
 obtain ⟨v', w', hr, k2, k3, k4⟩ := run_append_moved (P := P) (w := w) base t o.type e i z size bytes I.under hi hz h2 h3 h4 I.pos v n xs hown ad m c news hl hnews h1 (by unfold maxLen; omega) hbt hbase
 unfold Oper.wp execOp
 simp only [ho, resolve, invoke, builtin, Sem.run_bind, Sem.run_pure, Result.andThen_ok, List.map_toArray, List.map_cons, List.map_nil, hs, hx, hr]
 exact hK _ _ (h v' w' k2 k3 k4)
theorem Leads.vdrop {w : World} {b off n cap k : Nat} {l : List Value} (h : Leads w (some ⟨b, off, none⟩) n cap l) (hl : l.length = n) (hk : k ≤ n) : Leads w (some ⟨b, off + k, none⟩) (n - k) (cap - k) (l.drop k) := by
 obtain ⟨h1, h2, ⟨h, h'⟩ | ⟨b', off', e, h3, h4⟩⟩ := h
 ·refine ⟨by omega, by omega, .inl ⟨by omega, ?_⟩⟩
  rw [show l = [] from List.eq_nil_of_length_eq_zero (by omega)]; simp
 ·cases e
  refine ⟨by omega, by omega, .inr ⟨b, off + k, rfl, h3, fun i v hv => ?_⟩⟩
  have := h4 (k + i) v (by rw [← hv, List.getElem?_drop])
  rw [Nat.add_assoc]; exact this
def Fresh (e : TypeId) (size n : Nat) (cs : List Value) (w : World) (en : Ending) (w' : World) : Prop :=
 ∃ v, en = .returned v ∧ w'.ownsRow w.heap.size e size v n cs ∧ Below w.heap.size w w'
theorem cell_add {w : World} {b o j : Nat} {v : Value} (h : w.cell? ⟨b, o + j, none⟩ = some v) : w.cell? ((⟨b, o, none⟩ : Addr).add j) = some v := by
 rcases j with _ | j
 ·simpa [Addr.add] using h
 ·simpa [Addr.add] using h
theorem Leads.of_own1 {W : World} {base : Nat} {e : TypeId} {size n cap : Nat} {a : Option Addr} {xs : List Value} (h : W.ownsRow base e size (.slice a n cap) n xs) : Leads W a n cap xs := by
 obtain ⟨a', c', e, hl⟩ := Leads.of_own h
 simp only [Value.slice.injEq, true_and] at e
 obtain ⟨rfl, rfl⟩ := e
 exact hl
theorem Leads.vtake {w : World} {a : Option Addr} {n c m : Nat} {l : List Value} (h : Leads w a n c l) (hl : l.length = n) (hm : m ≤ n) : Leads w a m c (l.take m) := by
 obtain ⟨h1, h2, ⟨h3, h4⟩ | ⟨b, off, h3, h4, h5⟩⟩ := h
 ·obtain rfl : m = 0 := by omega
  exact ⟨by omega, h2, .inl ⟨rfl, by simp⟩⟩
 ·refine ⟨by omega, h2, .inr ⟨b, off, h3, h4, fun i v hv => h5 i v ?_⟩⟩
  rw [List.getElem?_take] at hv
  split at hv
  ·exact hv
  ·cases hv
theorem take_snoc {α : Type} {l : List α} {k : Nat} {x : α} (h : l[k]? = some x) : l.take (k + 1) = l.take k ++ [x] := by rw [List.take_add_one, h]; rfl
theorem wcell_ex {l : List Nat} {k : Nat} {u : Value} (h : (wcells l)[k]? = some u) : ∃ x, l[k]? = some x ∧ u = .int .u64 ((x : Nat) : Int) := by
 unfold wcells at h
 rw [List.getElem?_map] at h
 cases hx : l[k]? with
 | none => rw [hx] at h; cases h
 | some x => rw [hx] at h; injection h with h; exact ⟨x, rfl, h.symm⟩
theorem wcells_one (l : List Nat) : ∀ u ∈ wcells l, u.oneCell' = true := by
 intro u hu
 obtain ⟨x, -, rfl⟩ := List.mem_map.1 hu
 rfl
theorem wcells_len (l : List Nat) : (wcells l).length = l.length := by simp [wcells]
theorem wcells_app (l r : List Nat) : wcells (l ++ r) = wcells l ++ wcells r := by simp [wcells]
theorem wcells_set (l : List Nat) (i x : Nat) : (wcells l).set i (.int .u64 x) = wcells (l.set i x) := by simp [wcells, List.map_set]
def bcells (l : List Bool) : List Value := l.map Value.bool
theorem bcell_at {l : List Bool} {k : Nat} {x : Bool} (h : l[k]? = some x) : (bcells l)[k]? = some (.bool x) := by unfold bcells; rw [List.getElem?_map, h]; rfl
theorem bcell_ex {l : List Bool} {k : Nat} {u : Value} (h : (bcells l)[k]? = some u) : ∃ x, l[k]? = some x ∧ u = .bool x := by
 unfold bcells at h
 rw [List.getElem?_map] at h
 cases hx : l[k]? with
 | none => rw [hx] at h; cases h
 | some x => rw [hx] at h; injection h with h; exact ⟨x, rfl, h.symm⟩
theorem bcells_one (l : List Bool) : ∀ u ∈ bcells l, u.oneCell' = true := by
 intro u hu
 obtain ⟨x, -, rfl⟩ := List.mem_map.1 hu
 rfl
theorem bcells_len (l : List Bool) : (bcells l).length = l.length := by simp [bcells]
/-- Values are put into a variable of one's own, cell by cell. -/
theorem put2 {V : World} {Y : Nat} {z0 z1 : Value} {T : TypeId} (h : V.heap[Y]? = some (.cells #[z0, z1] T (0, 0))) (v0 v1 : Value) :
  ∃ V', V' = (V.setCell ⟨Y, 0, none⟩ v0).setCell ⟨Y, 1, none⟩ v1 ∧ V'.heap[Y]? = some (.cells #[v0, v1] T (0, 0)) ∧ (∀ (k : Nat) (o : Obj), k ≠ Y → V.heap[k]? = some o → V'.heap[k]? = some o) ∧ ∀ (B : Nat) (w : World), B ≤ Y → Below B w V → Below B w V' := by
 have h0 := slD (i := 0) h v0
 exact ⟨_, rfl, slD (i := 1) h0 v1, fun k o hk ho => olD (olD ho hk _) hk _, fun B w hB hb => (hb.setCell hB _).setCell hB _⟩
theorem put4 {V : World} {Y : Nat} {z0 z1 z2 z3 : Value} {T : TypeId} (h : V.heap[Y]? = some (.cells #[z0, z1, z2, z3] T (0, 0))) (v0 v1 v2 v3 : Value) :
  ∃ V', V' = (((V.setCell ⟨Y, 0, none⟩ v0).setCell ⟨Y, 1, none⟩ v1).setCell ⟨Y, 2, none⟩ v2).setCell ⟨Y, 3, none⟩ v3 ∧ V'.heap[Y]? = some (.cells #[v0, v1, v2, v3] T (0, 0)) ∧ (∀ (k : Nat) (o : Obj), k ≠ Y → V.heap[k]? = some o → V'.heap[k]? = some o) ∧ ∀ (B : Nat) (w : World), B ≤ Y → Below B w V → Below B w V' := by
 have h0 := slD (i := 0) h v0
 have h1 := slD (i := 1) h0 v1
 have h2 := slD (i := 2) h1 v2
 exact ⟨_, rfl, slD (i := 3) h2 v3, fun k o hk ho => olD (olD (olD (olD ho hk _) hk _) hk _) hk _, fun B w hB hb => (((hb.setCell hB _).setCell hB _).setCell hB _).setCell hB _⟩
/-- A copy into a block of one's own; all other blocks stay. -/
theorem wp_copyK {P : Program} {w : World} {ops : Array Oper} {rest : List Oper} {o : Oper} {a : Act} {Q : Exit → Act → World → Prop} (hgd : o.guard = none) (d s : Operand) (dT sT : TypeId)
  (ho : o.op = .call { callee := .builtin .copy, args := #[d, s], argTypes := #[dT, sT] }) (elem : TypeId) (hu : P.underlying dT = some (.slice elem)) (hsz : (P.info? elem).map (·.size) = some 1)
  (dp sp : Option Addr) (dLen dCap sLen sCap : Nat) (hd : a.eval d = .slice dp dLen dCap) (hs : a.eval s = .slice sp sLen sCap)
  (g off : Nat) (cur : List Value) (t : TypeId) (hg : w.heap[g]? = some (.cells cur.toArray t (0, 0))) (cs : List Value) (hn : cs.length = Nat.min sLen dLen)
  (hpos : 0 < cs.length → dp = some ⟨g, off, none⟩ ∧ ∃ ad, sp = some ad ∧ ∀ j v, cs[j]? = some v → w.cell? (ad.add j) = some v)
  (hfit : off + cs.length ≤ cur.length) (h1 : ∀ v ∈ cs, v.oneCell' = true)
  (h : ∀ w', Hid (w'.heap[g]? = some (.cells (splice cur off cs).toArray t (0, 0)) ∧ (∀ k, k ≠ g → w'.heap[k]? = w.heap[k]?) ∧ ∀ (B : Nat) (w0 : World), B ≤ g → Below B w0 w → Below B w0 w') → wpList P ops Q rest (a.put o.dst (goInt cs.length)) w') :
  wpList P ops Q (o :: rest) a w := by
 by_cases h0 : cs.length = 0
 ·obtain rfl : cs = [] := List.eq_nil_of_length_eq_zero h0
  refine wpList_copy_nothing hgd d s dT sT ho elem hu hsz dp sp dLen dCap sLen sCap hd hs (by simpa using hn.symm) ?_
  exact h w (hid ⟨by simpa [splice] using hg, fun k _ => rfl, fun B w0 _ hb => hb⟩)
 ·obtain ⟨rfl, ad, rfl, hsrc⟩ := hpos (by omega)
  refine wpList_copy_own hgd d s dT sT ho elem hu hsz g off dLen dCap ad sLen sCap hd hs cur.toArray t hg cs hn hsrc (by simpa using hfit) h1 ?_
  exact h _ (hid ⟨by simpa [splice] using setRow_heap w g _ _ t _ hg, fun k hk => setRow_other w g k _ hk, fun B w0 hB hb => below_setRow hb hB _⟩)
/-- Each k-th cell of a known block. -/
theorem at_block {W : World} {b : Nat} {cur : Array Value} {e : TypeId} {fr : Nat × Nat} (h : W.heap[b]? = some (.cells cur e fr)) {i : Nat} {v : Value} (hv : cur[i]? = some v) : W.cell? ⟨b, i, none⟩ = some v := (cell_of_row W b i cur e fr h).trans hv
end Go.Proofs.YtipohagcppfgiaaGreat
